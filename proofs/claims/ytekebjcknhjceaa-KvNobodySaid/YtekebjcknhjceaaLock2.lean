/- Walk of (*lock.Table).Take on a table without a map: it tells OK and has the one lock. Condition: the table has no map yet. -/
import Derived.Test.YtekebjcknhjceaaLock1
namespace Go.Proofs.Ytekebjcknhjceaa
open Go.RowKit Go.Mine
open Go.ChangeMaps (setBlock)
set_option linter.unusedVariables false
set_option linter.unusedSimpArgs false

/-- A table at a place: the cell 'off' of block b0 holds the map's value; the map's block, if there is one, is among F. -/
structure TabAt (w : World) (b0 off : Nat) (cs : Array Value) (T : TypeId) (F : Nat → Prop) (L : Tab) : Prop where
  ex : ∃ mo, w.heap[b0]? = some (.cells cs T (0, 0)) ∧ cs[off]? = some (.map mo) ∧ MapO eK2 Value.bool w mo L ∧ (∀ b, mo = some b → F b)

def TakeDone (L : Tab) (o k : Int) (al : Bool) (b0 off : Nat) (cs : Array Value) (T : TypeId) (F : Nat → Prop) (w : World) (e : Ending) (w' : World) : Prop :=
  ∃ n c L' mo', takeSpec L o k al c = (n, L') ∧ e = .returned (.int .i64 n) ∧ TabAt w' b0 off (cs.setIfInBounds off (.map mo')) T (fun i => F i ∨ w.heap.size ≤ i) L' ∧ Fr (fun i => i = b0 ∨ F i) w w'

theorem setCell_heap {w : World} {b off : Nat} {cs : Array Value} {T : TypeId} {f : Nat × Nat} (h : w.heap[b]? = some (.cells cs T f)) (v : Value) : (w.setCell ⟨b, off, none⟩ v).heap[b]? = some (.cells (cs.setIfInBounds off v) T f) := by
  simp [World.setCell, Array.getElem?_modify, h]

theorem takeDone_none {o k : Int} {al : Bool} {b0 off : Nat} {cs : Array Value} {T : TypeId} {F : Nat → Prop} {w w2 w' : World} (h0 : w.heap[b0]? = some (.cells cs T (0, 0))) (hc : cs[off]? = some (.map none)) (g2 : Fr (fun _ => False) w w2)
    (hw' : w' = setBlock ((w2.alloc (.map #[] 0)).setCell ⟨b0, off, none⟩ (.map (some w2.heap.size))).drew w2.heap.size (.map (ents eK2 Value.bool [((k, o), al, 0)]) 1)) : TakeDone [] o k al b0 off cs T F w (.returned (.int .i64 0)) w' := by
  have hs := g2.size
  have hb0 : b0 < w.heap.size := (Array.getElem?_eq_some_iff.1 h0).1
  have hne : b0 ≠ w2.heap.size := by omega
  have a1 : (w2.alloc (.map #[] 0)).heap[b0]? = some (.cells cs T (0, 0)) := (g2.alloc _).at_ h0 id
  have a2 := setCell_heap (off := off) a1 (.map (some w2.heap.size))
  have m1 : (w2.alloc (.map #[] 0)).heap[w2.heap.size]? = some (.map #[] 0) := (MapKept.heap_alloc w2 _).1
  have m2 : ((w2.alloc (.map #[] 0)).setCell ⟨b0, off, none⟩ (.map (some w2.heap.size))).drew.heap[w2.heap.size]? = some (.map #[] 0) := by
    rw [← m1]; exact Below.heap_setCell _ _ _ _ (Ne.symm hne)
  subst hw'
  have f1 : Fr (fun i => i = b0 ∨ F i) w ((w2.alloc (.map #[] 0)).setCell ⟨b0, off, none⟩ (.map (some w2.heap.size))).drew := (((g2.mono (fun _ h => h.elim)).alloc _).setCell (.inl (.inl rfl)) _).drew
  refine ⟨0, 0, [((k, o), al, 0)], some w2.heap.size, ?_, rfl, ⟨some w2.heap.size, ?_, ?_, ⟨1, setBlock_same m2 _, ⟨by simp, by simp, by simp⟩⟩, fun b hb => .inr (by cases hb; omega)⟩, f1.setBlock (.inr hs) _⟩
  · simp [takeSpec, mget, mput]
  · refine Eq.trans ?_ a2
    simp only [ChangeMaps.setBlock, Array.getElem?_setIfInBounds]
    rw [if_neg (fun q => hne q.symm)]
    rfl
  · have : off < cs.size := (Array.getElem?_eq_some_iff.1 hc).1
    simp [this]

attribute [local go_sem] eK2 in
set_option maxHeartbeats 1000000 in
theorem take_none (b0 off : Nat) (o k : Int) (al : Bool) (w : World) (cs : Array Value) (T : TypeId) (F : Nat → Prop) (h0 : w.heap[b0]? = some (.cells cs T (0, 0))) (hcs : cs[off]? = some (.map none)) :
    Calls Try.prog 42 #[.pointer (some ⟨b0, off, none⟩), .int .i64 o, .int .i64 k, .bool al] w (TakeDone [] o k al b0 off cs T F w) := by
  have hc0 : w.cell? ⟨b0, off, none⟩ = some (.map none) := by rw [cell_of_row w b0 off cs T _ h0]; exact hcs
  have hf0 : w.frozen? ⟨b0, off, none⟩ = false := by simp [World.frozen?, h0]
  have hb0 : b0 < w.heap.size := World.block_lt_of_cell? _ _ hc0
  have hl0 : ∀ w', (Instr.lookup 65 (.map none) (.agg #[.int .i64 k, .int .i64 o]) true).run Try.prog w' = .ok (.tuple #[.bool false, .bool false]) w' :=
    fun w' => run_lookup_nil Try.underlying65 key53 (zero4 w') (k, o) true
  have hmn := fun w' => run_eql_map_nil (P := Try.prog) w' 65 101 4 none Try.underlying65
  have hln := fun w' ty => run_len (eK := eK2) (eV := Value.bool) (w := w') (ty := ty) (L := []) (mo := none) Try.underlying65 rfl
  have hrn := run_range_nil Try.underlying65
  have hmm := @run_makeMap Try.prog
  go_enter Try.func42, Try.ntmps42
  go_wp2
  go_quiet (fail)
  go_wp2
  refine wp_loop_once ?_
  go_wp2_with (at_next; refine wl_next_nil rfl rfl (r := w.heap.size + 1) rfl (by exact heap_last _ _ (by simp)) ?_)
  obtain ⟨w2, hw2⟩ : ∃ x, x = (((w.alloc (.cells #[.int .i64 k, .int .i64 o] 101)).drewN nq).alloc (.mapIter none 0 #[] 0)) := ⟨_, rfl⟩
  rw [← hw2]
  have g2 : Fr (fun _ => False) w w2 := hw2 ▸ (((Fr.refl _ _).alloc _).drewN nq).alloc _
  have hk2 : w2.heap[w.heap.size]? = some (.cells #[.int .i64 k, .int .i64 o] 101 (0, 0)) := by
    rw [hw2]; exact ((Fr.refl (fun _ => False) ((w.alloc (.cells #[.int .i64 k, .int .i64 o] 101)).drewN nq)).alloc _).at_ (MapKept.heap_alloc w _).1 id
  clear hw2
  have hs2 : w.heap.size ≤ w2.heap.size := g2.size
  have hc2 : w2.cell? ⟨b0, off, none⟩ = some (.map none) := g2.cell hc0 id
  have hf2 : w2.frozen? ⟨b0, off, none⟩ = false := by rw [← hf0]; exact World.frozen?_of_block (w := w) (g2.block b0 hb0 id)
  have hc3 : (w2.alloc (.map #[] 0)).cell? ⟨b0, off, none⟩ = some (.map none) := by rw [World.cell?_alloc_lt _ _ _ (by show b0 < _; omega)]; exact hc2
  have hf3 : (w2.alloc (.map #[] 0)).frozen? ⟨b0, off, none⟩ = false := by rw [World.frozen?_alloc_old _ _ _ (by show b0 ≠ _; omega)]; exact hf2
  refine stop ?_
  have H0 := hid h0
  have HCS := hid hcs
  clear h0 hcs hc0 hf0
  go_wp2
  have hb02 : b0 < w2.heap.size := by omega
  have c1 : ((w2.alloc (.map #[] 0)).setCell ⟨b0, off, none⟩ (.map (some w2.heap.size))).cell? ⟨b0, off, none⟩ = some (.map (some w2.heap.size)) := World.cell?_setCell_same _ _ _ hc3
  have hkw : w.heap.size < w2.heap.size := (Array.getElem?_eq_some_iff.1 hk2).1
  have hk3 : ((w2.alloc (.map #[] 0)).setCell ⟨b0, off, none⟩ (.map (some w2.heap.size))).heap[w.heap.size]? = some (.cells #[.int .i64 k, .int .i64 o] 101 (0, 0)) := by
    rw [Below.heap_setCell _ _ _ _ (by show w.heap.size ≠ b0; omega), Below.heap_alloc _ _ _ hkw]; exact hk2
  have c2 := cell_of_row _ _ 0 _ _ _ hk3
  have c3 := cell_of_row _ _ 1 _ _ _ hk3
  have m2 : MapAt eK2 Value.bool ((w2.alloc (.map #[] 0)).setCell ⟨b0, off, none⟩ (.map (some w2.heap.size))).drew w2.heap.size [] 0 := by
    refine ⟨?_, ⟨by simp, by simp, by simp⟩⟩
    show ((w2.alloc (.map #[] 0)).setCell ⟨b0, off, none⟩ (.map (some w2.heap.size))).heap[w2.heap.size]? = _
    rw [Below.heap_setCell _ _ _ _ (by show w2.heap.size ≠ b0; omega)]; exact (MapKept.heap_alloc w2 _).1
  have hu := run_update Try.underlying65 key53 m2 (k, o) al
  simp only [mput, mget, List.find?_nil, Option.map_none, Option.isSome_none, Bool.false_eq_true, if_false, List.nil_append, eK2] at hu
  clear hk2 hk3 m2 hc2 hf2 hc3 hf3
  generalize hw3 : (w2.alloc (.map #[] 0)).setCell ⟨b0, off, none⟩ (.map (some w2.heap.size)) = w3 at *
  have Hw3 := hid hw3
  clear hw3
  go_region
  all_goals
    go_wp2
    go_ret
    exact takeDone_none H0.out HCS.out g2 (by rw [Hw3.out])
end Go.Proofs.Ytekebjcknhjceaa

/- Texts of this seat, put together: Lock. -/
import Derived.Test.YtdejbinmnoabeaaGreatRows
import Derived.Test.YtdejbinmnoabeaaGreatBm0
import Derived.WalkSpells
import Derived.WalkLawsBesides
import Derived.StillTailTactics
import Derived.Deep.DeepCutAuto
import Derived.Deep.CutBlock
import Derived.Deep.LoopGhost
namespace Go.Proofs.YtdejbinmnoabeaaGreat.K
open Go.RowKit Go.Mine
set_option linter.unusedVariables false
set_option linter.unusedSimpArgs false
set_option maxRecDepth 100000 in
theorem key53 : KeyOk Tryz.prog 162 eK2 := by
  refine struct2Key Tryz.underlying162 ?_ ?_
  · intro e x w
    have h0 := Go.run_part_plain (P := Tryz.prog) (w := w) (e := 3) (by kernel_rfl) (xs := #[.int .i64 x.1, .int .i64 x.2]) (off := 0) rfl
    have h1 := Go.run_part_plain (P := Tryz.prog) (w := w) (e := 3) (by kernel_rfl) (xs := #[.int .i64 x.1, .int .i64 x.2]) (off := 1) rfl
    have hc : ∀ v, (Instr.checkKey e 9999 3 (.int .i64 v)).run Tryz.prog w = .ok () w := fun v => MapKept.run_checkKey Tryz.underlying3 (by simp [MapKept.IsKey]) e 9998
    unfold Instr.checkKey
    simp [run_underlying Tryz.underlying162, Result.andThen, eK2, h0, h1, hc]
  · intro x y w
    unfold Op.equal Op.maxDepth 
    simp only [eK2]
    rw [run_equalIn_struct _ _ _ _ _ (by kernel_rfl) (by kernel_rfl)]
    go_simp
    by_cases h1 : x.1 = y.1 <;> by_cases h2 : x.2 = y.2 <;> simp [h1, h2, Prod.ext_iff]
theorem zero4 (w : World) : (zeroValue 4).run Tryz.prog w = .ok (.bool false) w := by kernel_rfl
abbrev Tab := List ((Int × Int) × Bool × Nat)
end Go.Proofs.YtdejbinmnoabeaaGreat.K
namespace Go.Proofs.YtdejbinmnoabeaaGreat.K
open Go.RowKit Go.Mine
open Go.ChangeMaps (setBlock)
set_option linter.unusedVariables false
set_option linter.unusedSimpArgs false
def conf (o k : Int) (al was : Bool) (e : (Int × Int) × Bool × Nat) : Bool := e.1.1 == k && e.1.2 != o && (e.2.1 || al || was)
def takeSpec (L : Tab) (o k : Int) (al : Bool) (c : Nat) : Int × Tab :=
  if L.any (conf o k al ((mget (k, o) L).getD false)) then (120, L)
  else if !(mget (k, o) L).isSome && decide (64 ≤ L.length) then (5, L)
  else (0, mput (k, o) ((mget (k, o) L).getD false || al) c L)
def TakePost (L : Tab) (o k : Int) (al : Bool) (b c : Nat) (w : World) (e : Ending) (w' : World) : Prop :=
  ∃ n L' c', takeSpec L o k al c = (n, L') ∧ e = .returned (.int .i64 n) ∧ MapAt eK2 Value.bool w' b L' c' ∧ Fr (· = b) w w'
theorem any_false {L : Tab} {f : (Int × Int) × Bool × Nat → Bool} (h : ∀ y ∈ L, y ∈ ([] : Tab) ∨ f y = false) : L.any f = false := by
  rw [List.any_eq_false]
  intro y hy
  rcases h y hy with h | h
  · cases h
  · simp [h]
theorem takePost_full {L : Tab} {o k : Int} {al was have_ : Bool} {b c : Nat} {w w' : World} (Hw : was = (mget (k, o) L).getD false) (Hh : have_ = (mget (k, o) L).isSome)
    (hno : L.any (conf o k al was) = false) (h1 : have_ = false) (h2 : 64 ≤ L.length) (fr : Fr (fun _ => False) w w') (hm : MapAt eK2 Value.bool w' b L c) : TakePost L o k al b c w (.returned (.int .i64 5)) w' := by
  subst Hw
  refine ⟨5, L, c, ?_, rfl, hm, fr.mono (fun _ h => h.elim)⟩
  simp [takeSpec, hno, ← Hh, h1, h2]
theorem takePost_ok {L : Tab} {o k : Int} {al was have_ x : Bool} {b c : Nat} {w w' wr : World} (Hw : was = (mget (k, o) L).getD false) (Hh : have_ = (mget (k, o) L).isSome)
    (hno : L.any (conf o k al was) = false) (hroom : ¬ (have_ = false ∧ 64 ≤ L.length)) (fr : Fr (fun _ => False) w wr) (hm : MapAt eK2 Value.bool wr b L c) {cc : Nat} (hcc : cc = (if (mget (k, o) L).isSome then c else c + 1)) (hx : x = (was || al))
    (hw' : w' = setBlock wr.drew b (.map (ents eK2 Value.bool (mput (k, o) x c L)) cc)) : TakePost L o k al b c w (.returned (.int .i64 0)) w' := by
  subst Hw hw' hx hcc
  have hm' : MapAt eK2 Value.bool wr.drew b L c := hm.fr (Fr.refl (fun _ => False) wr).drew id
  refine ⟨0, _, _, ?_, rfl, hm'.put (k, o) _, ((fr.mono (S' := (· = b)) (fun _ h => h.elim)).drew).setBlock (b := b) (.inl rfl) _⟩
  rw [Hh] at hroom
  unfold takeSpec
  rw [if_neg (by simp [hno]), if_neg (by simpa using hroom)]
theorem takePost_locked {L : Tab} {o k : Int} {al was : Bool} {b c : Nat} {w w' : World} (Hw : was = (mget (k, o) L).getD false) {y : (Int × Int) × Bool × Nat} (hy : y ∈ L) (hc : conf o k al was y = true)
    (fr : Fr (fun _ => False) w w') (hm : MapAt eK2 Value.bool w' b L c) : TakePost L o k al b c w (.returned (.int .i64 120)) w' := by
  subst Hw
  refine ⟨120, L, c, ?_, rfl, hm, fr.mono (fun _ h => h.elim)⟩
  unfold takeSpec
  rw [if_pos (List.any_eq_true.2 ⟨y, hy, hc⟩)]
theorem next_left {L left : Tab} {f : (Int × Int) × Bool × Nat → Bool} {c : Nat} {k : Int × Int} {v : Bool} {st : Nat} (ho : Ok L c) (hsub : ∀ y ∈ left, y ∈ L) (hx : (k, v, st) ∈ L) (h : ∀ y ∈ L, y ∈ left ∨ f y = false) (hf : f (k, v, st) = false) :
    ∀ y ∈ L, y ∈ left.filter (fun y => decide (y.2.2 ≠ st)) ∨ f y = false := by
  intro y hy
  rcases h y hy with hl | hn
  · by_cases e : y.2.2 = st
    · have : y = (k, v, st) := by
        exact ho.born_inj hy hx e
      exact .inr (this ▸ hf)
    · exact .inl (List.mem_filter.2 ⟨hl, by simpa using e⟩)
  · exact .inr hn
attribute [local go_sem] eK2 in
set_option maxHeartbeats 1000000 in
theorem take_some (b0 off : Nat) (b c : Nat) (L : Tab) (o k : Int) (al : Bool) (w : World) (hc0 : w.cell? ⟨b0, off, none⟩ = some (.map (some b))) (hm : MapAt eK2 Value.bool w b L c) :
    Calls Tryz.prog 91 #[.pointer (some ⟨b0, off, none⟩), .int .i64 o, .int .i64 k, .bool al] w (TakePost L o k al b c w) := by
  obtain ⟨was, hwas⟩ : ∃ x, x = (mget (k, o) L).getD false := ⟨_, rfl⟩
  obtain ⟨have_, hhave⟩ : ∃ x, x = (mget (k, o) L).isSome := ⟨_, rfl⟩
  have hv : ((mget (k, o) L).map Value.bool).getD (.bool false) = .bool was := by rw [hwas]; cases mget (k, o) L <;> rfl
  have hl : ∀ w', MapAt eK2 Value.bool w' b L c → (Instr.lookup 70 (.map (some b)) (.agg #[.int .i64 k, .int .i64 o]) true).run Tryz.prog w' = .ok (.tuple #[.bool was, .bool have_]) w' := by
    intro w' h
    have := run_lookup Tryz.underlying70 key53 h (zero4 w') (k, o) true
    simpa [eK2, hv, ← hhave] using this
  have Hw := hid hwas
  have Hh := hid hhave
  have hb0 : b0 < w.heap.size := World.block_lt_of_cell? _ _ hc0
  have hne : b0 ≠ b := by
    rintro rfl
    have := hm.heap
    simp [World.cell?, this] at hc0
  have fA : Fr (fun _ => False) w (w.alloc (.cells #[.int .i64 k, .int .i64 o] 162)) := (Fr.refl _ _).alloc _
  have hmA := hm.fr fA id
  have hlk : ∀ n, (Instr.lookup 70 (.map (some b)) (.agg #[.int .i64 k, .int .i64 o]) true).run Tryz.prog ((w.alloc (.cells #[.int .i64 k, .int .i64 o] 162)).drewN n) = .ok (.tuple #[.bool was, .bool have_]) ((w.alloc (.cells #[.int .i64 k, .int .i64 o] 162)).drewN n) :=
    fun n => hl _ (hmA.fr ((Fr.refl (fun _ => False) _).drewN n) id)
  clear hwas hhave hv
  have HL := hid hl
  clear hl
  go_enter Tryz.func91, Tryz.ntmps91
  go_wp2
  go_quiet (fail)
  clear hlk
  have hmB : MapAt eK2 Value.bool ((w.alloc (.cells #[.int .i64 k, .int .i64 o] 162)).drewN nq) b L c := hmA.fr ((Fr.refl (fun _ => False) _).drewN nq) id
  go_wp2_with (at_range; refine wl_range rfl rfl Tryz.underlying70 rfl hmB (w.heap.size + 1) (by simp) ?_; intro w2 hi2 f2 s2)
  have g2 : Fr (fun _ => False) w w2 := (fA.drewN nq).trans f2 (by simp)
  have hk2 : w2.heap[w.heap.size]? = some (.cells #[.int .i64 k, .int .i64 o] 162 (0, 0)) := f2.at_ (MapKept.heap_alloc w _).1 id
  go_frame
  go_loopg [] (L.length + 1) (fun n wr => ∃ left, n = left.length + 1 ∧ MapAt eK2 Value.bool wr b L c ∧ IterAt wr (w.heap.size + 1) b c L left ∧ (∀ y ∈ L, y ∈ left ∨ conf o k al was y = false) ∧ Fr (fun _ => False) w wr ∧ wr.heap[w.heap.size]? = some (.cells #[.int .i64 k, .int .i64 o] 162 (0, 0)))
  case atStart => exact ⟨L, rfl, hmB.fr f2 id, hi2, fun y hy => .inl hy, g2, hk2⟩
  case round =>
    obtain ⟨left, hn, hmr, hir, hcf, fr, hkr⟩ := hrel
    have hkr0 : wr.cell? ⟨w.heap.size, 0, none⟩ = some (.int .i64 k) := cell_of_row wr _ 0 _ _ _ hkr
    have hkr1 : wr.cell? ⟨w.heap.size, 1, none⟩ = some (.int .i64 o) := cell_of_row wr _ 1 _ _ _ hkr
    have HN := hid hn
    have HC := hid hcf
    have HK := hid hkr
    clear hn hcf hkr
    have hcr := fr.cell hc0 id
    have hlen := fun ty => run_len (ty := ty) Tryz.underlying70 (show MapO eK2 Value.bool wr (some b) L from ⟨c, hmr⟩)
    obtain ⟨cc, hcc⟩ : ∃ x, x = (if (mget (k, o) L).isSome then c else c + 1) := ⟨_, rfl⟩
    have Hcc := hid hcc
    clear hcc
    have hupd : ∀ v, (Instr.mapUpdate 70 (.map (some b)) (.agg #[.int .i64 k, .int .i64 o]) (.bool v)).run Tryz.prog wr.drew = .ok () (setBlock wr.drew b (.map (ents eK2 Value.bool (mput (k, o) v c L)) cc)) :=
      fun v => Hcc.out ▸ run_update Tryz.underlying70 key53 (hmr.fr (Fr.refl (fun _ => False) wr).drew id) (k, o) v
    have hmn := Go.run_eql_map_nil (P := Tryz.prog) wr 70 162 4 (some b) Tryz.underlying70
    go_wp2_with (at_next; refine wl_next rfl rfl rfl hmr hir (fun hnil => ?_) (fun k' a' st hx w3 hxL hm3 hi3 hen f3 s3 => ?_))
    · refine stop ?_
      have hno : L.any (conf o k al was) = false := by have h0 := hnil.out; subst h0; exact any_false HC.out
      have HNo := hid hno
      clear hno
      cases have_
      · by_cases h64 : (64 : Int) ≤ L.length
        · go_wp2
          go_ret
          exact takePost_full Hw.out Hh.out HNo.out rfl (by omega) fr hmr
        · cases was
          all_goals
            go_wp2
            go_region
            all_goals
              go_wp2
              go_ret
              refine takePost_ok Hw.out Hh.out HNo.out (by omega) fr hmr Hcc.out ?_ rfl; simp
      · cases was
        all_goals
          go_wp2
          go_region
          all_goals
            go_wp2
            go_ret
            refine takePost_ok Hw.out Hh.out HNo.out (by simp) fr hmr Hcc.out ?_ rfl; simp
    · refine stop ?_
      clear hupd hlen hcr
      clear Hcc hmn
      cases al <;> cases was
      all_goals
        go_wp2
        all_goals
          first
          | (go_ret
             refine takePost_locked Hw.out hxL ?_ ((fr.trans f3 (by intro i hi; right; omega)).alloc _) (hm3.fr ((Fr.refl (fun _ => False) w3).alloc _) id)
             simp_all [conf])
          | (go_roundg ((left.filter (fun y => decide (y.2.2 ≠ st))).length + 1)
             case measure => rw [HN.out]; exact Nat.succ_lt_succ (mfilter_lt hx (by simp))
             case rel =>
               refine ⟨_, rfl, hm3.fr ((Fr.refl (fun _ => False) w3).alloc _) id, hi3.fr ((Fr.refl (fun _ => False) w3).alloc _) id, next_left hm3.ok hir.sub hxL HC.out ?_, (fr.trans f3 (by intro i hi; right; omega)).alloc _, ((Fr.refl (fun _ => False) w3).alloc _).at_ (f3.at_ HK.out (by simp)) id⟩
               simp_all [conf])
end Go.Proofs.YtdejbinmnoabeaaGreat.K
namespace Go.Proofs.YtdejbinmnoabeaaGreat.K
open Go.RowKit Go.Mine
open Go.ChangeMaps (setBlock)
set_option linter.unusedVariables false
set_option linter.unusedSimpArgs false
structure TabAt (w : World) (b0 off : Nat) (cs : Array Value) (T : TypeId) (F : Nat → Prop) (L : Tab) : Prop where
  ex : ∃ mo, w.heap[b0]? = some (.cells cs T (0, 0)) ∧ cs[off]? = some (.map mo) ∧ MapO eK2 Value.bool w mo L ∧ (∀ b, mo = some b → F b)
def TakeDone (L : Tab) (o k : Int) (al : Bool) (b0 off : Nat) (cs : Array Value) (T : TypeId) (F : Nat → Prop) (w : World) (e : Ending) (w' : World) : Prop :=
  ∃ n c L' mo', takeSpec L o k al c = (n, L') ∧ e = .returned (.int .i64 n) ∧ TabAt w' b0 off (cs.setIfInBounds off (.map mo')) T (fun i => F i ∨ w.heap.size ≤ i) L' ∧ Fr (fun i => i = b0 ∨ F i) w w'
theorem setCell_heap {w : World} {b off : Nat} {cs : Array Value} {T : TypeId} {f : Nat × Nat} (h : w.heap[b]? = some (.cells cs T f)) (v : Value) : (w.setCell ⟨b, off, none⟩ v).heap[b]? = some (.cells (cs.setIfInBounds off v) T f) := by
  simp [World.setCell, Array.getElem?_modify, h]
theorem takeDone_none {o k : Int} {al : Bool} {b0 off : Nat} {cs : Array Value} {T : TypeId} {F : Nat → Prop} {w w2 w' : World} (h0 : w.heap[b0]? = some (.cells cs T (0, 0))) (hc : cs[off]? = some (.map none)) (g2 : Fr (fun _ => False) w w2)
    (hw' : w' = setBlock ((w2.alloc (.map #[] 0)).setCell ⟨b0, off, none⟩ (.map (some w2.heap.size))).drew w2.heap.size (.map (ents eK2 Value.bool [((k, o), al, 0)]) 1)) : TakeDone [] o k al b0 off cs T F w (.returned (.int .i64 0)) w' := by
  have hs := g2.size
  have hb0 : b0 < w.heap.size := (Array.getElem?_eq_some_iff.1 h0).1
  have hne : b0 ≠ w2.heap.size := by omega
  have a1 : (w2.alloc (.map #[] 0)).heap[b0]? = some (.cells cs T (0, 0)) := (g2.alloc _).at_ h0 id
  have a2 := setCell_heap (off := off) a1 (.map (some w2.heap.size))
  have m1 : (w2.alloc (.map #[] 0)).heap[w2.heap.size]? = some (.map #[] 0) := (MapKept.heap_alloc w2 _).1
  have m2 : ((w2.alloc (.map #[] 0)).setCell ⟨b0, off, none⟩ (.map (some w2.heap.size))).drew.heap[w2.heap.size]? = some (.map #[] 0) := by
    rw [← m1]; exact Below.heap_setCell _ _ _ _ (Ne.symm hne)
  subst hw'
  have f1 : Fr (fun i => i = b0 ∨ F i) w ((w2.alloc (.map #[] 0)).setCell ⟨b0, off, none⟩ (.map (some w2.heap.size))).drew := (((g2.mono (fun _ h => h.elim)).alloc _).setCell (.inl (.inl rfl)) _).drew
  refine ⟨0, 0, [((k, o), al, 0)], some w2.heap.size, ?_, rfl, ⟨some w2.heap.size, ?_, ?_, ⟨1, setBlock_same m2 _, ⟨by simp, by simp, by simp⟩⟩, fun b hb => .inr (by cases hb; omega)⟩, f1.setBlock (.inr hs) _⟩
  · simp [takeSpec, mget, mput]
  · refine Eq.trans ?_ a2
    simp only [ChangeMaps.setBlock, Array.getElem?_setIfInBounds]
    rw [if_neg (fun q => hne q.symm)]
    rfl
  · have : off < cs.size := (Array.getElem?_eq_some_iff.1 hc).1
    simp [this]
attribute [local go_sem] eK2 in
set_option maxHeartbeats 1000000 in
theorem take_none (b0 off : Nat) (o k : Int) (al : Bool) (w : World) (cs : Array Value) (T : TypeId) (F : Nat → Prop) (h0 : w.heap[b0]? = some (.cells cs T (0, 0))) (hcs : cs[off]? = some (.map none)) :
    Calls Tryz.prog 91 #[.pointer (some ⟨b0, off, none⟩), .int .i64 o, .int .i64 k, .bool al] w (TakeDone [] o k al b0 off cs T F w) := by
  have hc0 : w.cell? ⟨b0, off, none⟩ = some (.map none) := by rw [cell_of_row w b0 off cs T _ h0]; exact hcs
  have hf0 : w.frozen? ⟨b0, off, none⟩ = false := by simp [World.frozen?, h0]
  have hb0 : b0 < w.heap.size := World.block_lt_of_cell? _ _ hc0
  have hl0 : ∀ w', (Instr.lookup 70 (.map none) (.agg #[.int .i64 k, .int .i64 o]) true).run Tryz.prog w' = .ok (.tuple #[.bool false, .bool false]) w' :=
    fun w' => run_lookup_nil Tryz.underlying70 key53 (zero4 w') (k, o) true
  have hmn := fun w' => run_eql_map_nil (P := Tryz.prog) w' 70 162 4 none Tryz.underlying70
  have hln := fun w' ty => run_len (eK := eK2) (eV := Value.bool) (w := w') (ty := ty) (L := []) (mo := none) Tryz.underlying70 rfl
  have hrn := run_range_nil Tryz.underlying70
  have hmm := @run_makeMap Tryz.prog
  go_enter Tryz.func91, Tryz.ntmps91
  go_wp2
  go_quiet (fail)
  go_wp2
  refine wp_loop_once ?_
  go_wp2_with (at_next; refine wl_next_nil rfl rfl (r := w.heap.size + 1) rfl (by exact heap_last _ _ (by simp)) ?_)
  obtain ⟨w2, hw2⟩ : ∃ x, x = (((w.alloc (.cells #[.int .i64 k, .int .i64 o] 162)).drewN nq).alloc (.mapIter none 0 #[] 0)) := ⟨_, rfl⟩
  rw [← hw2]
  have g2 : Fr (fun _ => False) w w2 := hw2 ▸ (((Fr.refl _ _).alloc _).drewN nq).alloc _
  have hk2 : w2.heap[w.heap.size]? = some (.cells #[.int .i64 k, .int .i64 o] 162 (0, 0)) := by
    rw [hw2]; exact ((Fr.refl (fun _ => False) ((w.alloc (.cells #[.int .i64 k, .int .i64 o] 162)).drewN nq)).alloc _).at_ (MapKept.heap_alloc w _).1 id
  clear hw2
  have hs2 : w.heap.size ≤ w2.heap.size := g2.size
  have hc2 : w2.cell? ⟨b0, off, none⟩ = some (.map none) := g2.cell hc0 id
  have hf2 : w2.frozen? ⟨b0, off, none⟩ = false := by rw [← hf0]; exact World.frozen?_of_block (w := w) (g2.block b0 hb0 id)
  have hc3 : (w2.alloc (.map #[] 0)).cell? ⟨b0, off, none⟩ = some (.map none) := by rw [World.cell?_alloc_lt _ _ _ (by show b0 < _; omega)]; exact hc2
  have hf3 : (w2.alloc (.map #[] 0)).frozen? ⟨b0, off, none⟩ = false := by rw [World.frozen?_alloc_old _ _ _ (by show b0 ≠ _; omega)]; exact hf2
  refine stop ?_
  have H0 := hid h0
  have HCS := hid hcs
  clear h0 hcs hc0 hf0
  go_wp2
  have hb02 : b0 < w2.heap.size := by omega
  have c1 : ((w2.alloc (.map #[] 0)).setCell ⟨b0, off, none⟩ (.map (some w2.heap.size))).cell? ⟨b0, off, none⟩ = some (.map (some w2.heap.size)) := World.cell?_setCell_same _ _ _ hc3
  have hkw : w.heap.size < w2.heap.size := (Array.getElem?_eq_some_iff.1 hk2).1
  have hk3 : ((w2.alloc (.map #[] 0)).setCell ⟨b0, off, none⟩ (.map (some w2.heap.size))).heap[w.heap.size]? = some (.cells #[.int .i64 k, .int .i64 o] 162 (0, 0)) := by
    rw [Below.heap_setCell _ _ _ _ (by show w.heap.size ≠ b0; omega), Below.heap_alloc _ _ _ hkw]; exact hk2
  have c2 := cell_of_row _ _ 0 _ _ _ hk3
  have c3 := cell_of_row _ _ 1 _ _ _ hk3
  have m2 : MapAt eK2 Value.bool ((w2.alloc (.map #[] 0)).setCell ⟨b0, off, none⟩ (.map (some w2.heap.size))).drew w2.heap.size [] 0 := by
    refine ⟨?_, ⟨by simp, by simp, by simp⟩⟩
    show ((w2.alloc (.map #[] 0)).setCell ⟨b0, off, none⟩ (.map (some w2.heap.size))).heap[w2.heap.size]? = _
    rw [Below.heap_setCell _ _ _ _ (by show w2.heap.size ≠ b0; omega)]; exact (MapKept.heap_alloc w2 _).1
  have hu := run_update Tryz.underlying70 key53 m2 (k, o) al
  simp only [mput, mget, List.find?_nil, Option.map_none, Option.isSome_none, Bool.false_eq_true, if_false, List.nil_append, eK2] at hu
  clear hk2 hk3 m2 hc2 hf2 hc3 hf3
  generalize hw3 : (w2.alloc (.map #[] 0)).setCell ⟨b0, off, none⟩ (.map (some w2.heap.size)) = w3 at *
  have Hw3 := hid hw3
  clear hw3
  go_region
  all_goals
    go_wp2
    go_ret
    exact takeDone_none H0.out HCS.out g2 (by rw [Hw3.out])
end Go.Proofs.YtdejbinmnoabeaaGreat.K
namespace Go.Proofs.YtdejbinmnoabeaaGreat.K
open Go.RowKit Go.Mine
open Go.ChangeMaps (setBlock)
set_option linter.unusedVariables false
set_option linter.unusedSimpArgs false
def own (o : Int) (e : (Int × Int) × Bool × Nat) : Bool := e.1.2 == o
def dropL (o : Int) (L : Tab) : Tab := L.filter (fun e => !own o e)
def dropN (o : Int) (L : Tab) : Nat := (L.filter (own o)).length
def DropInv (o : Int) (L L1 left : Tab) (n : Int) : Prop :=
  dropL o L1 = dropL o L ∧ (∀ e ∈ L1, own o e = true → e ∈ left) ∧ n + (left.filter (own o)).length = dropN o L
theorem dropInv_start (o : Int) (L : Tab) : DropInv o L L L 0 := ⟨rfl, fun _ h _ => h, by simp [dropN]⟩
theorem dropInv_end {o : Int} {L L1 : Tab} {n : Int} (h : DropInv o L L1 [] n) : L1 = dropL o L ∧ n = dropN o L := by
  obtain ⟨h1, h2, h3⟩ := h
  refine ⟨?_, by simpa using h3⟩
  rw [← h1, dropL]
  symm
  rw [List.filter_eq_self]
  intro x hx
  cases ho : own o x
  · rfl
  · exact absurd (h2 x hx ho) (by simp)
theorem dropInv_keep {o : Int} {L L1 l1 l2 : Tab} {x : (Int × Int) × Bool × Nat} {n : Int} (h : DropInv o L L1 (l1 ++ x :: l2) n) (hx : own o x = false) : DropInv o L L1 (l1 ++ l2) n := by
  obtain ⟨h1, h2, h3⟩ := h
  refine ⟨h1, fun e he ho => ?_, ?_⟩
  · have := h2 e he ho
    simp only [List.mem_append, List.mem_cons] at this ⊢
    rcases this with h | h | h
    · exact .inl h
    · subst h; rw [hx] at ho; cases ho
    · exact .inr h
  · simpa [List.filter_append, List.filter_cons, hx] using h3
theorem dropInv_del {o : Int} {L L1 l1 l2 : Tab} {x : (Int × Int) × Bool × Nat} {n : Int} (h : DropInv o L L1 (l1 ++ x :: l2) n) (hx : own o x = true) : DropInv o L (mdel x.1 L1) (l1 ++ l2) (n + 1) := by
  obtain ⟨h1, h2, h3⟩ := h
  refine ⟨?_, fun e he ho => ?_, ?_⟩
  · rw [← h1, dropL, dropL, mdel, List.filter_filter]
    apply List.filter_congr
    intro e _
    by_cases q : e.1 = x.1
    · have : own o e = true := by simp only [own] at hx ⊢; rw [q]; exact hx
      simp [this]
    · simp [q]
  · have hm := List.mem_filter.1 he
    have := h2 e hm.1 ho
    simp only [List.mem_append, List.mem_cons] at this ⊢
    rcases this with h | h | h
    · exact .inl h
    · subst h; simp at hm
    · exact .inr h
  · simp only [List.filter_append, List.filter_cons, hx, if_true, List.length_append, List.length_cons] at h3 ⊢
    omega
def DropPost (L : Tab) (o : Int) (b c : Nat) (w : World) (e : Ending) (w' : World) : Prop :=
  e = .returned (.tuple #[.int .i64 (dropN o L), .int .i64 0]) ∧ MapAt eK2 Value.bool w' b (dropL o L) c ∧ Fr (· = b) w w'
attribute [local go_sem] eK2 in
set_option maxHeartbeats 1000000 in
theorem drop_some (b0 off : Nat) (b c : Nat) (L : Tab) (o : Int) (w : World) (hc0 : w.cell? ⟨b0, off, none⟩ = some (.map (some b))) (hm : MapAt eK2 Value.bool w b L c) (hsz : L.length ≤ 1000000) :
    Calls Tryz.prog 92 #[.pointer (some ⟨b0, off, none⟩), .int .i64 o] w (DropPost L o b c w) := by
  have hb0 : b0 < w.heap.size := World.block_lt_of_cell? _ _ hc0
  have hne : b0 ≠ b := by
    rintro rfl
    have := hm.heap
    simp [World.cell?, this] at hc0
  go_enter Tryz.func92, Tryz.ntmps92
  go_wp2_with (at_range; refine wl_range rfl rfl Tryz.underlying70 rfl hm w.heap.size rfl ?_; intro w2 hi2 f2 s2)
  go_frame
  go_loopg [6] (L.length + 1) (fun n v wr => ∃ left L1 m, n = left.length + 1 ∧ v = .int .i64 m ∧ 0 ≤ m ∧ MapAt eK2 Value.bool wr b L1 c ∧ IterAt wr w.heap.size b c L1 left ∧ DropInv o L L1 left m ∧ Fr (· = b) w wr)
  case atStart => exact ⟨L, L, 0, rfl, rfl, Int.le_refl _, hm.fr f2 id, hi2, dropInv_start o L, f2.mono (fun _ h => h.elim)⟩
  case round =>
    obtain ⟨left, L1, m, hn, rfl, hm0, hmr, hir, hinv, fr⟩ := hrel
    have HN := hid hn
    have HI := hid hinv
    have hm1 : m ≤ 1000000 := by
      have := hinv.2.2
      have : dropN o L ≤ L.length := List.length_filter_le _ _
      omega
    clear hn hinv
    go_wp2_with (at_next; refine wl_next2 rfl rfl rfl hmr hir (fun hnil => ?_) (fun k' a' st l1 l2 hl w3 hxL hm3 hi3 hen f3 s3 => ?_))
    · refine stop ?_
      go_wp2
      go_ret2
      have h0 := hnil.out
      subst h0
      obtain ⟨e1, e2⟩ := dropInv_end HI.out
      refine ⟨?_, e1 ▸ hmr, fr⟩
      rw [← e2]
      rfl
    · refine stop ?_
      have hL := hl.out
      subst hL
      have fr3 : Fr (· = b) w w3 := fr.trans f3 (by intro i hi; right; omega)
      have hcr3 := fr3.cell hc0 hne
      have hrb := hi3.ne hm3
      cases ho : (k'.2 == o)
      rotate_left
      · go_wp2
        have hmA : MapAt eK2 Value.bool (w3.alloc (.cells #[.int .i64 k'.1, .int .i64 k'.2] 162)).drew b L1 c := hm3.fr ((Fr.refl (fun _ => False) w3).alloc _).drew id
        have hiA : IterAt (w3.alloc (.cells #[.int .i64 k'.1, .int .i64 k'.2] 162)).drew w.heap.size b c L1 (l1 ++ l2) := hi3.fr ((Fr.refl (fun _ => False) w3).alloc _).drew id
        obtain ⟨w4, hrun, hm4, f4, s4⟩ := run_delete (P := Tryz.prog) (ty := 0) Tryz.underlying70 key53 hmA k'
        simp only [eK2] at hrun
        have hcA := ((Fr.refl (fun _ => False) w3).alloc (.cells #[.int .i64 k'.1, .int .i64 k'.2] 162)).cell hcr3 id
        have fA : Fr (· = b) w w4 := (fr3.alloc _).drew.trans f4 (by intro i hi; left; exact hi)
        have hi4 := (hiA.del k' (hir.fresh hmr.ok)).fr f4 (by simpa using hrb)
        have HI4 := hid hi4
        clear hi4 hiA hmA
        go_region
        all_goals
          go_wp2
          go_roundg ((l1 ++ l2).length + 1)
          case measure => rw [HN.out]; simp
          case rel => exact ⟨_, _, _, rfl, rfl, by omega, hm4, HI4.out, dropInv_del HI.out (by simpa only [own] using ho), fA⟩
      · go_wp2
        go_roundg ((l1 ++ l2).length + 1)
        case measure => rw [HN.out]; simp
        case rel => exact ⟨_, _, _, rfl, rfl, hm0, hm3.fr ((Fr.refl (fun _ => False) w3).alloc _) id, hi3.fr ((Fr.refl (fun _ => False) w3).alloc _) id, dropInv_keep HI.out (by simpa only [own] using ho), fr3.alloc _⟩
end Go.Proofs.YtdejbinmnoabeaaGreat.K
namespace Go.Proofs.YtdejbinmnoabeaaGreat.K
open Go.RowKit Go.Mine
open Go.ChangeMaps (setBlock)
set_option linter.unusedVariables false
set_option linter.unusedSimpArgs false
def grow (F : Nat → Prop) (w : World) : Nat → Prop := fun i => F i ∨ w.heap.size ≤ i
def TabA (w : World) (b0 off : Nat) (cs : Array Value) (T : TypeId) (F : Nat → Prop) (A : LTab) : Prop := ∃ L, kv L = A ∧ TabAt w b0 off cs T F L
theorem takeSpec_A {L L' : Tab} {o k n : Int} {al : Bool} {c : Nat} (h : takeSpec L o k al c = (n, L')) : takeA (kv L) o k al = (n, kv L') := by
  have ha : (kv L).any (confA o k al ((aget (k, o) (kv L)).getD false)) = L.any (conf o k al ((mget (k, o) L).getD false)) := by
    rw [kv_get]; simp only [kv, List.any_map]; rfl
  unfold takeSpec at h
  unfold takeA
  rw [ha, ← kv_get, kv_length]
  split at h
  · rw [if_pos (by assumption)]; cases h; rfl
  · rw [if_neg (by assumption)]
    split at h
    · rw [if_pos (by assumption)]; cases h; rfl
    · rw [if_neg (by assumption)]; cases h; rw [kv_put]
theorem dropL_A (o : Int) (L : Tab) : kv (dropL o L) = dropA o (kv L) := kv_filter (fun e => !ownA o e) L
theorem dropN_A (o : Int) (L : Tab) : dropN o L = dropNA o (kv L) := by
  unfold dropN dropNA
  rw [← kv_length, ← kv_filter (ownA o) L]; rfl
theorem TabAt.cell {w : World} {b0 off : Nat} {cs : Array Value} {T : TypeId} {F : Nat → Prop} {L : Tab} {mo : Option Nat} (h0 : w.heap[b0]? = some (.cells cs T (0, 0))) (h1 : cs[off]? = some (.map mo)) : w.cell? ⟨b0, off, none⟩ = some (.map mo) := by
  rw [cell_of_row w b0 off cs T _ h0]; exact h1
theorem TabA.keys {w : World} {b0 off : Nat} {cs : Array Value} {T : TypeId} {F : Nat → Prop} {A : LTab} (h : TabA w b0 off cs T F A) : A.Pairwise (fun x y => x.1 ≠ y.1) := by
  obtain ⟨L, rfl, ⟨mo, _, _, hm, _⟩⟩ := h
  obtain ⟨c, ho⟩ := hm.ok
  exact kv_keys ho
theorem take_A {b0 off : Nat} {cs : Array Value} {T : TypeId} {F : Nat → Prop} {A : LTab} {w : World} (h : TabA w b0 off cs T F A) (o k : Int) (al : Bool) :
    Calls Tryz.prog 91 #[.pointer (some ⟨b0, off, none⟩), .int .i64 o, .int .i64 k, .bool al] w fun e w' =>
      e = .returned (.int .i64 (takeA A o k al).1) ∧ (∃ mo', TabA w' b0 off (cs.setIfInBounds off (.map mo')) T (grow F w) (takeA A o k al).2) ∧ Fr (fun i => i = b0 ∨ F i) w w' := by
  obtain ⟨L, rfl, ⟨mo, h0, h1, hm, hF⟩⟩ := h
  cases mo with
  | none =>
    have : L = [] := hm
    subst this
    refine (take_none b0 off o k al w cs T F h0 h1).mono ?_
    rintro e w' ⟨n, c, L', mo', hs, he, ht, hf⟩
    rw [takeSpec_A hs]
    exact ⟨he, ⟨mo', L', rfl, ht⟩, hf⟩
  | some b =>
    obtain ⟨c, hm⟩ := hm
    have hc0 := TabAt.cell (F := F) (L := L) h0 h1
    have hne : b0 ≠ b := by
      rintro rfl
      have := hm.heap
      rw [h0] at this
      cases this
    refine (take_some b0 off b c L o k al w hc0 hm).mono ?_
    rintro e w' ⟨n, L', c', hs, he, ht, hf⟩
    rw [takeSpec_A hs]
    have hcs : cs.setIfInBounds off (.map (some b)) = cs := by
      apply Array.ext_getElem?
      intro i
      rw [Array.getElem?_setIfInBounds]
      split
      · rename_i q; subst q
        have : off < cs.size := (Array.getElem?_eq_some_iff.1 h1).1
        rw [if_pos this, h1]
      · rfl
    refine ⟨he, ⟨some b, L', rfl, ⟨some b, ?_, ?_, ⟨c', ht⟩, fun b' hb' => .inl (hF b' hb')⟩⟩, hf.mono (fun i hi => .inr (by rw [hi]; exact hF b rfl))⟩
    · rw [hcs]; exact hf.at_ h0 hne
    · rw [hcs]; exact h1
set_option maxHeartbeats 400000 in
theorem drop_none (b0 off : Nat) (o : Int) (w : World) (hc0 : w.cell? ⟨b0, off, none⟩ = some (.map none)) :
    Calls Tryz.prog 92 #[.pointer (some ⟨b0, off, none⟩), .int .i64 o] w fun e w' => e = .returned (.tuple #[.int .i64 0, .int .i64 0]) ∧ Fr (fun _ => False) w w' := by
  have hrn := run_range_nil Tryz.underlying70 w
  go_enter Tryz.func92, Tryz.ntmps92
  go_wp2
  refine wp_loop_once ?_
  go_wp2_with (at_next; refine wl_next_nil rfl rfl (r := w.heap.size) rfl (by exact heap_last _ _ rfl) ?_)
  refine stop ?_
  go_wp2
  go_ret2
  exact ⟨rfl, (Fr.refl _ _).alloc _⟩
theorem drop_A {b0 off : Nat} {cs : Array Value} {T : TypeId} {F : Nat → Prop} {A : LTab} {w : World} (h : TabA w b0 off cs T F A) (hr : A.length ≤ 1000000) (o : Int) :
    Calls Tryz.prog 92 #[.pointer (some ⟨b0, off, none⟩), .int .i64 o] w fun e w' =>
      e = .returned (.tuple #[.int .i64 (dropNA o A), .int .i64 0]) ∧ TabA w' b0 off cs T F (dropA o A) ∧ Fr F w w' := by
  obtain ⟨L, rfl, ⟨mo, h0, h1, hm, hF⟩⟩ := h
  have hc0 := TabAt.cell (F := F) (L := L) h0 h1
  cases mo with
  | none =>
    have : L = [] := hm
    subst this
    refine (drop_none b0 off o w hc0).mono ?_
    rintro e w' ⟨he, hf⟩
    exact ⟨he, ⟨[], rfl, ⟨none, hf.at_ h0 id, h1, rfl, fun _ h => by cases h⟩⟩, hf.mono (fun _ h => h.elim)⟩
  | some b =>
    obtain ⟨c, hm⟩ := hm
    have hne : b0 ≠ b := by
      rintro rfl
      have := hm.heap
      rw [h0] at this
      cases this
    refine (drop_some b0 off b c L o w hc0 hm (by rw [← kv_length]; exact hr)).mono ?_
    rintro e w' ⟨he, ht, hf⟩
    rw [← dropN_A]
    exact ⟨he, ⟨dropL o L, dropL_A o L, ⟨some b, hf.at_ h0 hne, h1, ⟨c, ht⟩, hF⟩⟩, hf.mono (fun i hi => by rw [hi]; exact hF b rfl)⟩
theorem TabA.fr {S : Nat → Prop} {w w' : World} {b0 off : Nat} {cs : Array Value} {T : TypeId} {F : Nat → Prop} {A : LTab} (h : TabA w b0 off cs T F A) (hf : Fr S w w') (hb : ¬ S b0) (hS : ∀ i, F i → ¬ S i) : TabA w' b0 off cs T F A := by
  obtain ⟨L, rfl, ⟨mo, h0, h1, hm, hF⟩⟩ := h
  exact ⟨L, rfl, ⟨mo, hf.at_ h0 hb, h1, hm.fr hf (fun b q => hS b (hF b q)), hF⟩⟩
theorem TabA.mono {w : World} {b0 off : Nat} {cs : Array Value} {T : TypeId} {F F' : Nat → Prop} {A : LTab} (h : TabA w b0 off cs T F A) (hF' : ∀ i, F i → F' i) : TabA w b0 off cs T F' A := by
  obtain ⟨L, rfl, ⟨mo, h0, h1, hm, hF⟩⟩ := h
  exact ⟨L, rfl, ⟨mo, h0, h1, hm, fun b q => hF' b (hF b q)⟩⟩
end Go.Proofs.YtdejbinmnoabeaaGreat.K

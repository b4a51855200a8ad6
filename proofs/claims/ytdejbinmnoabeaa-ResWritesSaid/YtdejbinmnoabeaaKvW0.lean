/- Walks of the store of keys, the small functions: New, at, set, fit, gone, Clone, Value, Busy. Conditions: the blocks read as KvM says. -/
import Derived.Test.YtdejbinmnoabeaaKvM
namespace Go.Mine
theorem atI_found {k : Int} {l : List Ch} {i : Nat} {x : Ch} (hx : l[i]? = some x) (h : (x.key == k) = true) (hn : ∀ j, j < i → ∀ y, l[j]? = some y → (y.key == k) = false) : chAt k l = some i ∧ atI k l = i := by
  have hi := (List.getElem?_eq_some_iff.1 hx).1
  have e : l[i] = x := (List.getElem?_eq_some_iff.1 hx).2
  have : chAt k l = some i := by
    unfold chAt
    rw [List.findIdx?_eq_some_iff_getElem]
    refine ⟨hi, by rw [e]; exact h, fun j hj => ?_⟩
    have := hn j hj l[j] (List.getElem?_eq_getElem (by omega))
    simp [this]
  exact ⟨this, by simp [atI, this]⟩
theorem atI_none {k : Int} {l : List Ch} (hn : ∀ j, j < l.length → ∀ y, l[j]? = some y → (y.key == k) = false) : chAt k l = none ∧ atI k l = -1 := by
  have : chAt k l = none := by
    unfold chAt
    rw [List.findIdx?_eq_none_iff]
    intro x hx
    obtain ⟨j, hj⟩ := List.getElem?_of_mem hx
    exact hn j (List.getElem?_eq_some_iff.1 hj).1 x hj
  exact ⟨this, by simp [atI, this]⟩
end Go.Mine
namespace Go.Proofs.Ytdejbinmnoabeaa.K
variable {Pz : List Value}
open Go.RowKit Go.Mine Go.Proofs.YtdejbinmnoabeaaW.PrintWords
open Go.ChangeMaps (setBlock)
set_option linter.unusedVariables false
set_option linter.unusedSimpArgs false

theorem key3 : KeyOk Try.prog 3 (Value.int .i64) := intKey Try.underlying3
theorem zero103 (w : World) : (zeroValue 103).run Try.prog w = .ok (.pointer none) w := by kernel_rfl
theorem info62 : (Try.prog.info? 62).map (fun i => (i.zero, i.size, i.bytes)) = some (some (.agg #[.int .i64 0, .int .i64 0, .int .u64 0]), 3, 24) := by kernel_rfl

/-- A slice of changes that is read. -/
def ChAt (w : World) (B : Nat) (A : Option Addr) (l : List Ch) : Prop :=
  ∀ i x, l[i]? = some x → ∃ b off, A = some ⟨b, off, none⟩ ∧ b < B ∧ ∀ j v, (encCh x)[j]? = some v → w.cell? ⟨b, off + i * 3 + j, none⟩ = some v
theorem ChAt.below {w w' : World} {B : Nat} {A : Option Addr} {l : List Ch} (h : ChAt w B A l) (hb : Below B w w') : ChAt w' B A l := by
  intro i x hx
  obtain ⟨b, off, e, hlt, hc⟩ := h i x hx
  exact ⟨b, off, e, hlt, fun j v hv => (hb.cell (p := ⟨b, off + i * 3 + j, none⟩) hlt).trans (hc j v hv)⟩
theorem ChAt.up {w : World} {B B' : Nat} {A : Option Addr} {l : List Ch} (h : ChAt w B A l) (hb : B ≤ B') : ChAt w B' A l := by
  intro i x hx
  obtain ⟨b, off, e, hlt, hc⟩ := h i x hx
  exact ⟨b, off, e, Nat.lt_of_lt_of_le hlt hb, hc⟩
theorem ChRow.at_ {w : World} {v : Value} {l : List Ch} (h : ChRow w v l) : ∃ A c, v = .slice A l.length c ∧ l.length ≤ c ∧ ChAt w w.heap.size A l := by
  obtain ⟨h0, inner, ho, hr⟩ := h
  rcases ho.2 with ⟨hv, h0⟩ | ⟨g, cap, cur, hv, hg, hh, h1, h2, h3, h4⟩
  · have hl : l = [] := List.eq_nil_of_length_eq_zero h0
    subst hl
    exact ⟨none, 0, hv, Nat.le_refl _, fun i x hx => by simp at hx⟩
  · refine ⟨_, cap, hv, h1, fun i x hx => ⟨g, 0, rfl, (Array.getElem?_eq_some_iff.1 hh).1, fun j u hu => ?_⟩⟩
    have h5 : (inner.drop (i * 3)).take 3 = encCh x := hr.2 i x hx
    have hj : j < 3 := by have := (List.getElem?_eq_some_iff.1 hu).1; simpa [encCh] using this
    have h6 : inner[i * 3 + j]? = some u := by
      rw [← h5, List.getElem?_take_of_lt hj, List.getElem?_drop] at hu
      exact hu
    have := ho.cells (g := g) (by rw [hv]; simp [Value.ownBlock]) _ u h6
    rw [add_plain] at this
    rw [Nat.zero_add]
    exact this

set_option maxHeartbeats 1000000 in
theorem idx_any (A : Option Addr) (l : List Ch) (c : Nat) (key : Int) (bx : Nat) (w : World) (hl : ChAt w w.heap.size A l) (hk : w.cell? ⟨bx, 0, none⟩ = some (.int .i64 key)) (hn : l.length ≤ 1000000000000) :
    Calls Try.prog 80 #[.slice A l.length c, .func (.func 81) #[] #[.pointer (some ⟨bx, 0, none⟩)]] w fun e w' => e = .returned (.int .i64 (atI key l)) ∧ Below w.heap.size w w' := by
  have hbx : bx < w.heap.size := World.block_lt_of_cell? _ _ hk
  go_enter Try.func80, Try.ntmps80
  go_wp2
  go_loopg [8] (l.length + 1) (fun n v wr => ∃ i : Nat, v = .int .i64 i ∧ i ≤ l.length ∧ n = l.length + 1 - i ∧ (∀ j, j < i → ∀ y, l[j]? = some y → (y.key == key) = false) ∧ Below w.heap.size w wr)
  case atStart => exact ⟨0, rfl, Nat.zero_le _, rfl, fun j hj => absurd hj (by omega), Below.refl _ _⟩
  case round =>
    obtain ⟨i, rfl, hi, hn', hno, hb⟩ := hrel
    have HN := hid hn'
    have HNO := hid hno
    clear hn' hno
    by_cases h1 : i < l.length
    · obtain ⟨x, hx⟩ : ∃ x, l[i]? = some x := ⟨_, List.getElem?_eq_getElem h1⟩
      obtain ⟨b, off, rfl, hb1, hc⟩ := (hl.below hb) i x hx
      have k0 : wr.cell? ⟨b, off + i * 3, none⟩ = some (.int .i64 x.kind) := hc 0 _ rfl
      have k1 := hc 1 _ rfl
      have k2 := hc 2 _ rfl
      have hkr := (hb.cell (p := ⟨bx, 0, none⟩) hbx).trans hk
      have hkr' : (wr.alloc (.cells #[.int .i64 x.kind, .int .i64 x.key, .int .u64 x.val] 62)).cell? ⟨bx, 0, none⟩ = some (.int .i64 key) := by
        rw [World.cell?_alloc_lt _ _ _ (World.block_lt_of_cell? _ _ hkr)]; exact hkr
      have HX := hid hx
      clear hc hx hl
      cases hq : (x.key == key)
      · go_wp2
        go_roundg (l.length + 1 - (i + 1))
        case measure => rw [HN.out]; omega
        case rel =>
          refine ⟨i + 1, by go_num, by omega, rfl, fun j hj y hy => ?_, hb.alloc hb.size _⟩
          by_cases hji : j = i
          · subst hji; rw [HX.out] at hy; cases hy; exact hq
          · exact HNO.out j (by omega) y hy
      · go_wp2
        go_ret
        exact ⟨by rw [(atI_found HX.out hq HNO.out).2]; rfl, hb.alloc hb.size _⟩
    · have : i = l.length := by omega
      subst this
      go_wp2
      go_ret
      exact ⟨by rw [(atI_none HNO.out).2]; rfl, hb⟩

set_option maxHeartbeats 1000000 in
theorem at_any (wb : Nat) (v : Value) (l : List Ch) (key : Int) (w : World) (hv : w.cell? ⟨wb, 0, none⟩ = some v) (hr : ChRow w v l) (hn : l.length ≤ 1000000000000) :
    Calls Try.prog 74 #[.pointer (some ⟨wb, 0, none⟩), .int .i64 key] w fun e w' => e = .returned (.int .i64 (atI key l)) ∧ Below w.heap.size w w' := by
  obtain ⟨A, c, rfl, hc, hl⟩ := hr.at_
  have hbx : wb < w.heap.size := World.block_lt_of_cell? _ _ hv
  clear hr
  go_enter Try.func74, Try.ntmps74
  go_wp2_with fail
  have hb : Below w.heap.size w (w.alloc (.cells #[.int .i64 key] 3)) := (Below.refl _ _).alloc (Nat.le_refl _) _
  refine (idx_any A l c key w.heap.size _ ((hl.below hb).up hb.size) (by simp) hn).mono ?_
  rintro e w2 ⟨rfl, f2⟩
  go_wp2_with fail
  go_ret
  exact ⟨rfl, hb.trans (f2.mono hb.size)⟩


theorem fit_any (p : Option Addr) (n : Int) (w : World) : Calls Try.prog 62 #[.pointer p, .int .i64 n] w fun e w' => e = .returned (.int .i64 (if p = none then 6 else if n < 1 then 1 else 0)) ∧ w = w' := by
  go_enter Try.func62, Try.ntmps62
  cases p with
  | none =>
    go_wp2
    go_ret
    exact ⟨rfl, rfl⟩
  | some p =>
    by_cases h : n < 1
    · go_wp2
      go_ret
      exact ⟨by simp [h], rfl⟩
    · go_wp2
      go_ret
      exact ⟨by simp [h], rfl⟩

def SetPost (Pz : List Value) (n : Int) (nb b0 : Nat) (vs : List Int) (th : List Bool) (mo lo : Option Nat) (L : List (Int × Nat × Nat)) (w : World) (e : Ending) (w' : World) : Prop :=
  e = .returned (.tuple #[]) ∧ ∃ mo' L', w'.heap[b0]? = some (.cells (storeCells Pz vs th mo' lo) 91 (0, 0)) ∧ MapO (Value.int .i64) ptrV w' mo' L' ∧ kv L' = aput n nb (kv L) ∧ (mo' = mo ∨ ∀ b, mo' = some b → w.heap.size ≤ b) ∧ Fr (fun i => i = b0 ∨ mo = some i) w w'

set_option maxRecDepth 100000 in
set_option maxHeartbeats 1000000 in
theorem set_any (n : Int) (nb b0 : Nat) (vs : List Int) (th : List Bool) (mo lo : Option Nat) (L : List (Int × Nat × Nat)) (w : World) (h1 : vs.length = 16) (h2 : th.length = 16) (hb : w.heap[b0]? = some (.cells (storeCells Pz vs th mo lo) 91 (0, 0))) (hm : MapO (Value.int .i64) ptrV w mo L) :
    Calls Try.prog 70 #[.pointer (some ⟨b0, 0, none⟩), .int .i64 n, .pointer (some ⟨nb, 0, none⟩)] w (SetPost Pz n nb b0 vs th mo lo L w) := by
  have hc : w.cell? ⟨b0, 32, none⟩ = some (.map mo) := by rw [cell_of_row w b0 32 _ _ _ hb]; exact sc32 h1 h2 mo lo
  have hf0 : w.frozen? ⟨b0, 32, none⟩ = false := by simp [World.frozen?, hb]
  have hb0 : b0 < w.heap.size := (Array.getElem?_eq_some_iff.1 hb).1
  have hmn := fun w' mo => run_eql_map_nil (P := Try.prog) w' 78 3 103 mo Try.underlying78
  cases mo with
  | none =>
    have hL : L = [] := hm
    subst hL
    have hmn' := fun w' => hmn w' none
    clear hmn
    have hmm := @run_makeMap Try.prog
    have HB := hid hb
    clear hb hm
    go_enter Try.func70, Try.ntmps70
    have hc3 : (w.alloc (.map #[] 0)).cell? ⟨b0, 32, none⟩ = some (.map none) := by rw [World.cell?_alloc_lt _ _ _ (by show b0 < _; omega)]; exact hc
    have hf3 : (w.alloc (.map #[] 0)).frozen? ⟨b0, 32, none⟩ = false := by rw [World.frozen?_alloc_old _ _ _ (by show b0 ≠ _; omega)]; exact hf0
    have hne : b0 ≠ w.heap.size := by omega
    have a1 := setCell_heap (off := 32) HB.out (.map (some w.heap.size))
    rw [set32 h1 h2] at a1
    have hsz : (w.setCell ⟨b0, 32, none⟩ (.map (some w.heap.size))).heap.size = w.heap.size := by simp [World.setCell]
    have a2 : ((w.setCell ⟨b0, 32, none⟩ (.map (some w.heap.size))).alloc (.map #[] 0)).heap[b0]? = some (.cells (storeCells Pz vs th (some w.heap.size) lo) 91 (0, 0)) := (Below.heap_alloc _ _ _ (by omega)).trans a1
    have m1 : ((w.setCell ⟨b0, 32, none⟩ (.map (some w.heap.size))).alloc (.map #[] 0)).heap[w.heap.size]? = some (.map #[] 0) := by
      have := (MapKept.heap_alloc (w.setCell ⟨b0, 32, none⟩ (.map (some w.heap.size))) (.map #[] 0)).1
      rw [hsz] at this
      exact this
    have m2 : MapAt (Value.int .i64) ptrV ((w.setCell ⟨b0, 32, none⟩ (.map (some w.heap.size))).alloc (.map #[] 0)) w.heap.size [] 0 := ⟨m1, ⟨by simp, by simp, by simp⟩⟩
    have fA : Fr (fun i => i = b0) w ((w.setCell ⟨b0, 32, none⟩ (.map (some w.heap.size))).alloc (.map #[] 0)) := (Fr.setCell (S := fun i => i = b0) (p := ⟨b0, 32, none⟩) (Fr.refl _ w) (.inl rfl) _).alloc _
    have c1 : ((w.setCell ⟨b0, 32, none⟩ (.map (some w.heap.size))).alloc (.map #[] 0)).cell? ⟨b0, 32, none⟩ = some (.map (some w.heap.size)) := by rw [cell_of_row _ b0 32 _ _ _ a2]; exact sc32 h1 h2 _ lo
    obtain ⟨w5, c5, hu, hm5, f5, s5⟩ := run_update_at Try.underlying78 key3 m2 n nb
    have hb5 := f5.at_ a2 hne
    have HB5 := hid hb5
    have HM5 := hid hm5
    clear hb5 hm5 m2 m1 a2 a1 s5 hsz
    go_wp2
    go_end0
    exact ⟨rfl, some w.heap.size, _, HB5.out, ⟨c5, HM5.out⟩, by rw [kv_put], .inr (fun b hb => by cases hb; exact Nat.le_refl _), (fA.trans f5 (fun i hi => .inr (by omega))).mono (fun i hi => .inl hi)⟩
  | some b =>
    obtain ⟨c, hm⟩ := hm
    have hmn' := fun w' => hmn w' (some b)
    obtain ⟨w5, c5, hu, hm5, f5, s5⟩ := run_update_at Try.underlying78 key3 hm n nb
    have hne : b0 ≠ b := by
      rintro rfl
      have := hm.heap
      rw [hb] at this
      cases this
    have hb5 := f5.at_ hb hne
    have HB5 := hid hb5
    have HM5 := hid hm5
    clear hmn hb5 hm5 hb s5
    go_enter Try.func70, Try.ntmps70
    go_wp2
    go_end0
    exact ⟨rfl, some b, _, HB5.out, ⟨c5, HM5.out⟩, kv_put _ _ _ _, .inl rfl, f5.mono (fun i hi => .inr (by rw [hi]))⟩
end Go.Proofs.Ytdejbinmnoabeaa.K

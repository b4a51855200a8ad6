/- Texts of this seat, put together: KvW0, KvW1, KvW2, KvW3. -/
import Derived.Test.YtdejbinmnoabeaaBd8
import Derived.Test.YtdejbinmnoabeaaBd0
import Derived.Deep.RegionLaw
namespace Go.Mine
theorem atI_found {k : Int} {l : List Ch} {i : Nat} {x : Ch} (hx : l[i]? = some x) (h : (x.key == k) = true) (hn : ∀ j, j < i → ∀ y, l[j]? = some y → (y.key == k) = false) : chAt k l = some i ∧ atI k l = i := by
  have hi := (List.getElem?_eq_some_iff.1 hx).1
  have e : l[i] = x := (List.getElem?_eq_some_iff.1 hx).2
  have : chAt k l = some i := by
    unfold chAt
    rw [List.findIdx?_eq_some_iff_getElem]
    refine ⟨hi, by rw [e]; exact h, fun j hj => ?_⟩
    have := hn j hj l[j] (List.getElem?_eq_getElem (by omega))
    simp [this]
  exact ⟨this, by simp [atI, this]⟩
theorem atI_none {k : Int} {l : List Ch} (hn : ∀ j, j < l.length → ∀ y, l[j]? = some y → (y.key == k) = false) : chAt k l = none ∧ atI k l = -1 := by
  have : chAt k l = none := by
    unfold chAt
    rw [List.findIdx?_eq_none_iff]
    intro x hx
    obtain ⟨j, hj⟩ := List.getElem?_of_mem hx
    exact hn j (List.getElem?_eq_some_iff.1 hj).1 x hj
  exact ⟨this, by simp [atI, this]⟩
end Go.Mine
namespace Go.Proofs.Ytdejbinmnoabeaa.K
variable {Pz : List Value}
open Go.RowKit Go.Mine Go.Proofs.YtdejbinmnoabeaaW.PrintWords
open Go.ChangeMaps (setBlock)
set_option linter.unusedVariables false
set_option linter.unusedSimpArgs false
theorem key3 : KeyOk Try.prog 3 (Value.int .i64) := intKey Try.underlying3
theorem zero103 (w : World) : (zeroValue 103).run Try.prog w = .ok (.pointer none) w := by kernel_rfl
theorem info62 : (Try.prog.info? 62).map (fun i => (i.zero, i.size, i.bytes)) = some (some (.agg #[.int .i64 0, .int .i64 0, .int .u64 0]), 3, 24) := by kernel_rfl
def ChAt (w : World) (B : Nat) (A : Option Addr) (l : List Ch) : Prop :=
  ∀ i x, l[i]? = some x → ∃ b off, A = some ⟨b, off, none⟩ ∧ b < B ∧ ∀ j v, (encCh x)[j]? = some v → w.cell? ⟨b, off + i * 3 + j, none⟩ = some v
theorem ChAt.below {w w' : World} {B : Nat} {A : Option Addr} {l : List Ch} (h : ChAt w B A l) (hb : Below B w w') : ChAt w' B A l := by
  intro i x hx
  obtain ⟨b, off, e, hlt, hc⟩ := h i x hx
  exact ⟨b, off, e, hlt, fun j v hv => (hb.cell (p := ⟨b, off + i * 3 + j, none⟩) hlt).trans (hc j v hv)⟩
theorem ChAt.up {w : World} {B B' : Nat} {A : Option Addr} {l : List Ch} (h : ChAt w B A l) (hb : B ≤ B') : ChAt w B' A l := by
  intro i x hx
  obtain ⟨b, off, e, hlt, hc⟩ := h i x hx
  exact ⟨b, off, e, Nat.lt_of_lt_of_le hlt hb, hc⟩
theorem ChRow.at_ {w : World} {v : Value} {l : List Ch} (h : ChRow w v l) : ∃ A c, v = .slice A l.length c ∧ l.length ≤ c ∧ ChAt w w.heap.size A l := by
  obtain ⟨h0, inner, ho, hr⟩ := h
  rcases ho.2 with ⟨hv, h0⟩ | ⟨g, cap, cur, hv, hg, hh, h1, h2, h3, h4⟩
  · have hl : l = [] := List.eq_nil_of_length_eq_zero h0
    subst hl
    exact ⟨none, 0, hv, Nat.le_refl _, fun i x hx => by simp at hx⟩
  · refine ⟨_, cap, hv, h1, fun i x hx => ⟨g, 0, rfl, (Array.getElem?_eq_some_iff.1 hh).1, fun j u hu => ?_⟩⟩
    have h5 : (inner.drop (i * 3)).take 3 = encCh x := hr.2 i x hx
    have hj : j < 3 := by have := (List.getElem?_eq_some_iff.1 hu).1; simpa [encCh] using this
    have h6 : inner[i * 3 + j]? = some u := by
      rw [← h5, List.getElem?_take_of_lt hj, List.getElem?_drop] at hu
      exact hu
    have := ho.cells (g := g) (by rw [hv]; simp [Value.ownBlock]) _ u h6
    rw [add_plain] at this
    rw [Nat.zero_add]
    exact this
set_option maxHeartbeats 1000000 in
theorem idx_any (A : Option Addr) (l : List Ch) (c : Nat) (key : Int) (bx : Nat) (w : World) (hl : ChAt w w.heap.size A l) (hk : w.cell? ⟨bx, 0, none⟩ = some (.int .i64 key)) (hn : l.length ≤ 1000000000000) :
    Calls Try.prog 80 #[.slice A l.length c, .func (.func 81) #[] #[.pointer (some ⟨bx, 0, none⟩)]] w fun e w' => e = .returned (.int .i64 (atI key l)) ∧ Below w.heap.size w w' := by
  have hbx : bx < w.heap.size := World.block_lt_of_cell? _ _ hk
  go_enter Try.func80, Try.ntmps80
  go_wp2
  go_loopg [8] (l.length + 1) (fun n v wr => ∃ i : Nat, v = .int .i64 i ∧ i ≤ l.length ∧ n = l.length + 1 - i ∧ (∀ j, j < i → ∀ y, l[j]? = some y → (y.key == key) = false) ∧ Below w.heap.size w wr)
  case atStart => exact ⟨0, rfl, Nat.zero_le _, rfl, fun j hj => absurd hj (by omega), Below.refl _ _⟩
  case round =>
    obtain ⟨i, rfl, hi, hn', hno, hb⟩ := hrel
    have HN := hid hn'
    have HNO := hid hno
    clear hn' hno
    by_cases h1 : i < l.length
    · obtain ⟨x, hx⟩ : ∃ x, l[i]? = some x := ⟨_, List.getElem?_eq_getElem h1⟩
      obtain ⟨b, off, rfl, hb1, hc⟩ := (hl.below hb) i x hx
      have k0 : wr.cell? ⟨b, off + i * 3, none⟩ = some (.int .i64 x.kind) := hc 0 _ rfl
      have k1 := hc 1 _ rfl
      have k2 := hc 2 _ rfl
      have hkr := (hb.cell (p := ⟨bx, 0, none⟩) hbx).trans hk
      have hkr' : (wr.alloc (.cells #[.int .i64 x.kind, .int .i64 x.key, .int .u64 x.val] 62)).cell? ⟨bx, 0, none⟩ = some (.int .i64 key) := by
        rw [World.cell?_alloc_lt _ _ _ (World.block_lt_of_cell? _ _ hkr)]; exact hkr
      have HX := hid hx
      clear hc hx hl
      cases hq : (x.key == key)
      · go_wp2
        go_roundg (l.length + 1 - (i + 1))
        case measure => rw [HN.out]; omega
        case rel =>
          refine ⟨i + 1, by go_num, by omega, rfl, fun j hj y hy => ?_, hb.alloc hb.size _⟩
          by_cases hji : j = i
          · subst hji; rw [HX.out] at hy; cases hy; exact hq
          · exact HNO.out j (by omega) y hy
      · go_wp2
        go_ret
        exact ⟨by rw [(atI_found HX.out hq HNO.out).2]; rfl, hb.alloc hb.size _⟩
    · have : i = l.length := by omega
      subst this
      go_wp2
      go_ret
      exact ⟨by rw [(atI_none HNO.out).2]; rfl, hb⟩
set_option maxHeartbeats 1000000 in
theorem at_any (wb : Nat) (v : Value) (l : List Ch) (key : Int) (w : World) (hv : w.cell? ⟨wb, 0, none⟩ = some v) (hr : ChRow w v l) (hn : l.length ≤ 1000000000000) :
    Calls Try.prog 74 #[.pointer (some ⟨wb, 0, none⟩), .int .i64 key] w fun e w' => e = .returned (.int .i64 (atI key l)) ∧ Below w.heap.size w w' := by
  obtain ⟨A, c, rfl, hc, hl⟩ := hr.at_
  have hbx : wb < w.heap.size := World.block_lt_of_cell? _ _ hv
  clear hr
  go_enter Try.func74, Try.ntmps74
  go_wp2_with fail
  have hb : Below w.heap.size w (w.alloc (.cells #[.int .i64 key] 3)) := (Below.refl _ _).alloc (Nat.le_refl _) _
  refine (idx_any A l c key w.heap.size _ ((hl.below hb).up hb.size) (by simp) hn).mono ?_
  rintro e w2 ⟨rfl, f2⟩
  go_wp2_with fail
  go_ret
  exact ⟨rfl, hb.trans (f2.mono hb.size)⟩
theorem fit_any (p : Option Addr) (n : Int) (w : World) : Calls Try.prog 62 #[.pointer p, .int .i64 n] w fun e w' => e = .returned (.int .i64 (if p = none then 6 else if n < 1 then 1 else 0)) ∧ w = w' := by
  go_enter Try.func62, Try.ntmps62
  cases p with
  | none =>
    go_wp2
    go_ret
    exact ⟨rfl, rfl⟩
  | some p =>
    by_cases h : n < 1
    · go_wp2
      go_ret
      exact ⟨by simp [h], rfl⟩
    · go_wp2
      go_ret
      exact ⟨by simp [h], rfl⟩
def SetPost (Pz : List Value) (n : Int) (nb b0 : Nat) (vs : List Int) (th : List Bool) (mo lo : Option Nat) (L : List (Int × Nat × Nat)) (w : World) (e : Ending) (w' : World) : Prop :=
  e = .returned (.tuple #[]) ∧ ∃ mo' L', w'.heap[b0]? = some (.cells (storeCells Pz vs th mo' lo) 91 (0, 0)) ∧ MapO (Value.int .i64) ptrV w' mo' L' ∧ kv L' = aput n nb (kv L) ∧ (mo' = mo ∨ ∀ b, mo' = some b → w.heap.size ≤ b) ∧ Fr (fun i => i = b0 ∨ mo = some i) w w'
set_option maxRecDepth 100000 in
set_option maxHeartbeats 1000000 in
theorem set_any (n : Int) (nb b0 : Nat) (vs : List Int) (th : List Bool) (mo lo : Option Nat) (L : List (Int × Nat × Nat)) (w : World) (h1 : vs.length = 16) (h2 : th.length = 16) (hb : w.heap[b0]? = some (.cells (storeCells Pz vs th mo lo) 91 (0, 0))) (hm : MapO (Value.int .i64) ptrV w mo L) :
    Calls Try.prog 70 #[.pointer (some ⟨b0, 0, none⟩), .int .i64 n, .pointer (some ⟨nb, 0, none⟩)] w (SetPost Pz n nb b0 vs th mo lo L w) := by
  have hc : w.cell? ⟨b0, 32, none⟩ = some (.map mo) := by rw [cell_of_row w b0 32 _ _ _ hb]; exact sc32 h1 h2 mo lo
  have hf0 : w.frozen? ⟨b0, 32, none⟩ = false := by simp [World.frozen?, hb]
  have hb0 : b0 < w.heap.size := (Array.getElem?_eq_some_iff.1 hb).1
  have hmn := fun w' mo => run_eql_map_nil (P := Try.prog) w' 78 3 103 mo Try.underlying78
  cases mo with
  | none =>
    have hL : L = [] := hm
    subst hL
    have hmn' := fun w' => hmn w' none
    clear hmn
    have hmm := @run_makeMap Try.prog
    have HB := hid hb
    clear hb hm
    go_enter Try.func70, Try.ntmps70
    have hc3 : (w.alloc (.map #[] 0)).cell? ⟨b0, 32, none⟩ = some (.map none) := by rw [World.cell?_alloc_lt _ _ _ (by show b0 < _; omega)]; exact hc
    have hf3 : (w.alloc (.map #[] 0)).frozen? ⟨b0, 32, none⟩ = false := by rw [World.frozen?_alloc_old _ _ _ (by show b0 ≠ _; omega)]; exact hf0
    have hne : b0 ≠ w.heap.size := by omega
    have a1 := setCell_heap (off := 32) HB.out (.map (some w.heap.size))
    rw [set32 h1 h2] at a1
    have hsz : (w.setCell ⟨b0, 32, none⟩ (.map (some w.heap.size))).heap.size = w.heap.size := by simp [World.setCell]
    have a2 : ((w.setCell ⟨b0, 32, none⟩ (.map (some w.heap.size))).alloc (.map #[] 0)).heap[b0]? = some (.cells (storeCells Pz vs th (some w.heap.size) lo) 91 (0, 0)) := (Below.heap_alloc _ _ _ (by omega)).trans a1
    have m1 : ((w.setCell ⟨b0, 32, none⟩ (.map (some w.heap.size))).alloc (.map #[] 0)).heap[w.heap.size]? = some (.map #[] 0) := by
      have := (MapKept.heap_alloc (w.setCell ⟨b0, 32, none⟩ (.map (some w.heap.size))) (.map #[] 0)).1
      rw [hsz] at this
      exact this
    have m2 : MapAt (Value.int .i64) ptrV ((w.setCell ⟨b0, 32, none⟩ (.map (some w.heap.size))).alloc (.map #[] 0)) w.heap.size [] 0 := ⟨m1, ⟨by simp, by simp, by simp⟩⟩
    have fA : Fr (fun i => i = b0) w ((w.setCell ⟨b0, 32, none⟩ (.map (some w.heap.size))).alloc (.map #[] 0)) := (Fr.setCell (S := fun i => i = b0) (p := ⟨b0, 32, none⟩) (Fr.refl _ w) (.inl rfl) _).alloc _
    have c1 : ((w.setCell ⟨b0, 32, none⟩ (.map (some w.heap.size))).alloc (.map #[] 0)).cell? ⟨b0, 32, none⟩ = some (.map (some w.heap.size)) := by rw [cell_of_row _ b0 32 _ _ _ a2]; exact sc32 h1 h2 _ lo
    obtain ⟨w5, c5, hu, hm5, f5, s5⟩ := run_update_at Try.underlying78 key3 m2 n nb
    have hb5 := f5.at_ a2 hne
    have HB5 := hid hb5
    have HM5 := hid hm5
    clear hb5 hm5 m2 m1 a2 a1 s5 hsz
    go_wp2
    go_end0
    exact ⟨rfl, some w.heap.size, _, HB5.out, ⟨c5, HM5.out⟩, by rw [kv_put], .inr (fun b hb => by cases hb; exact Nat.le_refl _), (fA.trans f5 (fun i hi => .inr (by omega))).mono (fun i hi => .inl hi)⟩
  | some b =>
    obtain ⟨c, hm⟩ := hm
    have hmn' := fun w' => hmn w' (some b)
    obtain ⟨w5, c5, hu, hm5, f5, s5⟩ := run_update_at Try.underlying78 key3 hm n nb
    have hne : b0 ≠ b := by
      rintro rfl
      have := hm.heap
      rw [hb] at this
      cases this
    have hb5 := f5.at_ hb hne
    have HB5 := hid hb5
    have HM5 := hid hm5
    clear hmn hb5 hm5 hb s5
    go_enter Try.func70, Try.ntmps70
    go_wp2
    go_end0
    exact ⟨rfl, some b, _, HB5.out, ⟨c5, HM5.out⟩, kv_put _ _ _ _, .inl rfl, f5.mono (fun i hi => .inr (by rw [hi]))⟩
end Go.Proofs.Ytdejbinmnoabeaa.K
namespace Go.Proofs.Ytdejbinmnoabeaa.K
variable {Pz : List Value}
open Go.RowKit Go.Mine Go.Proofs.YtdejbinmnoabeaaW.PrintWords
open Go.ChangeMaps (setBlock)
set_option linter.unusedVariables false
set_option linter.unusedSimpArgs false
def wsOf (I : List WI) : List (Int × KW) := I.map (fun x => (x.n, (⟨x.l, x.p⟩ : KW)))
def KvAt (Pz : List Value) (F : Nat → Prop) (w : World) (b0 : Nat) (s : KS) : Prop := s.Ok ∧ ∃ I L mo lo, KvR Pz F w b0 s.vs s.th s.lk I L mo lo ∧ s.ws = wsOf I
def KvWk (Pz : List Value) (F : Nat → Prop) (w : World) (b0 : Nat) (s : KS) (n : Int) (wb : Nat) : Prop :=
  s.Ok ∧ ∃ I1 x I2 L mo lo, KvR Pz F w b0 s.vs s.th s.lk (I1 ++ x :: I2) L mo lo ∧ s.ws = wsOf (I1 ++ x :: I2) ∧ x.n = n ∧ x.p = false ∧ x.wb = wb
theorem KvWk.at_ {F : Nat → Prop} {w : World} {b0 : Nat} {s : KS} {n : Int} {wb : Nat} (h : KvWk Pz F w b0 s n wb) : KvAt Pz F w b0 s := by
  obtain ⟨h1, I1, x, I2, L, mo, lo, h2, h3, _⟩ := h
  exact ⟨h1, _, L, mo, lo, h2, h3⟩
theorem KvAt.fb {F : Nat → Prop} {w : World} {b0 : Nat} {s : KS} (h : KvAt Pz F w b0 s) : ∀ i, F i → i < w.heap.size := by
  obtain ⟨h1, I, L, mo, lo, h2, h3⟩ := h
  exact h2.fb
theorem KvAt.b {F : Nat → Prop} {w : World} {b0 : Nat} {s : KS} (h : KvAt Pz F w b0 s) : F b0 := by
  obtain ⟨h1, I, L, mo, lo, h2, h3⟩ := h
  exact h2.b
theorem KvAt.fr {F S : Nat → Prop} {w w' : World} {b0 : Nat} {s : KS} (h : KvAt Pz F w b0 s) (hf : Fr S w w') (hS : ∀ i, F i → ¬ S i) : KvAt Pz F w' b0 s := by
  obtain ⟨h1, I, L, mo, lo, h2, h3⟩ := h
  exact ⟨h1, I, L, mo, lo, h2.fr hf hS, h3⟩
theorem KvAt.below {F : Nat → Prop} {w w' : World} {b0 : Nat} {s : KS} (h : KvAt Pz F w b0 s) (hb : Below w.heap.size w w') : KvAt Pz F w' b0 s := h.fr (Fr.of_below hb (Nat.le_refl _)) (fun _ _ q => q)
theorem aget_ws (n : Int) (I : List WI) : aget n (wsOf I) = (I.find? (fun x => decide (x.n = n))).map (fun x => (⟨x.l, x.p⟩ : KW)) := by
  unfold aget wsOf
  rw [List.find?_map]
  simp only [Option.map_map]
  rfl
theorem mget_ws {F : Nat → Prop} {w : World} {b0 : Nat} {vs : List Int} {th : List Bool} {lk : LTab} {I : List WI} {L : List (Int × Nat × Nat)} {mo lo : Option Nat} (h : KvR Pz F w b0 vs th lk I L mo lo) (n : Int) :
    mget n L = (I.find? (fun x => decide (x.n = n))).map (·.wb) := by
  rw [kv_get, h.kvL]
  unfold aget
  rw [List.find?_map]
  simp only [Option.map_map]
  rfl
theorem find_split {I : List WI} {n : Int} {x : WI} (h : I.find? (fun x => decide (x.n = n)) = some x) : ∃ I1 I2, I = I1 ++ x :: I2 ∧ x.n = n := by
  have h1 := List.find?_some h
  have h2 := List.mem_of_find?_eq_some h
  obtain ⟨I1, I2, h3⟩ := List.append_of_mem h2
  exact ⟨I1, I2, h3, by simpa using h1⟩
def TouchPost (Pz : List Value) (F : Nat → Prop) (w : World) (b0 : Nat) (s : KS) (n key : Int) (al : Bool) (e : Ending) (w' : World) : Prop :=
  ∃ p F', e = .returned (.tuple #[.pointer p, .int .i64 (s.touch n key al).1]) ∧ KvAt Pz F' w' b0 (s.touch n key al).2 ∧ Grew F F' w ∧ Fr F w w' ∧
    ((s.touch n key al).1 = 0 → ∃ wb, p = some ⟨wb, 0, none⟩ ∧ KvWk Pz F' w' b0 (s.touch n key al).2 n wb)
theorem touch_bad {s : KS} {n key : Int} {al : Bool} (h : n < 1 ∨ key < 0 ∨ 16 ≤ key) : s.touch n key al = (1, s) := by unfold KS.touch; rw [if_pos h]
theorem touch_prep {s : KS} {n key : Int} {al : Bool} (h : ¬ (n < 1 ∨ key < 0 ∨ 16 ≤ key)) (hp : ((aget n s.ws).map (·.p)).getD false = true) : s.touch n key al = (7, s) := by unfold KS.touch; rw [if_neg h, if_pos hp]
theorem touch_lock {s : KS} {n key : Int} {al : Bool} (h : ¬ (n < 1 ∨ key < 0 ∨ 16 ≤ key)) (hp : ((aget n s.ws).map (·.p)).getD false = false) (hl : (takeA s.lk n key al).1 ≠ 0) : s.touch n key al = ((takeA s.lk n key al).1, s) := by
  unfold KS.touch; rw [if_neg h, if_neg (by simp [hp]), if_pos hl]
theorem touch_done {s : KS} {n key : Int} {al : Bool} (h : ¬ (n < 1 ∨ key < 0 ∨ 16 ≤ key)) (hp : ((aget n s.ws).map (·.p)).getD false = false) (hl : (takeA s.lk n key al).1 = 0) :
    s.touch n key al = (0, ⟨s.vs, s.th, if (aget n s.ws).isSome then s.ws else s.ws ++ [(n, ⟨[], false⟩)], (takeA s.lk n key al).2⟩) := by
  unfold KS.touch; rw [if_neg h, if_neg (by simp [hp]), if_neg (by simp [hl])]
set_option maxRecDepth 100000 in
set_option maxHeartbeats 2000000 in
theorem touch_any {F : Nat → Prop} {w : World} {b0 : Nat} {s : KS} (h : KvAt Pz F w b0 s) (n key : Int) (al : Bool) :
    Calls Try.prog 73 #[.pointer (some ⟨b0, 0, none⟩), .int .i64 n, .int .i64 key, .bool al] w (TouchPost Pz F w b0 s n key al) := by
  have hat := h
  obtain ⟨hok, I, L, mo, lo, h, hws⟩ := h
  have hl := run_lookupO Try.underlying78 key3 h.map (zero103 w) n false
  simp only [Bool.false_eq_true, if_false] at hl
  rw [mget_ws h n] at hl
  have hg := aget_ws n I
  rw [← hws] at hg
  have hc : w.cell? ⟨b0, 32, none⟩ = some (.map mo) := by rw [cell_of_row w b0 32 _ _ _ h.blk]; exact sc32 h.lv h.lth mo lo
  have HOK := hid hok
  have HW := hid hws
  have HAT := hid hat
  have H := hid h
  have htk := take_A h.lt n key al
  have HT := hid htk
  clear hok hws hat htk
  by_cases hbad : n < 1 ∨ key < 0 ∨ 16 ≤ key
  · have e := touch_bad (s := s) (al := al) hbad
    have HE := hid e
    clear e h hl hg
    have hend : ∀ w', w' = w → TouchPost Pz F w b0 s n key al (.returned (.tuple #[.pointer none, .int .i64 1])) w' := by
      intro w' hw'
      subst hw'
      refine ⟨none, F, ?_, ?_, Grew.refl _ _, Fr.refl _ _, ?_⟩
      · rw [HE.out]
      · rw [HE.out]; exact HAT.out
      · rw [HE.out]; intro q; cases q
    have HEND := hid hend
    clear hend
    by_cases h1 : n < 1
    · go_enter Try.func73, Try.ntmps73
      go_wp2_with fail
      go_ret2
      exact HEND.out _ rfl
    · by_cases h2 : key < 0
      · go_enter Try.func73, Try.ntmps73
        go_wp2_with fail
        go_ret2
        exact HEND.out _ rfl
      · have h3 : 16 ≤ key := by omega
        go_enter Try.func73, Try.ntmps73
        go_wp2_with fail
        go_ret2
        exact HEND.out _ rfl
  · have HB := hid hbad
    have b1 : ¬ n < 1 := fun q => hbad (.inl q)
    have b2 : ¬ key < 0 := fun q => hbad (.inr (.inl q))
    have b3 : ¬ 16 ≤ key := fun q => hbad (.inr (.inr q))
    have h' := h
    clear hbad h
    cases hf : I.find? (fun x => decide (x.n = n)) with
    | none =>
      rw [hf] at hl hg
      simp only [Option.map_none, Option.getD_none] at hl hg
      have hp : ((aget n s.ws).map (·.p)).getD false = false := by rw [hg]; rfl
      have HF := hid hf
      have HP := hid hp
      have HG := hid hg
      clear hf hp hg h'
      go_enter Try.func73, Try.ntmps73
      go_wp2_with fail
      refine HT.out.mono ?_
      rintro e w1 ⟨rfl, ht1, hf1⟩
      obtain ⟨lo1, h1⟩ := H.out.locks ht1 hf1
      have fF : Fr F w w1 := hf1.mono (fun i hi => hi.elim (fun q => q ▸ H.out.b) (fun q => H.out.lF i q))
      cases hz : ((takeA s.lk n key al).1 == 0)
      · have hne : (takeA s.lk n key al).1 ≠ 0 := by simpa using hz
        have HE := hid (touch_lock HB.out HP.out hne)
        rw [takeA_keep hne] at h1
        have HNE := hid hne
        clear hne
        go_wp2_with fail
        go_ret2
        refine ⟨none, more F w w1, by rw [HE.out]; rfl, ?_, grew_more _ _ _, fF, ?_⟩
        · rw [HE.out]; exact ⟨HOK.out, I, L, mo, lo1, h1, HW.out⟩
        · rw [HE.out]; intro q; exact absurd q HNE.out
      · have hne : (takeA s.lk n key al).1 = 0 := by simpa using hz
        have he := touch_done HB.out HP.out hne
        have hok' := HOK.out.touch n key al
        rw [HG.out] at he
        simp only [Option.isSome_none, Bool.false_eq_true, if_false] at he
        rw [he] at hok'
        have HE := hid he
        have HOK' := hid hok'
        have H1 := hid h1
        have hset := set_any n w1.heap.size b0 s.vs s.th mo lo1 L (w1.alloc (.cells #[.slice none 0 0, .bool false] 114)) h1.lv h1.lth ((Below.heap_alloc _ _ _ (blk_lt h1.blk)).trans h1.blk) (h1.map.fr ((Fr.refl (fun _ => False) w1).alloc _) (fun _ _ => id))
        have HS := hid hset
        have hnew := (MapKept.heap_alloc w1 (.cells #[.slice none 0 0, .bool false] 114)).1
        have HN := hid hnew
        clear hne he hok' h1 hset hnew
        go_wp2_with fail
        refine HS.out.mono ?_
        rintro e w2 ⟨rfl, mo', L', hb', hm', hk', hmo', hf'⟩
        have hkv : kv L' = (I ++ [(⟨n, w1.heap.size, .slice none 0 0, [], false⟩ : WI)]).map (fun x => (x.n, x.wb)) := by
          have hn : aget n (kv L) = none := by rw [← kv_get, mget_ws H.out, HF.out]; rfl
          rw [hk', aput, hn, H.out.kvL]
          simp
        have hf2 : Fr (fun i => i = b0 ∨ mo = some i) w1 w2 := ((Fr.refl _ w1).alloc _).trans hf' (fun i hi => .inl hi)
        have hlt1 := H1.out.fb
        have h3 : w2.heap[w1.heap.size]? = some (.cells #[.slice none 0 0, .bool false] 114 (0, 0)) := hf'.at_ HN.out (by
          rintro (q | q)
          · have := hlt1 _ H1.out.b; omega
          · have := hlt1 _ (H1.out.mF _ q); omega)
        have h4 := H1.out.add (x := ⟨n, w1.heap.size, .slice none 0 0, [], false⟩) hb' hm' (hmo'.imp id (fun q b hb => Nat.le_trans (by simp) (q b hb))) hf2 hkv (Nat.le_refl _) (fun k hk => by simp [Value.ownBlock] at hk) h3 (ChRow.none_ _)
        have hwk : KvWk Pz (more (more F w w1) w1 w2) w2 b0 ⟨s.vs, s.th, s.ws ++ [(n, ⟨[], false⟩)], (takeA s.lk n key al).2⟩ n w1.heap.size :=
          ⟨HOK'.out, I, _, [], L', mo', lo1, h4, by rw [HW.out]; simp [wsOf], rfl, rfl, rfl⟩
        have hfr : Fr F w w2 := fF.trans hf2 (fun i hi => by
          rcases hi with q | q
          · exact .inl (q ▸ H.out.b)
          · exact .inl (H.out.mF i q))
        have hgr := (grew_more F w w1).trans (grew_more (more F w w1) w1 w2) hf1.size
        clear h3 h4 hf2 hlt1 hkv hk' hm' hb' hf' hmo'
        go_wp2_with fail
        go_ret2
        refine ⟨some ⟨w1.heap.size, 0, none⟩, _, by rw [HE.out]; rfl, ?_, hgr, hfr, fun _ => ⟨w1.heap.size, rfl, ?_⟩⟩
        · rw [HE.out]; exact hwk.at_
        · rw [HE.out]; exact hwk
    | some x =>
      obtain ⟨I1, I2, hI, hxn⟩ := find_split hf
      have hx := h'.wk x (by rw [hI]; simp)
      rw [hf] at hl hg
      simp only [Option.map_some, Option.getD_some] at hl hg
      have hp : ((aget n s.ws).map (·.p)).getD false = x.p := by rw [hg]; rfl
      have hcp : w.cell? ⟨x.wb, 1, none⟩ = some (.bool x.p) := by rw [cell_of_row w x.wb 1 _ _ _ hx.2.1]; rfl
      have HG := hid hg
      have HP := hid hp
      have HI := hid hI
      clear hf hp hg hx hI h'
      cases hxp : x.p
      · rw [hxp] at hcp
        have hp0 : ((aget n s.ws).map (·.p)).getD false = false := HP.out.trans hxp
        have HP0 := hid hp0
        clear hp0
        go_enter Try.func73, Try.ntmps73
        go_wp2_with fail
        refine HT.out.mono ?_
        rintro e w1 ⟨rfl, ht1, hf1⟩
        obtain ⟨lo1, h1⟩ := H.out.locks ht1 hf1
        have fF : Fr F w w1 := hf1.mono (fun i hi => hi.elim (fun q => q ▸ H.out.b) (fun q => H.out.lF i q))
        cases hz : ((takeA s.lk n key al).1 == 0)
        · have hne : (takeA s.lk n key al).1 ≠ 0 := by simpa using hz
          have HE := hid (touch_lock HB.out HP0.out hne)
          rw [takeA_keep hne] at h1
          have HNE := hid hne
          clear hne
          go_wp2_with fail
          go_ret2
          refine ⟨none, more F w w1, by rw [HE.out]; rfl, ?_, grew_more _ _ _, fF, ?_⟩
          · rw [HE.out]; exact ⟨HOK.out, I, L, mo, lo1, h1, HW.out⟩
          · rw [HE.out]; intro q; exact absurd q HNE.out
        · have hne : (takeA s.lk n key al).1 = 0 := by simpa using hz
          have he := touch_done HB.out HP0.out hne
          have hok' := HOK.out.touch n key al
          rw [HG.out] at he
          simp only [Option.isSome_some, if_true] at he
          rw [he] at hok'
          have HE := hid he
          have HOK' := hid hok'
          rw [HI.out] at h1
          have hwk : KvWk Pz (more F w w1) w1 b0 ⟨s.vs, s.th, s.ws, (takeA s.lk n key al).2⟩ n x.wb :=
            ⟨HOK'.out, I1, x, I2, L, mo, lo1, h1, by rw [HW.out, HI.out], hxn, hxp, rfl⟩
          clear hne he hok' h1
          go_wp2_with fail
          go_ret2
          refine ⟨some ⟨x.wb, 0, none⟩, more F w w1, by rw [HE.out]; rfl, ?_, grew_more _ _ _, fF, fun _ => ⟨x.wb, rfl, ?_⟩⟩
          · rw [HE.out]; exact hwk.at_
          · rw [HE.out]; exact hwk
      · rw [hxp] at hcp
        have HE := hid (touch_prep (al := al) HB.out (HP.out.trans hxp))
        go_enter Try.func73, Try.ntmps73
        go_wp2_with fail
        go_ret2
        refine ⟨none, F, by rw [HE.out]; rfl, ?_, Grew.refl _ _, Fr.refl _ _, ?_⟩
        · rw [HE.out]; exact HAT.out
        · rw [HE.out]; intro q; cases q
end Go.Proofs.Ytdejbinmnoabeaa.K
namespace Go.Mine
theorem find_chAt {k : Int} {l : List Ch} {i : Nat} (h : chAt k l = some i) : l.find? (fun c => c.key == k) = l[i]? := by
  unfold chAt at h
  rw [List.findIdx?_eq_some_iff_getElem] at h
  obtain ⟨hi, h1, h2⟩ := h
  rw [List.getElem?_eq_getElem hi]
  rw [List.find?_eq_some_iff_getElem]
  exact ⟨h1, i, hi, rfl, fun j hj => by have := h2 j hj; simpa using this⟩
theorem find_chNone {k : Int} {l : List Ch} (h : chAt k l = none) : l.find? (fun c => c.key == k) = none := by
  unfold chAt at h
  rw [List.findIdx?_eq_none_iff] at h
  rw [List.find?_eq_none]
  intro x hx
  simpa using h x hx
end Go.Mine
namespace Go.Proofs.Ytdejbinmnoabeaa.K
variable {Pz : List Value}
open Go.RowKit Go.Mine Go.Proofs.YtdejbinmnoabeaaW.PrintWords
open Go.ChangeMaps (setBlock)
set_option linter.unusedVariables false
set_option linter.unusedSimpArgs false
theorem bdN (w : World) (n : Nat) : Below w.heap.size w (w.drewN n) := ⟨rfl, rfl, rfl, Nat.le_refl _, fun _ _ => rfl⟩
def GetPost (Pz : List Value) (F : Nat → Prop) (w : World) (b0 : Nat) (s : KS) (n key : Int) (e : Ending) (w' : World) : Prop :=
  ∃ F', e = .returned (.tuple #[.int .u64 (s.get n key).1.1, .bool (s.get n key).1.2.1, .int .i64 (s.get n key).1.2.2]) ∧ KvAt Pz F' w' b0 (s.get n key).2 ∧ Grew F F' w ∧ Fr F w w'
theorem get_bad {s : KS} {n key : Int} (h : (s.touch n key false).1 ≠ 0) : s.get n key = ((0, false, (s.touch n key false).1), (s.touch n key false).2) := by unfold KS.get; simp only; rw [if_pos h]
theorem get_good {s : KS} {n key : Int} (h : (s.touch n key false).1 = 0) : s.get n key = (((seenV (s.touch n key false).2 n key).1, (seenV (s.touch n key false).2 n key).2, 0), (s.touch n key false).2) := by unfold KS.get; simp only; rw [if_neg (by simp [h])]
theorem KvR.bcells {F : Nat → Prop} {w : World} {b0 : Nat} {vs : List Int} {th : List Bool} {lk : LTab} {I : List WI} {L : List (Int × Nat × Nat)} {mo lo : Option Nat} (h : KvR Pz F w b0 vs th lk I L mo lo) (k : Nat) (hk : k < 16) :
    w.cell? ⟨b0, k, none⟩ = some (.int .u64 (vs.getD k 0)) ∧ w.cell? ⟨b0, 16 + k, none⟩ = some (.bool (th.getD k false)) := by
  rw [cell_of_row w b0 k _ _ _ h.blk, cell_of_row w b0 (16 + k) _ _ _ h.blk]
  exact ⟨scv h.lv h.lth _ _ k hk, sct h.lv h.lth _ _ k hk⟩
theorem wk_list {F : Nat → Prop} {w : World} {b0 : Nat} {s : KS} {I1 I2 : List WI} {x : WI} {n : Int} (hok : s.Ok) (hws : s.ws = wsOf (I1 ++ x :: I2)) (hn : x.n = n) : aget n s.ws = some ⟨x.l, x.p⟩ := by
  apply aget_of_mem hok.keys
  rw [hws, wsOf]
  simp [← hn]
set_option maxRecDepth 100000 in
set_option maxHeartbeats 2000000 in
theorem get_any {F : Nat → Prop} {w : World} {b0 : Nat} {s : KS} (h : KvAt Pz F w b0 s) (n key : Int) :
    Calls Try.prog 54 #[.pointer (some ⟨b0, 0, none⟩), .int .i64 n, .int .i64 key] w (GetPost Pz F w b0 s n key) := by
  have ht := touch_any h n key false
  have HT := hid ht
  clear ht
  go_enter Try.func54, Try.ntmps54
  go_wp2_with fail
  refine HT.out.mono ?_
  rintro e w1 ⟨p, F1, rfl, h1, g1, f1, hw1⟩
  cases hz : ((s.touch n key false).1 != 0)
  · have h0 : (s.touch n key false).1 = 0 := by simpa using hz
    have HE := hid (get_good h0)
    have hk0 := (touch_zero h0).2.1
    have hk16 := (touch_zero h0).2.2.1
    obtain ⟨k, rfl⟩ := Int.eq_ofNat_of_zero_le hk0
    have hk : k < 16 := by omega
    obtain ⟨wb, rfl, hok, I1, x, I2, L, mo, lo, hR, hws, hxn, hxp, rfl⟩ := hw1 h0
    generalize (s.touch n (k : Int) false).2 = t at *
    generalize (s.touch n (k : Int) false).1 = e1 at *
    have hag := wk_list (F := F1) (w := w1) (b0 := b0) hok hws hxn
    have hli : t.listOf n = x.l := by simp [KS.listOf, hag]
    have hx := hR.wk x (by simp)
    have hlen := (hok.chs _ (aget_mem hag)).len
    have hc0 : w1.cell? ⟨x.wb, 0, none⟩ = some x.v := by rw [cell_of_row w1 x.wb 0 _ _ _ hx.2.1]; rfl
    have hat := at_any x.wb x.v x.l k w1 hc0 hx.2.2.1 (by simp at hlen; omega)
    have HAT := hid hat
    obtain ⟨A, c, hv, hAc, hch⟩ := hx.2.2.1.at_
    have HCH := hid hch
    have HR := hid hR
    have HLI := hid hli
    have hcells := hR.bcells k hk
    have HH1 := hid h1
    subst h0
    clear hat hw1 hws hok hxp hxn hag hx hch hR hli h1 hz
    go_wp2_with fail
    refine HAT.out.mono ?_
    rintro e w2 ⟨rfl, f2⟩
    have f12 : Fr F w w2 := f1.trans (Fr.of_below f2 (Nat.le_refl _)) (fun i q => q.elim)
    have h2 := HH1.out.below f2
    have hca : w2.cell? ⟨b0, k, none⟩ = some (.int .u64 (t.vs.getD k 0)) := (f2.cell (World.block_lt_of_cell? _ _ hcells.1)).trans hcells.1
    have hcb : w2.cell? ⟨b0, 16 + k, none⟩ = some (.bool (t.th.getD k false)) := (f2.cell (World.block_lt_of_cell? _ _ hcells.2)).trans hcells.2
    have hc2 : w2.cell? ⟨x.wb, 0, none⟩ = some x.v := (f2.cell (World.block_lt_of_cell? _ _ hc0)).trans hc0
    cases hq : chAt (k : Int) x.l with
    | none =>
      have hai : atI (k : Int) x.l = -1 := by simp [atI, hq]
      have HS : Hid (seenV t n k = (t.vs.getD k 0, t.th.getD k false)) := hid (by unfold seenV; rw [HLI.out, find_chNone hq]; rfl)
      rw [hai]
      have hki : (k : Int) < 16 := by omega
      clear hq hai hc0 hc2 hcells hv
      go_wp2_with fail
      go_quiet (fail)
      go_wp2_with fail
      go_ret3
      refine ⟨F1, ?_, ?_, g1, f12.drewN _⟩
      · rw [HE.out, HS.out]; rfl
      · rw [HE.out]; exact h2.below (bdN _ _)
    | some i =>
      obtain ⟨y, hy, hyk⟩ := chAt_some hq
      have hai : atI (k : Int) x.l = i := by simp [atI, hq]
      have HS : Hid (seenV t n k = (y.val, y.kind == 1)) := hid (by unfold seenV; rw [HLI.out, find_chAt hq, hy])
      rw [hai]
      have hil := (List.getElem?_eq_some_iff.1 hy).1
      obtain ⟨b, off, rfl, hb1, hcc⟩ := (HCH.out.below f2) i y hy
      have k0 : w2.cell? ⟨b, off + i * 3, none⟩ = some (.int .i64 y.kind) := hcc 0 _ rfl
      have k1 := hcc 1 _ rfl
      have k2 := hcc 2 _ rfl
      rw [hv] at hc2
      have hi1 : (i : Int) < x.l.length := by omega
      have hi0 : (0 : Int) ≤ i := by omega
      clear hq hai hc0 hcells hcc hy hyk hca hcb hv
      go_wp2_with fail
      go_quiet (fail)
      go_wp2_with fail
      go_ret3
      refine ⟨F1, ?_, ?_, g1, f12.drewN _⟩
      · rw [HE.out, HS.out]; rfl
      · rw [HE.out]; exact h2.below (bdN _ _)
  · have hne : (s.touch n key false).1 ≠ 0 := by simpa using hz
    have HE := hid (get_bad hne)
    clear hne
    go_wp2_with fail
    go_ret3
    refine ⟨F1, ?_, ?_, g1, f1⟩
    · rw [HE.out]; rfl
    · rw [HE.out]; exact h1
end Go.Proofs.Ytdejbinmnoabeaa.K
namespace Go.Proofs.Ytdejbinmnoabeaa.K
variable {Pz : List Value}
open Go.RowKit Go.Mine Go.Proofs.YtdejbinmnoabeaaW.PrintWords
open Go.ChangeMaps (setBlock)
set_option linter.unusedVariables false
set_option linter.unusedSimpArgs false
theorem aput_ws {I1 I2 : List WI} {x : WI} {n : Int} {ws : List (Int × KW)} (hk : ws.Pairwise (fun x y => x.1 ≠ y.1)) (hws : ws = wsOf (I1 ++ x :: I2)) (hn : x.n = n) (v' : Value) (l' : List Ch) (p' : Bool) :
    aput n ⟨l', p'⟩ ws = wsOf (I1 ++ (⟨x.n, x.wb, v', l', p'⟩ : WI) :: I2) := by
  subst hws hn
  have hs : (aget x.n (wsOf (I1 ++ x :: I2))).isSome = true := by
    have : (x.n, (⟨x.l, x.p⟩ : KW)) ∈ wsOf (I1 ++ x :: I2) := by simp [wsOf]
    rw [aget_of_mem hk this]; rfl
  unfold aput
  rw [if_pos hs]
  simp only [wsOf, List.map_append, List.map_cons] at hk ⊢
  rw [List.pairwise_append, List.pairwise_cons] at hk
  obtain ⟨a1, ⟨a2, a3⟩, a4⟩ := hk
  simp only [if_true]
  congr 1
  · conv => rhs; rw [← List.map_id (I1.map _)]
    apply List.map_congr_left
    intro e he
    rw [if_neg (a4 e he _ (List.mem_cons_self ..))]
    rfl
  · congr 1
    conv => rhs; rw [← List.map_id (I2.map _)]
    apply List.map_congr_left
    intro e he
    rw [if_neg (fun q => a2 e he q.symm)]
    rfl
def ChangePost (Pz : List Value) (F : Nat → Prop) (w : World) (b0 : Nat) (s : KS) (n : Int) (c : Ch) (e : Ending) (w' : World) : Prop :=
  ∃ F', e = .returned (.int .i64 (s.change n c).1) ∧ KvAt Pz F' w' b0 (s.change n c).2 ∧ Grew F F' w ∧ Fr F w w'
theorem change_bad {s : KS} {n : Int} {c : Ch} (h : (s.touch n c.key true).1 ≠ 0) : s.change n c = ((s.touch n c.key true).1, (s.touch n c.key true).2) := by unfold KS.change; simp only; rw [if_pos h]
theorem change_good {s : KS} {n : Int} {c : Ch} (h : (s.touch n c.key true).1 = 0) : s.change n c = (0, { (s.touch n c.key true).2 with ws := aput n ⟨putCh c ((s.touch n c.key true).2.listOf n), false⟩ (s.touch n c.key true).2.ws }) := by unfold KS.change; simp only; rw [if_neg (by simp [h])]
theorem KvAt.work {F : Nat → Prop} {w w' : World} {b0 : Nat} {t : KS} {I1 I2 : List WI} {x : WI} {L : List (Int × Nat × Nat)} {mo lo : Option Nat} {n : Int} (hok : t.Ok) (hR : KvR Pz F w b0 t.vs t.th t.lk (I1 ++ x :: I2) L mo lo) (hws : t.ws = wsOf (I1 ++ x :: I2)) (hn : x.n = n)
    {v' : Value} {l' : List Ch} {p' : Bool} (hl' : RW l') (hf : Fr (fun i => i = x.wb ∨ x.v.ownBlock = some i) w w') (hb : w'.heap[x.wb]? = some (.cells #[v', .bool p'] 114 (0, 0))) (hr : ChRow w' v' l') (hv : v'.ownBlock = x.v.ownBlock ∨ ∃ b, v'.ownBlock = some b ∧ w.heap.size ≤ b) :
    KvAt Pz (more F w w') w' b0 { t with ws := aput n ⟨l', p'⟩ t.ws } ∧ Fr F w w' := by
  refine ⟨⟨hok.aputs n _ hl', _, L, mo, lo, hR.work hf hb hr hv, aput_ws hok.keys hws hn v' l' p'⟩, hf.mono (fun i hi => ?_)⟩
  have hx := hR.wk x (by simp)
  rcases hi with q | q
  · exact q ▸ hx.1
  · exact hx.2.2.2 i q
set_option maxRecDepth 100000 in
set_option maxHeartbeats 4000000 in
theorem change_any {F : Nat → Prop} {w : World} {b0 : Nat} {s : KS} (h : KvAt Pz F w b0 s) (n : Int) (c : Ch) (hc : c.kind = 1 ∨ (c.kind = 2 ∧ c.val = 0)) :
    Calls Try.prog 58 #[.pointer (some ⟨b0, 0, none⟩), .int .i64 n, .agg #[.int .i64 c.kind, .int .i64 c.key, .int .u64 c.val]] w (ChangePost Pz F w b0 s n c) := by
  have hfa : Fr (fun _ => False) w (w.alloc (.cells #[.int .i64 c.kind, .int .i64 c.key, .int .u64 c.val] 62)) := (Fr.refl _ w).alloc _
  have h0 := h.fr hfa (fun _ _ => id)
  have hbx : (w.alloc (.cells #[.int .i64 c.kind, .int .i64 c.key, .int .u64 c.val] 62)).heap[w.heap.size]? = some (.cells #[.int .i64 c.kind, .int .i64 c.key, .int .u64 c.val] 62 (0, 0)) := (MapKept.heap_alloc w _).1
  have hbk := cell_of_row _ _ 1 _ _ _ hbx
  have ht := touch_any h0 n c.key true
  have HT := hid ht
  have HBX := hid hbx
  have HC := hid hc
  clear ht hbx h0 hc
  go_enter Try.func58, Try.ntmps58
  go_wp2_with fail
  refine HT.out.mono ?_
  rintro e w1 ⟨p, F1, rfl, h1, g1, f1, hw1⟩
  have hFb : ¬ F w.heap.size := fun q => by have := h.fb _ q; omega
  have fr1 : Fr F w w1 := (hfa.mono (fun _ q => q.elim)).trans f1 (fun i q => .inl q)
  have gr1 : Grew F F1 w := fun i q => (g1 i q).imp id (fun r => Nat.le_trans hfa.size r)
  have hb1 := f1.at_ HBX.out hFb
  cases hz : ((s.touch n c.key true).1 != 0)
  · have h0 : (s.touch n c.key true).1 = 0 := by simpa using hz
    have HE := hid (change_good h0)
    have hk0 := (touch_zero h0).2.1
    have hk16 := (touch_zero h0).2.2.1
    obtain ⟨wb, rfl, hok, I1, x, I2, L, mo, lo, hR, hws, hxn, hxp, rfl⟩ := hw1 h0
    generalize (s.touch n c.key true).2 = t at *
    generalize (s.touch n c.key true).1 = e1 at *
    have hag := wk_list (F := F1) (w := w1) (b0 := b0) hok hws hxn
    have hli : t.listOf n = x.l := by simp [KS.listOf, hag]
    have hx := hR.wk x (by simp)
    have hrw := hok.chs _ (aget_mem hag)
    have hlen : x.l.length ≤ 16 := hrw.len
    have hRWp := RW.put hrw ((chOk_iff c).2 ⟨HC.out, hk0, hk16⟩)
    rw [hli] at HE
    have HRW := hid hRWp
    have HWS := hid hws
    have HOK := hid hok
    have HX := hid hx
    have HR := hid hR
    have HXN := hid hxn
    have HXP := hid hxp
    have hbk1 := cell_of_row w1 _ 1 _ _ _ hb1
    have HB1 := hid hb1
    have HWB := hid (hR.wb_ne (x := x) (by simp))
    subst h0
    clear hRWp hrw hw1 hws hok hxp hxn hag hx hR hli h1 hz HT h hb1
    go_wp2_with fail
    go_still_tail 5, (by kernel_rfl)
    change wpList _ _ _ _ _ w1.drew
    have fd : Fr (fun _ => False) w1 w1.drew := (Fr.refl _ w1).drew
    have HX' := hid (wk_fr fd HX.out (by simp) (by simp) (fun _ q => q))
    have HR' := hid (HR.out.fr fd (fun _ _ => id))
    have HB' := hid (fd.at_ HB1.out id)
    have frd : Fr F w w1.drew := fr1.drew
    have hsz : w1.drew.heap.size = w1.heap.size := rfl
    clear HX HR HB1 hbk1 fd hbk f1
    have gr1' : Grew F F1 w := gr1
    generalize w1.drew = wd at *
    have hc0 : wd.cell? ⟨x.wb, 0, none⟩ = some x.v := by rw [cell_of_row wd x.wb 0 _ _ _ HX'.out.2.1]; rfl
    have hat := at_any x.wb x.v x.l c.key wd hc0 HX'.out.2.2.1 (by omega)
    have HAT := hid hat
    clear hat
    go_wp2_with fail
    refine HAT.out.mono ?_
    rintro e w2 ⟨rfl, f2⟩
    have f2r : Fr (fun _ => False) wd w2 := Fr.of_below f2 (Nat.le_refl _)
    have hX2 := wk_fr f2r HX'.out (by simp) (by simp) (fun _ q => q)
    have hR2 := HR'.out.fr f2r (fun _ _ => id)
    have hb2 := f2r.at_ HB'.out id
    have fr2 : Fr F w w2 := frd.trans f2r (fun i q => q.elim)
    have hlt2 := hR2.fb
    clear HAT hc0 f2 HX' HR' HB'
    have hc2 : w2.cell? ⟨x.wb, 0, none⟩ = some x.v := by rw [cell_of_row w2 x.wb 0 _ _ _ hX2.2.1]; rfl
    have kb0 : w2.cell? ⟨w.heap.size, 0, none⟩ = some (.int .i64 c.kind) := by rw [cell_of_row w2 _ 0 _ _ _ hb2]; rfl
    have kb1 : w2.cell? ⟨w.heap.size, 1, none⟩ = some (.int .i64 c.key) := by rw [cell_of_row w2 _ 1 _ _ _ hb2]; rfl
    have kb2 : w2.cell? ⟨w.heap.size, 2, none⟩ = some (.int .u64 c.val) := by rw [cell_of_row w2 _ 2 _ _ _ hb2]; rfl
    cases hq : chAt c.key x.l with
    | some i =>
      obtain ⟨y, hy, hyk⟩ := chAt_some hq
      have hai : atI c.key x.l = i := by simp [atI, hq]
      rw [hai]
      have hil := (List.getElem?_eq_some_iff.1 hy).1
      have hpc : putCh c x.l = x.l.set i c := by unfold putCh; rw [hq]
      obtain ⟨g, cp, hv, _, hgl, cells, hgc⟩ := Kd.R_form hX2.2.2.1 (by omega)
      rw [hv] at hc2
      have hi1 : (i : Int) < x.l.length := by omega
      have hi0 : (0 : Int) ≤ i := by omega
      have HV := hid hv
      have HPC := hid hpc
      have HX2 := hid hX2
      have HR2 := hid hR2
      clear hq hai hy hyk hv hX2 hR2 hpc
      go_wp2_with fail
      go_still_tail 8, (by kernel_rfl)
      change wpList _ _ _ _ _ w2.drew
      have fd : Fr (fun _ => False) w2 w2.drew := (Fr.refl _ w2).drew
      have hX3 := wk_fr fd HX2.out (by simp) (by simp) (fun _ q => q)
      have hR3 := HR2.out.fr fd (fun _ _ => id)
      have fr3 : Fr F w w2.drew := fr2.drew
      clear HX2 HR2 fd kb0 kb1 kb2 hb2 hc2 hgc hgl cells
      generalize w2.drew = w3 at *
      have hv := HV.out
      have hrow := hX3.2.2.1
      rw [hv] at hrow
      have hown : x.v.ownBlock = some g := by rw [hv]; rfl
      obtain ⟨co, hcl, hcM, hcc, _⟩ := Kd.R_elem hrow c (i : Int) (by omega) (by omega)
      have hcl3 : co.length = 3 := hcl
      refine Kd.R_store kch (w0 := w3) 0 rfl rfl 62 (.tmp 36) (.tmp 35) rfl 62 (i : Int) 0 x.l c (.agg #[.int .i64 c.kind, .int .i64 c.key, .int .u64 c.val]) (encCh c) co (fun _ => True) (fun _ => False) rfl (by simp [kch]) rfl rfl (by kernel_rfl) (by intro u hu; simp [encCh] at hu; rcases hu with rfl | rfl | rfl <;> rfl) hrow (by omega) (by omega) hcl hcc (by simp [kch, encCh]) ?_ (fun _ q => q.elim) (Below.refl _ _) ?_
      · show co.take 0 ++ encCh c ++ co.drop (0 + (encCh c).length) = encCh c
        simp [encCh, hcl3]
      · intro w4 hrow4 hb4 hg4
        have hr4 : ChRow w4 x.v (x.l.set i c) := by rw [hv]; exact hrow4
        have hf4 : Fr (fun j => j = x.wb ∨ x.v.ownBlock = some j) w3 w4 := (Fr.of_grown hg4).mono (fun j hj => .inr (by rw [hown]; exact hj))
        have hb4' := blk_grown hX3.2.1 hg4 (by
          have := (hR3.row_ne (x := x) (by simp) hown).2.2.2 x (by simp)
          intro q; cases q; exact this rfl)
        rw [HXP.out] at hb4'
        have hrw := HRW.out
        rw [HPC.out] at hrw
        obtain ⟨hK, hF⟩ := KvAt.work HOK.out hR3 HWS.out HXN.out hrw hf4 hb4' hr4 (.inl rfl)
        have HK := hid hK
        clear hK hr4 hf4 hb4' hrw hX3 hR3 hrow hrow4 hb4 hg4 hcc hcM
        go_wp2_with fail
        go_ret
        refine ⟨more F1 w3 w4, ?_, ?_, gr1.trans (grew_more F1 w3 w4) ?_, fr3.trans hF ?_⟩
        · rw [HE.out]; rfl
        · rw [HE.out, HPC.out]; exact HK.out
        · exact fr3.size
        · intro j hj; exact gr1 j hj
    | none =>
      have hai : atI c.key x.l = -1 := by simp [atI, hq]
      rw [hai]
      have hpc : putCh c x.l = x.l ++ [c] := by unfold putCh; rw [hq]
      have fd : Fr (fun _ => False) w2 w2.drew := (Fr.refl _ w2).drew
      have hX3 := wk_fr fd hX2 (by simp) (by simp) (fun _ q => q)
      have hR3 := hR2.fr fd (fun _ _ => id)
      have fr3 : Fr F w w2.drew := fr2.drew
      have HPC := hid hpc
      have HR3 := hid hR3
      have HX3 := hid hX3
      have HX2 := hid hX2
      have hne3 := fun k hk => (hR3.row_ne (x := x) (k := k) (by simp) hk).2.2.2 x (by simp)
      have HNE := hid hne3
      have hc2a : (w2.alloc (.cells #[.int .i64 c.kind, .int .i64 c.key, .int .u64 c.val] 62)).cell? ⟨x.wb, 0, none⟩ = some x.v := by rw [World.cell?_alloc_lt _ _ _ (World.block_lt_of_cell? _ _ hc2)]; exact hc2
      clear hq hai hpc hR3 hX3 hX2 hR2 hne3 hb2
      go_wp2_with fail
      go_region_law (refine Kd.R_append_step kch (w0 := w2.drew) 0 (by rfl) (.tmp 42) (.tmp 44) 22 62 _ 24 rfl Try.underlying22 info62 (by rfl) (by decide) (by decide) x.v x.l c (encCh c) (fun _ => True) (fun _ => False) (by simp [Act.eval, Act.put]) (by simp [Act.eval, Act.put]) rfl (fun _ q => q.elim) (fun _ _ => trivial) HX3.out.2.2.1 (Below.refl _ _) (Nat.zero_le _) (by omega) ?_; intro v5 w5 ho5 hb5 hg5 hat5; have hb5' := blk_grown HX3.out.2.1 hg5 (fun q => HNE.out _ q.symm rfl); have hc5 : w5.cell? ⟨x.wb, 0, none⟩ = some x.v := (by rw [cell_of_row w5 x.wb 0 _ _ _ hb5']; rfl); have hz5 : w5.frozen? ⟨x.wb, 0, none⟩ = false := (by simp [World.frozen?, hb5']); have HO5 := hid ho5; have HG5 := hid hg5; have HT5 := hid hat5; have HB5 := hid hb5'; clear ho5 hg5 hat5 hb5'; obtain ⟨A5, c5, hv5⟩ := Kd.R_slice HO5.out; rw [List.length_append, List.length_singleton] at hv5; have HV5 := hid hv5; rw [hv5]; clear hv5)
      all_goals
        have hs6 : Fr (fun j => j = x.wb ∨ x.v.ownBlock = some j) w2.drew (w5.setCell ⟨x.wb, 0, none⟩ (.slice A5 (x.l.length + 1) c5)) := ((Fr.of_grown HG5.out).mono (fun j hj => .inr hj)).setCell (.inl (.inl rfl)) _
        have hb6 : (w5.setCell ⟨x.wb, 0, none⟩ (.slice A5 (x.l.length + 1) c5)).heap[x.wb]? = some (.cells #[.slice A5 (x.l.length + 1) c5, .bool x.p] 114 (0, 0)) := blk_set HB5.out 0 _
        have hr6 : ChRow (w5.setCell ⟨x.wb, 0, none⟩ (.slice A5 (x.l.length + 1) c5)) v5 (x.l ++ [c]) := ChRow.move HO5.out (fun k hk => Below.heap_setCell _ _ _ _ (fun q => by
          obtain ⟨cells, hq⟩ := ChRow.typed HO5.out k hk
          have := HB5.out
          rw [show k = x.wb from q, this] at hq
          simp at hq))
        rw [HV5.out] at hr6
        rw [HXP.out] at hb6
        have hat6 := HT5.out
        rw [HV5.out] at hat6
        have hrw := HRW.out
        rw [HPC.out] at hrw
        obtain ⟨hK, hF⟩ := KvAt.work HOK.out HR3.out HWS.out HXN.out hrw hs6 hb6 hr6 hat6
        have HK := hid hK
        clear hK hr6 hs6 hb6 hrw hat6
        go_wp2_with fail
        go_ret
        refine ⟨more F1 w2.drew (w5.setCell ⟨x.wb, 0, none⟩ (.slice A5 (x.l.length + 1) c5)), ?_, ?_, gr1.trans (grew_more F1 w2.drew _) fr3.size, fr3.trans hF (fun j hj => gr1 j hj)⟩
        · rw [HE.out]; rfl
        · rw [HE.out, HPC.out]; exact HK.out
  · have hne : (s.touch n c.key true).1 ≠ 0 := by simpa using hz
    have HE := hid (change_bad hne)
    clear hne
    go_wp2_with fail
    go_ret
    refine ⟨F1, ?_, ?_, gr1, fr1⟩
    · rw [HE.out]; rfl
    · rw [HE.out]; exact h1
set_option maxHeartbeats 1000000 in
theorem put_any {F : Nat → Prop} {w : World} {b0 : Nat} {s : KS} (h : KvAt Pz F w b0 s) (n key val : Int) :
    Calls Try.prog 43 #[.pointer (some ⟨b0, 0, none⟩), .int .i64 n, .int .i64 key, .int .u64 val] w (ChangePost Pz F w b0 s n ⟨1, key, val⟩) := by
  have hc := hid (change_any h n ⟨1, key, val⟩ (.inl rfl))
  go_enter Try.func43, Try.ntmps43
  go_wp2_with fail
  refine hc.out.mono ?_
  rintro e w1 ⟨F1, rfl, h1, g1, f1⟩
  go_wp2_with fail
  go_ret
  exact ⟨F1, rfl, h1, g1, f1⟩
set_option maxHeartbeats 1000000 in
theorem del_any {F : Nat → Prop} {w : World} {b0 : Nat} {s : KS} (h : KvAt Pz F w b0 s) (n key : Int) :
    Calls Try.prog 55 #[.pointer (some ⟨b0, 0, none⟩), .int .i64 n, .int .i64 key] w (ChangePost Pz F w b0 s n ⟨2, key, 0⟩) := by
  have hc := hid (change_any h n ⟨2, key, 0⟩ (.inr ⟨rfl, rfl⟩))
  go_enter Try.func55, Try.ntmps55
  go_wp2_with fail
  refine hc.out.mono ?_
  rintro e w1 ⟨F1, rfl, h1, g1, f1⟩
  go_wp2_with fail
  go_ret
  exact ⟨F1, rfl, h1, g1, f1⟩
end Go.Proofs.Ytdejbinmnoabeaa.K

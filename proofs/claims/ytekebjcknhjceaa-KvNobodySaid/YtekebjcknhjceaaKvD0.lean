/- The document's store of keys in memory, and walks of its Find and Value. -/
import Derived.Test.YtekebjcknhjceaaLockY
namespace Go.Mine
set_option linter.unusedVariables false
set_option linter.unusedSimpArgs false
/-- The document's store, plain: pairs, works, locks. -/
structure DSt where
  L : List (Int × Int)
  ws : List (Int × KW)
  lk : LTab
def DSt.find (s : DSt) (n : Int) : Option KW := aget n s.ws
def DSt.value (s : DSt) (k : Int) : Int × Bool := match s.L.find? (fun e => e.1 == k) with | some e => (e.2, true) | none => (0, false)
end Go.Mine
namespace Go.Proofs.Ytekebjcknhjceaa
open Go.RowKit Go.Mine Go.Proofs.YtekebjcknhjceaaW.PrintWords
set_option linter.unusedVariables false
set_option linter.unusedSimpArgs false
def encPr (x : Int × Int) : List Value := [.int .i64 x.1, .int .u64 x.2]
def kpr : Kd (Int × Int) where
  sz := 2
  E := []
  K := fun _ x cs => cs = encPr x
  M := fun _ _ _ x cs => cs = encPr x
  K_len := fun h => by rw [h]; rfl
  K_one := fun h u hu => by rw [h] at hu; simp [encPr] at hu; rcases hu with rfl | rfl <;> rfl
  K_below := fun _ h => h
  K_of_M := fun h => h
  M_mono := fun _ h => h
  M_bound := fun h => h
  M_move := fun _ h => h
  M_lower := fun _ h => h
def kwp : Kd Nat where
  sz := 1
  E := []
  K := fun _ x cs => cs = [ptrV x]
  M := fun _ _ _ x cs => cs = [ptrV x]
  K_len := fun h => by rw [h]; rfl
  K_one := fun h u hu => by rw [h] at hu; simp at hu; subst hu; rfl
  K_below := fun _ h => h
  K_of_M := fun h => h
  M_mono := fun _ h => h
  M_bound := fun h => h
  M_move := fun _ h => h
  M_lower := fun _ h => h
abbrev PrRow (w : World) (v : Value) (l : List (Int × Int)) : Prop := kpr.R 90 w 0 (fun _ => True) v l
abbrev WpRow (w : World) (v : Value) (l : List Nat) : Prop := kwp.R 57 w 0 (fun _ => True) v l
/-- A row of own, its blocks kept. -/
theorem PrRow.move {w w1 : World} {v : Value} {l : List (Int × Int)} (h : PrRow w v l) (hm : ∀ k, v.ownBlock = some k → w1.heap[k]? = w.heap[k]?) : PrRow w1 v l := by
  obtain ⟨h0, inner, ho, hr⟩ := h
  exact ⟨h0, inner, own_move ho hm, hr⟩
theorem WpRow.move {w w1 : World} {v : Value} {l : List Nat} (h : WpRow w v l) (hm : ∀ k, v.ownBlock = some k → w1.heap[k]? = w.heap[k]?) : WpRow w1 v l := by
  obtain ⟨h0, inner, ho, hr⟩ := h
  exact ⟨h0, inner, own_move ho hm, hr⟩
theorem row_lt {α : Type} {d : Kd α} {e : Nat} {w : World} {v : Value} {l : List α} (h : d.R e w 0 (fun _ => True) v l) (k : Nat) (hk : v.ownBlock = some k) : k < w.heap.size := by
  obtain ⟨h0, inner, ho, hr⟩ := h
  obtain ⟨cells, hc⟩ := own_typed ho k hk
  exact (Array.getElem?_eq_some_iff.1 hc).1
/-- What a row reads. -/
def RowAt {α : Type} (enc : α → List Value) (sz : Nat) (w : World) (A : Option Addr) (l : List α) : Prop :=
  ∀ i x, l[i]? = some x → ∃ b off, A = some ⟨b, off, none⟩ ∧ b < w.heap.size ∧ ∀ j v, (enc x)[j]? = some v → w.cell? ⟨b, off + i * sz + j, none⟩ = some v
theorem pr_at {w : World} {v : Value} {l : List (Int × Int)} (h : PrRow w v l) : ∃ A c, v = .slice A l.length c ∧ l.length ≤ c ∧ RowAt encPr 2 w A l := by
  obtain ⟨h0, inner, ho, hr⟩ := h
  rcases ho.2 with ⟨hv, h0⟩ | ⟨g, cap, cur, hv, hg, hh, h1, h2, h3, h4⟩
  · have hl : l = [] := List.eq_nil_of_length_eq_zero h0
    subst hl
    exact ⟨none, 0, hv, Nat.le_refl _, fun i x hx => by simp at hx⟩
  · refine ⟨_, cap, hv, h1, fun i x hx => ⟨g, 0, rfl, (Array.getElem?_eq_some_iff.1 hh).1, fun j u hu => ?_⟩⟩
    have h5 : (inner.drop (i * 2)).take 2 = encPr x := hr.2 i x hx
    have hj : j < 2 := by have := (List.getElem?_eq_some_iff.1 hu).1; simpa [encPr] using this
    have h6 : inner[i * 2 + j]? = some u := by
      rw [← h5, List.getElem?_take_of_lt hj, List.getElem?_drop] at hu
      exact hu
    have := ho.cells (g := g) (by rw [hv]; simp [Value.ownBlock]) _ u h6
    rw [add_plain] at this
    rw [Nat.zero_add]
    exact this
theorem wp_at {w : World} {v : Value} {l : List Nat} (h : WpRow w v l) : ∃ A c, v = .slice A l.length c ∧ l.length ≤ c ∧ RowAt (fun x => [ptrV x]) 1 w A l := by
  obtain ⟨h0, inner, ho, hr⟩ := h
  rcases ho.2 with ⟨hv, h0⟩ | ⟨g, cap, cur, hv, hg, hh, h1, h2, h3, h4⟩
  · have hl : l = [] := List.eq_nil_of_length_eq_zero h0
    subst hl
    exact ⟨none, 0, hv, Nat.le_refl _, fun i x hx => by simp at hx⟩
  · refine ⟨_, cap, hv, h1, fun i x hx => ⟨g, 0, rfl, (Array.getElem?_eq_some_iff.1 hh).1, fun j u hu => ?_⟩⟩
    have h5 : (inner.drop (i * 1)).take 1 = [ptrV x] := hr.2 i x hx
    have hj : j < 1 := by have := (List.getElem?_eq_some_iff.1 hu).1; simpa using this
    have h6 : inner[i * 1 + j]? = some u := by
      simp only at hu
      rw [← h5, List.getElem?_take_of_lt hj, List.getElem?_drop] at hu
      exact hu
    have := ho.cells (g := g) (by rw [hv]; simp [Value.ownBlock]) _ u h6
    rw [add_plain] at this
    rw [Nat.zero_add]
    exact this
/-- The document's store at block b1: pairs pv, works' row qv, locks tv; works I. -/
structure DsR (F : Nat → Prop) (w : World) (b1 : Nat) (L : List (Int × Int)) (I : List WI) (lk : LTab) (pv qv tv : Value) : Prop where
  fb : ∀ i, F i → i < w.heap.size
  b : F b1
  blk : w.heap[b1]? = some (.cells #[pv, qv, tv] 49 (0, 0))
  pr : PrRow w pv L
  wp : WpRow w qv (I.map (·.wb))
  lr : LkRow w tv lk
  pF : ∀ k, pv.ownBlock = some k → F k
  qF : ∀ k, qv.ownBlock = some k → F k
  tF : ∀ k, tv.ownBlock = some k → F k
  wk : ∀ x ∈ I, F x.wb ∧ w.heap[x.wb]? = some (.cells #[.int .i64 x.n, x.v, .bool x.p] 88 (0, 0)) ∧ ChRow w x.v x.l ∧ (∀ k, x.v.ownBlock = some k → F k)
  apart : I.Pairwise (fun x y => x.wb ≠ y.wb ∧ ∀ k, x.v.ownBlock = some k → y.v.ownBlock ≠ some k)
section
variable {F F' : Nat → Prop} {w w' : World} {b1 : Nat} {L : List (Int × Int)} {I : List WI} {lk : LTab} {pv qv tv : Value}
theorem DsR.fr {S : Nat → Prop} (h : DsR F w b1 L I lk pv qv tv) (hf : Fr S w w') (hS : ∀ i, F i → ¬ S i) : DsR F w' b1 L I lk pv qv tv where
  fb i hi := Nat.lt_of_lt_of_le (h.fb i hi) hf.size
  b := h.b
  blk := hf.at_ h.blk (hS _ h.b)
  pr := h.pr.move (fun k hk => hf.block k (row_lt h.pr k hk) (hS _ (h.pF k hk)))
  wp := h.wp.move (fun k hk => hf.block k (row_lt h.wp k hk) (hS _ (h.qF k hk)))
  lr := h.lr.move (fun k hk => hf.block k (row_lt h.lr k hk) (hS _ (h.tF k hk)))
  pF := h.pF
  qF := h.qF
  tF := h.tF
  wk x hx := ⟨(h.wk x hx).1, hf.at_ (h.wk x hx).2.1 (hS _ (h.wk x hx).1), (h.wk x hx).2.2.1.move (fun k hk => hf.block k ((h.wk x hx).2.2.1.lt k hk) (hS _ ((h.wk x hx).2.2.2 k hk))), (h.wk x hx).2.2.2⟩
  apart := h.apart
theorem DsR.below (h : DsR F w b1 L I lk pv qv tv) (hb : Below w.heap.size w w') : DsR F w' b1 L I lk pv qv tv := h.fr (Fr.of_below hb (Nat.le_refl _)) (fun _ _ q => q)
end
/-- Where a work lies. -/
def findB (I : List WI) (n : Int) : Option Nat := (I.find? (fun x => decide (x.n = n))).map (·.wb)
set_option maxRecDepth 100000 in
set_option maxHeartbeats 2000000 in
theorem dfind_any {F : Nat → Prop} {w : World} {b1 : Nat} {L : List (Int × Int)} {I : List WI} {lk : LTab} {pv qv tv : Value} (h : DsR F w b1 L I lk pv qv tv) (hn : I.length ≤ 1000000) (n : Int) :
    Calls Try.prog 23 #[.pointer (some ⟨b1, 0, none⟩), .int .i64 n] w fun e w' => e = .returned (.pointer ((findB I n).map (fun b => ⟨b, 0, none⟩))) ∧ w = w' := by
  have hc : w.cell? ⟨b1, 1, none⟩ = some qv := by rw [cell_of_row w b1 1 _ _ _ h.blk]; rfl
  obtain ⟨A, c, rfl, hAc, hat⟩ := wp_at h.wp
  have HAT := hid hat
  have H := hid h
  clear hat h
  rw [List.length_map] at hc hAc
  go_enter Try.func23, Try.ntmps23
  go_wp2_with fail
  go_loopg [5] (I.length + 1) (fun m v wr => ∃ i : Nat, v = .int .i64 i ∧ i ≤ I.length ∧ m = I.length + 1 - i ∧ wr = w ∧ ∀ j x, j < i → I[j]? = some x → (x.n == n) = false)
  case atStart => exact ⟨0, rfl, Nat.zero_le _, rfl, rfl, fun j x hj => by omega⟩
  case round =>
    obtain ⟨i, rfl, hi, hm, hw, hno⟩ := hrel
    subst hw
    have HN := hid hm
    have HNO := hid hno
    clear hm hno
    by_cases h1 : i < I.length
    · obtain ⟨x, hx⟩ : ∃ x, I[i]? = some x := ⟨_, List.getElem?_eq_getElem h1⟩
      obtain ⟨b, off, rfl, hb, hcc⟩ := HAT.out i x.wb (by rw [List.getElem?_map, hx]; rfl)
      have k0 : wr.cell? ⟨b, off + i, none⟩ = some (ptrV x.wb) := by have := hcc 0 _ rfl; simpa using this
      have hwk := H.out.wk x (List.mem_of_getElem? hx)
      have k1 : wr.cell? ⟨x.wb, 0, none⟩ = some (.int .i64 x.n) := by rw [cell_of_row _ _ 0 _ _ _ hwk.2.1]; rfl
      have HX := hid hx
      clear hcc hx hwk
      cases q1 : (x.n == n)
      · go_wp2_with fail
        go_roundg (I.length + 1 - (i + 1))
        case measure => rw [HN.out]; omega
        case rel =>
          refine ⟨i + 1, by go_num, by omega, rfl, rfl, fun j y hj hy => ?_⟩
          rcases Nat.lt_succ_iff_lt_or_eq.1 hj with hj | rfl
          · exact HNO.out j y hj hy
          · rw [HX.out] at hy; cases hy; exact q1
      · have hp : findB I n = some x.wb := by
          have : I.find? (fun x => decide (x.n = n)) = some x := by
            obtain ⟨hi2, he⟩ := List.getElem?_eq_some_iff.1 HX.out
            rw [List.find?_eq_some_iff_getElem]
            refine ⟨by simpa using q1, i, hi2, he, fun j hj => ?_⟩
            have := HNO.out j _ hj (List.getElem?_eq_getElem (by omega))
            simpa using this
          unfold findB
          rw [this]
          rfl
        have HP := hid hp
        clear hp
        go_wp2_with fail
        go_ret
        exact ⟨by rw [HP.out]; rfl, rfl⟩
    · have hp : findB I n = none := by
        have : I.find? (fun x => decide (x.n = n)) = none := by
          rw [List.find?_eq_none]
          intro x hx
          obtain ⟨j, hj, rfl⟩ := List.mem_iff_getElem.1 hx
          have := HNO.out j _ (by omega) (List.getElem?_eq_getElem hj)
          simpa using this
        unfold findB
        rw [this]
        rfl
      have HP := hid hp
      clear hp
      go_wp2_with fail
      go_ret
      exact ⟨by rw [HP.out]; rfl, rfl⟩
end Go.Proofs.Ytekebjcknhjceaa

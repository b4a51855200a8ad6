/- Walks of the document's store: Value, Backout, Get. Conditions: the store reads as DsR says. -/
import Derived.Test.YtekebjcknhjceaaKvD2
import Derived.BigQuiet
namespace Go.Mine
def dval (L : List (Int × Int)) (k : Int) : Int × Bool := match L.find? (fun e => e.1 == k) with | some e => (e.2, true) | none => (0, false)
def dget (L : List (Int × Int)) (s : KS) (n k : Int) : Int × Bool × Int :=
  if (s.touch n k false).1 ≠ 0 then (0, false, (s.touch n k false).1)
  else match ((s.touch n k false).2.listOf n).find? (fun c => c.key == k) with
    | some c => (c.val, c.kind == 1, 0)
    | none => ((dval L k).1, (dval L k).2, 0)
end Go.Mine
namespace Go.Proofs.Ytekebjcknhjceaa
open Go.RowKit Go.Mine Go.Proofs.YtekebjcknhjceaaW.PrintWords
set_option linter.unusedVariables false
set_option linter.unusedSimpArgs false
set_option maxRecDepth 100000 in
set_option maxHeartbeats 2000000 in
theorem dvalue_any {F : Nat → Prop} {w : World} {b1 : Nat} {L : List (Int × Int)} {I : List WI} {lk : LTab} {pv qv tv : Value} (h : DsR F w b1 L I lk pv qv tv) (hn : L.length ≤ 1000000) (k : Int) :
    Calls Try.prog 24 #[.pointer (some ⟨b1, 0, none⟩), .int .i64 k] w fun e w' => e = .returned (.tuple #[.int .u64 (dval L k).1, .bool (dval L k).2]) ∧ w = w' := by
  have hc : w.cell? ⟨b1, 0, none⟩ = some pv := by rw [cell_of_row w b1 0 _ _ _ h.blk]; rfl
  obtain ⟨A, c, rfl, hAc, hat⟩ := pr_at h.pr
  have HAT := hid hat
  clear hat h
  go_enter Try.func24, Try.ntmps24
  go_wp2_with fail
  go_loopg [6] (L.length + 1) (fun m v wr => ∃ i : Nat, v = .int .i64 i ∧ i ≤ L.length ∧ m = L.length + 1 - i ∧ wr = w ∧ ∀ j x, j < i → L[j]? = some x → (x.1 == k) = false)
  case atStart => exact ⟨0, rfl, Nat.zero_le _, rfl, rfl, fun j x hj => by omega⟩
  case round =>
    obtain ⟨i, rfl, hi, hm, hw, hno⟩ := hrel
    subst hw
    have HN := hid hm
    have HNO := hid hno
    clear hm hno
    by_cases h1 : i < L.length
    · obtain ⟨x, hx⟩ : ∃ x, L[i]? = some x := ⟨_, List.getElem?_eq_getElem h1⟩
      obtain ⟨b, off, rfl, hb, hcc⟩ := HAT.out i x hx
      have k0 : wr.cell? ⟨b, off + i * 2, none⟩ = some (.int .i64 x.1) := hcc 0 _ rfl
      have k1 : wr.cell? ⟨b, off + i * 2 + 1, none⟩ = some (.int .u64 x.2) := hcc 1 _ rfl
      have HX := hid hx
      clear hcc hx
      cases q1 : (x.1 == k)
      · go_wp2_with fail
        go_roundg (L.length + 1 - (i + 1))
        case measure => rw [HN.out]; omega
        case rel =>
          refine ⟨i + 1, by go_num, by omega, rfl, rfl, fun j y hj hy => ?_⟩
          rcases Nat.lt_succ_iff_lt_or_eq.1 hj with hj | rfl
          · exact HNO.out j y hj hy
          · rw [HX.out] at hy; cases hy; exact q1
      · have hp : dval L k = (x.2, true) := by
          have : L.find? (fun e => e.1 == k) = some x := by
            obtain ⟨hi2, he⟩ := List.getElem?_eq_some_iff.1 HX.out
            rw [List.find?_eq_some_iff_getElem]
            refine ⟨q1, i, hi2, he, fun j hj => ?_⟩
            rw [HNO.out j _ hj (List.getElem?_eq_getElem (by omega))]
            rfl
          unfold dval
          rw [this]
        have HP := hid hp
        clear hp
        go_wp2_with fail
        go_ret2
        exact ⟨by rw [HP.out]; rfl, rfl⟩
    · have hp : dval L k = (0, false) := by
        have : L.find? (fun e => e.1 == k) = none := by
          rw [List.find?_eq_none]
          intro x hx
          obtain ⟨j, hj, rfl⟩ := List.mem_iff_getElem.1 hx
          rw [HNO.out j _ (by omega) (List.getElem?_eq_getElem hj)]
          decide
        unfold dval
        rw [this]
      have HP := hid hp
      clear hp
      go_wp2_with fail
      go_ret2
      exact ⟨by rw [HP.out]; rfl, rfl⟩
theorem adel_wsOf (n : Int) (I : List WI) : adel n (wsOf I) = wsOf (I.filter (fun x => x.n != n)) := by
  rw [adel_ws]
  congr 1
  apply List.filter_congr
  intro x _
  by_cases h : x.n = n <;> simp [h]
/-- What a call leaves: its answer, the works and the locks. -/
def DPost (F : Nat → Prop) (w : World) (b1 : Nat) (L : List (Int × Int)) (r : Int) (s' : KS) (e : Ending) (w' : World) : Prop :=
  e = .returned (.int .i64 r) ∧ ∃ F' I' pv' qv' tv', DsR F' w' b1 L I' s'.lk pv' qv' tv' ∧ Grew F F' w ∧ s'.ws = wsOf I' ∧ Fr F w w'
theorem dbackout_any {F : Nat → Prop} {w : World} {b1 : Nat} {L : List (Int × Int)} {I : List WI} {pv qv tv : Value} {s : KS} (h : DsR F w b1 L I s.lk pv qv tv) (hws : s.ws = wsOf I) (hn : I.length ≤ 1000) (hl : Right s.lk) (n : Int) :
    Calls Try.prog 39 #[.pointer (some ⟨b1, 0, none⟩), .int .i64 n] w (DPost F w b1 L (s.backout n).1 (s.backout n).2) := by
  have hd := ddrop_any h hn (by have := hl.len; omega) n
  have H := hid h
  have HD := hid hd
  have HWS := hid hws
  clear h hd hws
  go_enter Try.func39, Try.ntmps39
  by_cases h1 : n < 1
  · have he : s.backout n = (1, s) := by simp [KS.backout, h1]
    have HE := hid he
    clear he
    go_wp2_with fail
    go_ret
    unfold DPost
    rw [HE.out]
    exact ⟨rfl, F, I, pv, qv, tv, H.out, Grew.refl _ _, HWS.out, Fr.refl _ _⟩
  · have he : s.backout n = (0, s.gone n) := by simp [KS.backout, h1]
    have HE := hid he
    clear he
    go_wp2_with fail
    refine HD.out.mono ?_
    rintro e w1 ⟨rfl, qv', tv', h1, f1⟩
    go_wp2_with fail
    go_ret
    unfold DPost
    rw [HE.out]
    refine ⟨rfl, _, _, _, _, _, h1, grew_more _ _ _, ?_, f1.mono (fun i hi => by rw [hi]; exact H.out.b)⟩
    show adel n s.ws = _
    rw [HWS.out, adel_wsOf]
end Go.Proofs.Ytekebjcknhjceaa

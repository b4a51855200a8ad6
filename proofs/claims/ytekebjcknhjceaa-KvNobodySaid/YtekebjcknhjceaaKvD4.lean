/- Walks of the document's store: Get. Conditions: the store reads as DsR says. -/
import Derived.Test.YtekebjcknhjceaaKvD3
namespace Go.Mine
theorem touch_len (s : KS) (n k : Int) (al : Bool) : (s.touch n k al).2.ws.length ≤ s.ws.length + 1 := by
  unfold KS.touch
  split
  · simp
  · split
    · simp
    · split
      · simp
      · simp only
        split <;> simp
end Go.Mine
namespace Go.Proofs.Ytekebjcknhjceaa
open Go.RowKit Go.Mine Go.Proofs.YtekebjcknhjceaaW.PrintWords
set_option linter.unusedVariables false
set_option linter.unusedSimpArgs false
theorem findB_of {I : List WI} {n : Int} {v : KW} (h : aget n (wsOf I) = some v) : ∃ x, x ∈ I ∧ x.n = n ∧ findB I n = some x.wb ∧ x.l = v.l ∧ x.p = v.p := by
  rw [aget_ws] at h
  cases hf : I.find? (fun x => decide (x.n = n)) with
  | none => rw [hf] at h; cases h
  | some x =>
    rw [hf] at h
    cases h
    have := List.find?_some hf
    exact ⟨x, List.mem_of_find?_eq_some hf, by simpa using this, by unfold findB; rw [hf]; rfl, rfl, rfl⟩
def DGet (F : Nat → Prop) (w : World) (b1 : Nat) (L : List (Int × Int)) (pv : Value) (s : KS) (n k : Int) (e : Ending) (w' : World) : Prop :=
  e = .returned (.tuple #[.int .u64 (dget L s n k).1, .bool (dget L s n k).2.1, .int .i64 (dget L s n k).2.2]) ∧ ∃ F' I' qv' tv', DsR F' w' b1 L I' (s.touch n k false).2.lk pv qv' tv' ∧ Grew F F' w ∧ (s.touch n k false).2.ws = wsOf I' ∧ Fr F w w'
set_option maxRecDepth 100000 in
set_option maxHeartbeats 4000000 in
theorem dget_any {F : Nat → Prop} {w : World} {b1 : Nat} {L : List (Int × Int)} {I : List WI} {pv qv tv : Value} {s : KS} (h : DsR F w b1 L I s.lk pv qv tv) (hws : s.ws = wsOf I) (hn : I.length ≤ 900) (hL : L.length ≤ 1000) (hok : s.Ok) (n k : Int) :
    Calls Try.prog 35 #[.pointer (some ⟨b1, 0, none⟩), .int .i64 n, .int .i64 k] w (DGet F w b1 L pv s n k) := by
  have ht := dtouch_any h hws (by omega) hok.rk n k false
  have hlen := touch_len s n k false
  have hokt := hok.touch n k false
  rw [show s.ws.length = I.length by rw [hws]; simp [wsOf]] at hlen
  have HT := hid ht
  clear ht h hws
  go_enter Try.func35, Try.ntmps35
  cases hz : ((s.touch n k false).1 != 0)
  · have h0 : (s.touch n k false).1 = 0 := by simpa using hz
    have htl := touch_list h0
    have hdg : dget L s n k = match ((s.touch n k false).2.listOf n).find? (fun c => c.key == k) with | some c => (c.val, c.kind == 1, 0) | none => ((dval L k).1, (dval L k).2, 0) := by
      unfold dget
      rw [if_neg (by simp [h0])]
      first | rfl | (cases ((s.touch n k false).2.listOf n).find? (fun c => c.key == k) <;> rfl)
    have hlo : (s.touch n k false).2.listOf n = s.listOf n := by unfold KS.listOf; rw [htl]; rfl
    rw [hlo] at hdg
    have HDG := hid hdg
    have H0 := hid h0
    clear hdg hz h0 hlo
    go_wp2_with fail
    refine HT.out.mono ?_
    rintro e w1 ⟨he, F1, I1, qv1, tv1, h1, g1, hw1, f1⟩
    subst he
    rw [H0.out]
    rw [hw1] at htl hlen
    rw [show (wsOf I1).length = I1.length by simp [wsOf]] at hlen
    obtain ⟨x, hxI, hxn, hfb, hxl, hxp⟩ := findB_of htl
    have hfd := dfind_any h1 (by omega) n
    rw [hfb] at hfd
    have hx := h1.wk x hxI
    have hxlen := hokt.chs _ (aget_mem (by rw [hw1]; exact htl))
    obtain ⟨A, c, hv, hAc, hat⟩ := hx.2.2.1.at_
    have c1 : w1.cell? ⟨x.wb, 1, none⟩ = some (.slice A x.l.length c) := by rw [cell_of_row _ _ 1 _ _ _ hx.2.1, ← hv]; rfl
    have hxle : x.l.length ≤ 16 := by rw [hxl]; exact hxlen.len
    have hdv := dvalue_any h1 (by omega) k
    have HFD := hid hfd
    have HAT := hid hat
    have HDV := hid hdv
    have H1 := hid h1
    have HW1 := hid hw1
    have HG1 := hid g1
    have HF1 := hid f1
    have HXL := hid hxl
    clear hfd hat hdv h1 hw1 g1 f1 hx hv hxl hxlen htl hxI hfb HT
    go_wp2_with fail
    refine HFD.out.mono ?_
    rintro e w2 ⟨rfl, rfl⟩
    simp only [Option.map_some]
    go_wp2_with fail
    go_loopg [11] (x.l.length + 1) (fun m v wr => ∃ i : Nat, v = .int .i64 i ∧ i ≤ x.l.length ∧ m = x.l.length + 1 - i ∧ wr = w1 ∧ ∀ j y, j < i → x.l[j]? = some y → (y.key == k) = false)
    case atStart => exact ⟨0, rfl, Nat.zero_le _, rfl, rfl, fun j x hj => by omega⟩
    case round =>
      obtain ⟨i, rfl, hi, hm, hw, hno⟩ := hrel
      subst hw
      have HN := hid hm
      have HNO := hid hno
      clear hm hno
      by_cases h1 : i < x.l.length
      · obtain ⟨y, hy⟩ : ∃ y, x.l[i]? = some y := ⟨_, List.getElem?_eq_getElem h1⟩
        obtain ⟨b, off, rfl, hb, hcc⟩ := HAT.out i y hy
        have k0 : wr.cell? ⟨b, off + i * 3, none⟩ = some (.int .i64 y.kind) := hcc 0 _ rfl
        have k1 : wr.cell? ⟨b, off + i * 3 + 1, none⟩ = some (.int .i64 y.key) := hcc 1 _ rfl
        have k2 : wr.cell? ⟨b, off + i * 3 + 2, none⟩ = some (.int .u64 y.val) := hcc 2 _ rfl
        have HY := hid hy
        clear hcc hy
        cases q1 : (y.key == k)
        · go_wp2_with fail
          go_roundg (x.l.length + 1 - (i + 1))
          case measure => rw [HN.out]; omega
          case rel =>
            refine ⟨i + 1, by go_num, by omega, rfl, rfl, fun j z hj hz => ?_⟩
            rcases Nat.lt_succ_iff_lt_or_eq.1 hj with hj | rfl
            · exact HNO.out j z hj hz
            · rw [HY.out] at hz; cases hz; exact q1
        · have hp : dget L s n k = (y.val, y.kind == 1, 0) := by
            have hs1 : s.listOf n = x.l := HXL.out.symm
            have : x.l.find? (fun c => c.key == k) = some y := by
              obtain ⟨hi2, he⟩ := List.getElem?_eq_some_iff.1 HY.out
              rw [List.find?_eq_some_iff_getElem]
              refine ⟨q1, i, hi2, he, fun j hj => ?_⟩
              rw [HNO.out j _ hj (List.getElem?_eq_getElem (by omega))]
              rfl
            rw [HDG.out, hs1, this]
          have HP := hid hp
          clear hp
          go_wp2_with fail
          go_quiet (fail)
          go_wp2_with fail
          go_ret3
          unfold DGet
          rw [HP.out]
          exact ⟨rfl, F1, I1, qv1, tv1, H1.out.below (bdn _ _), HG1.out, HW1.out, HF1.out.drewN _⟩
      · have hp : dget L s n k = ((dval L k).1, (dval L k).2, 0) := by
          have hs1 : s.listOf n = x.l := HXL.out.symm
          have : x.l.find? (fun c => c.key == k) = none := by
            rw [List.find?_eq_none]
            intro y hy
            obtain ⟨j, hj, rfl⟩ := List.mem_iff_getElem.1 hy
            rw [HNO.out j _ (by omega) (List.getElem?_eq_getElem hj)]
            decide
          rw [HDG.out, hs1, this]
        have HP := hid hp
        clear hp
        go_wp2_with fail
        refine HDV.out.mono ?_
        rintro e w3 ⟨rfl, rfl⟩
        go_wp2_with fail
        go_ret3
        unfold DGet
        rw [HP.out]
        exact ⟨rfl, F1, I1, qv1, tv1, H1.out, HG1.out, HW1.out, HF1.out⟩
  · have h0 : (s.touch n k false).1 ≠ 0 := by simpa using hz
    have hdg : dget L s n k = (0, false, (s.touch n k false).1) := by unfold dget; rw [if_pos h0]
    have HDG := hid hdg
    clear hdg h0
    go_wp2_with fail
    refine HT.out.mono ?_
    rintro e w1 ⟨rfl, F1, I1, qv1, tv1, h1, g1, hw1, f1⟩
    have H1 := hid h1
    have HW1 := hid hw1
    have HG1 := hid g1
    have HF1 := hid f1
    clear h1 hw1 g1 f1
    go_wp2_with fail
    go_ret3
    unfold DGet
    rw [HDG.out]
    exact ⟨rfl, F1, I1, qv1, tv1, H1.out, HG1.out, HW1.out, HF1.out⟩
end Go.Proofs.Ytekebjcknhjceaa

/- Walks of the document's queue: Find, may, SameChanges, Room. Conditions: the queue reads as DAt says. -/
import Derived.Test.YtmckdoiepmkbbaaQuX
namespace Go.Proofs.Ytmckdoiepmkbbaa
open Go.RowKit Go.Mine Go.Proofs.YtmckdoiepmkbbaaW.PrintWords
set_option linter.unusedVariables false
set_option linter.unusedSimpArgs false
def eD : Enc It := ⟨2, fun x => [.int .i64 x.num, .int .u64 x.val], fun _ => rfl, fun x u hu => by simp at hu; rcases hu with rfl | rfl <;> rfl⟩
def encD (x : It) : List Value := [.int .i64 x.num, .int .u64 x.val]
/-- The document's queue at block b reads as s (who took an item is not there). -/
def DAt (F : Nat → Prop) (w : World) (b : Nat) (s : QS) : Prop := ∃ I iv qv, QR eD T1 F w b s.its I s.gv iv qv ∧ s.ws = wsOf I
theorem DAt.fb {F : Nat → Prop} {w : World} {b : Nat} {s : QS} (h : DAt F w b s) : ∀ i, F i → i < w.heap.size := by
  obtain ⟨I, iv, qv, h1, h2⟩ := h
  exact h1.fb
theorem DAt.fr {F S : Nat → Prop} {w w' : World} {b : Nat} {s : QS} (h : DAt F w b s) (hf : Fr S w w') (hS : ∀ i, F i → ¬ S i) : DAt F w' b s := by
  obtain ⟨I, iv, qv, h1, h2⟩ := h
  exact ⟨I, iv, qv, h1.fr hf hS, h2⟩
theorem DAt.below {F : Nat → Prop} {w w' : World} {b : Nat} {s : QS} (h : DAt F w b s) (hb : Below w.heap.size w w') : DAt F w' b s := h.fr (Fr.of_below hb (Nat.le_refl _)) (fun _ _ q => q)
theorem QR.itsD {F : Nat → Prop} {w : World} {b : Nat} {L L' : List It} {I : List WI} {g : Int} {iv qv : Value} (h : QR eD T1 F w b L I g iv qv) (he : L.map encD = L'.map encD) : QR eD T1 F w b L' I g iv qv :=
  ⟨h.fb, h.bF, h.blk, h.it.congr he, h.wp, h.iF, h.qF, h.wk, h.apart⟩
theorem DAt.its {F : Nat → Prop} {w : World} {b : Nat} {s : QS} {L : List It} (h : DAt F w b s) (he : s.its.map encD = L.map encD) : DAt F w b ⟨L, s.ws, s.gv⟩ := by
  obtain ⟨I, iv, qv, h1, h2⟩ := h
  exact ⟨I, iv, qv, h1.itsD he, h2⟩
set_option maxRecDepth 100000 in
set_option maxHeartbeats 2000000 in
theorem dfind_any {F : Nat → Prop} {w : World} {b : Nat} {L : List It} {I : List WI} {g : Int} {iv qv : Value} (h : QR eD T1 F w b L I g iv qv) (hn : I.length ≤ 1000000) (n : Int) :
    Calls Try.prog 27 #[.pointer (some ⟨b, 0, none⟩), .int .i64 n] w fun e w' => e = .returned (.pointer ((findB I n).map (fun b => ⟨b, 0, none⟩))) ∧ w = w' := by
  have hc : w.cell? ⟨b, 1, none⟩ = some qv := by rw [cell_of_row w b 1 _ _ _ h.blk]; rfl
  obtain ⟨A, c, rfl, hAc, hat⟩ := h.wp.at_
  have HAT := hid hat
  have H := hid h
  clear hat h
  go_enter Try.func27, Try.ntmps27
  go_wp2_with fail
  go_loopg [5] (I.length + 1) (fun m v wr => ∃ i : Nat, v = .int .i64 i ∧ i ≤ I.length ∧ m = I.length + 1 - i ∧ wr = w ∧ ∀ j x, j < i → I[j]? = some x → (x.n == n) = false)
  case atStart => exact ⟨0, rfl, Nat.zero_le _, rfl, rfl, fun j x hj => by omega⟩
  case round =>
    obtain ⟨i, rfl, hi, hm, hw, hno⟩ := hrel
    subst hw
    have HN := hid hm
    have HNO := hid hno
    clear hm hno
    by_cases h1 : i < I.length
    · obtain ⟨x, hx⟩ : ∃ x, I[i]? = some x := ⟨_, List.getElem?_eq_getElem h1⟩
      obtain ⟨b', off, rfl, hb, hcc⟩ := HAT.out i x hx
      have k0 : wr.cell? ⟨b', off + i, none⟩ = some (ptrV x.wb) := by have := hcc 0 _ rfl; simpa [eWI] using this
      have hwk := H.out.wk x (List.mem_of_getElem? hx)
      have k1 : wr.cell? ⟨x.wb, 0, none⟩ = some (.int .i64 x.n) := by rw [cell_of_row _ _ 0 _ _ _ hwk.2.1]; rfl
      have HX := hid hx
      clear hcc hx hwk
      cases q1 : (x.n == n)
      · go_wp2_with fail
        go_roundg (I.length + 1 - (i + 1))
        case measure => rw [HN.out]; omega
        case rel =>
          refine ⟨i + 1, by go_num, by omega, rfl, rfl, fun j y hj hy => ?_⟩
          rcases Nat.lt_succ_iff_lt_or_eq.1 hj with hj | rfl
          · exact HNO.out j y hj hy
          · rw [HX.out] at hy; cases hy; exact q1
      · have hp : findB I n = some x.wb := by
          have : I.find? (fun x => decide (x.n = n)) = some x := by
            obtain ⟨hi2, he⟩ := List.getElem?_eq_some_iff.1 HX.out
            rw [List.find?_eq_some_iff_getElem]
            refine ⟨by simpa using q1, i, hi2, he, fun j hj => ?_⟩
            have := HNO.out j _ hj (List.getElem?_eq_getElem (by omega))
            simpa using this
          unfold findB
          rw [this]
          rfl
        have HP := hid hp
        clear hp
        go_wp2_with fail
        go_ret
        exact ⟨by rw [HP.out]; rfl, rfl⟩
    · have hp : findB I n = none := by
        have : I.find? (fun x => decide (x.n = n)) = none := by
          rw [List.find?_eq_none]
          intro x hx
          obtain ⟨j, hj, rfl⟩ := List.mem_iff_getElem.1 hx
          have := HNO.out j _ (by omega) (List.getElem?_eq_getElem hj)
          simpa using this
        unfold findB
        rw [this]
        rfl
      have HP := hid hp
      clear hp
      go_wp2_with fail
      go_ret
      exact ⟨by rw [HP.out]; rfl, rfl⟩
theorem dmay_any {F : Nat → Prop} {w : World} {b : Nat} {s : QS} (h : DAt F w b s) (hn : s.ws.length ≤ 1000000) (n : Int) :
    Calls Try.prog 53 #[.pointer (some ⟨b, 0, none⟩), .int .i64 n] w fun e w' => e = .returned (.int .i64 (s.fit n)) ∧ w = w' := by
  obtain ⟨I, iv, qv, hR, hws⟩ := h
  have hIl : I.length ≤ 1000000 := by rw [hws] at hn; simpa [wsOf] using hn
  have hfd := dfind_any hR hIl n
  have hg := aget_ws n I
  rw [← hws] at hg
  unfold findB at hfd
  by_cases h1 : n < 1
  · have he : s.fit n = 1 := by simp [QS.fit, h1]
    have HE := hid he
    clear he hg hfd
    go_enter Try.func53, Try.ntmps53
    go_wp2_with fail
    go_ret
    exact ⟨by rw [HE.out]; rfl, rfl⟩
  · cases hf : I.find? (fun x => decide (x.n = n)) with
    | none =>
      rw [hf] at hfd hg
      simp only [Option.map_none] at hfd hg
      have he : s.fit n = 0 := by simp [QS.fit, h1, prepd, hg]
      have HE := hid he
      have HFD := hid hfd
      clear he hg hfd hf
      go_enter Try.func53, Try.ntmps53
      go_wp2_with fail
      refine HFD.out.mono ?_
      rintro e w1 ⟨rfl, rfl⟩
      go_wp2_with fail
      go_ret
      exact ⟨by rw [HE.out]; rfl, rfl⟩
    | some x =>
      have hx := hR.wk x (List.mem_of_find?_eq_some hf)
      have k2 : w.cell? ⟨x.wb, 2, none⟩ = some (.bool x.p) := by rw [cell_of_row _ _ 2 _ _ _ hx.2.1]; rfl
      rw [hf] at hfd hg
      simp only [Option.map_some] at hfd hg
      have he : s.fit n = if x.p then 7 else 0 := by simp [QS.fit, h1, prepd, hg]
      have HE := hid he
      have HFD := hid hfd
      clear he hg hfd hf hx
      cases hp : x.p
      all_goals
        rw [hp] at k2 HE
        go_enter Try.func53, Try.ntmps53
        go_wp2_with fail
        refine HFD.out.mono ?_
        rintro e w1 ⟨rfl, rfl⟩
        go_wp2_with fail
        go_ret
        exact ⟨by rw [HE.out]; rfl, rfl⟩
set_option maxRecDepth 100000 in
set_option maxHeartbeats 2000000 in
theorem samech_any (A A' : Option Addr) (l : List Ch) (c c' B : Nat) (w : World) (h : ChAt w B A l) (h' : ChAt w B A' l) (hn : l.length ≤ 1000000) :
    Calls Try.prog 24 #[.slice A l.length c, .slice A' l.length c'] w fun e w' => e = .returned (.bool true) ∧ ∃ q, w' = w.drewN q := by
  have H := hid h
  have H' := hid h'
  clear h h'
  go_enter Try.func24, Try.ntmps24
  go_wp2_with fail
  go_loopg [5] (l.length + 1) (fun m v wr => ∃ i : Nat, v = .int .i64 i ∧ i ≤ l.length ∧ m = l.length + 1 - i ∧ ∃ q, wr = w.drewN q)
  case atStart => exact ⟨0, rfl, Nat.zero_le _, rfl, 0, rfl⟩
  case round =>
    obtain ⟨i, rfl, hi, hm, q, hq⟩ := hrel
    have HN := hid hm
    have HQ := hid hq
    by_cases h1 : i < l.length
    · obtain ⟨y, hy⟩ : ∃ y, l[i]? = some y := ⟨_, List.getElem?_eq_getElem h1⟩
      obtain ⟨b, off, rfl, hb, hc⟩ := H.out i y hy
      obtain ⟨b', off', rfl, hb', hc'⟩ := H'.out i y hy
      have k0 : wr.cell? ⟨b, off + i * 3, none⟩ = some (.int .i64 y.kind) := by rw [hq]; exact hc 0 _ rfl
      have k1 : wr.cell? ⟨b, off + i * 3 + 1, none⟩ = some (.int .i64 y.key) := by rw [hq]; exact hc 1 _ rfl
      have k2 : wr.cell? ⟨b, off + i * 3 + 2, none⟩ = some (.int .u64 y.val) := by rw [hq]; exact hc 2 _ rfl
      have m0 : wr.cell? ⟨b', off' + i * 3, none⟩ = some (.int .i64 y.kind) := by rw [hq]; exact hc' 0 _ rfl
      have m1 : wr.cell? ⟨b', off' + i * 3 + 1, none⟩ = some (.int .i64 y.key) := by rw [hq]; exact hc' 1 _ rfl
      have m2 : wr.cell? ⟨b', off' + i * 3 + 2, none⟩ = some (.int .u64 y.val) := by rw [hq]; exact hc' 2 _ rfl
      clear hm hq hc hc' hy
      go_wp2_with fail
      go_quiet (fail)
      go_wp2_with fail
      go_roundg (l.length + 1 - (i + 1))
      case measure => rw [HN.out]; omega
      case rel => exact ⟨i + 1, by go_num, by omega, rfl, _, by rw [HQ.out]; exact drewN_two _ _ _⟩
    · clear hm hq
      go_wp2_with fail
      go_ret
      exact ⟨rfl, q, HQ.out⟩
set_option maxRecDepth 100000 in
set_option maxHeartbeats 2000000 in
theorem droom_any {F : Nat → Prop} {w : World} {b : Nat} {s : QS} (h : DAt F w b s) (hb : s.Bd) :
    Calls Try.prog 54 #[.pointer (some ⟨b, 0, none⟩)] w fun e w' => e = .returned (.int .i64 s.room) ∧ ∃ q, w' = w.drewN q := by
  have hat0 := h
  obtain ⟨I, iv, qv, hR, hws⟩ := h
  obtain ⟨hb1, hb2, hb3, hb4, hb5, hb6, hb7⟩ := hb
  have hIl : I.length ≤ 1000 := by rw [hws] at hb3; simpa [wsOf] using hb3
  have hc : w.cell? ⟨b, 1, none⟩ = some qv := by rw [cell_of_row w b 1 _ _ _ hR.blk]; rfl
  obtain ⟨A, c, rfl, hAc, hat⟩ := hR.wp.at_
  have HAT := hid hat
  have HR := hid hR
  have HWS := hid hws
  have HLS := hid hb4
  rw [hws] at hb5
  clear hat hR hws hb4
  go_enter Try.func54, Try.ntmps54
  go_wp2_with fail
  go_loopg [3, 4] (I.length + 1) (fun m v3 v11 wr => ∃ i : Nat, v3 = .int .i64 (putsW (wsOf (I.take i))) ∧ v11 = .int .i64 i ∧ i ≤ I.length ∧ m = I.length + 1 - i ∧ wr = w)
  case atStart => exact ⟨0, rfl, rfl, Nat.zero_le _, rfl, rfl⟩
  case round =>
    obtain ⟨i, rfl, rfl, hi, hm, hw⟩ := hrel
    subst hw
    have HN := hid hm
    clear hm
    have hRr := HR.out
    by_cases h1 : i < I.length
    · obtain ⟨x, hx⟩ : ∃ x, I[i]? = some x := ⟨_, List.getElem?_eq_getElem h1⟩
      obtain ⟨b', off, rfl, hbb, hcc⟩ := HAT.out i x hx
      have k0 : wr.cell? ⟨b', off + i, none⟩ = some (ptrV x.wb) := by have := hcc 0 _ rfl; simpa [eWI] using this
      have hwk := hRr.wk x (List.mem_of_getElem? hx)
      obtain ⟨A2, c2, hv2, hc2, hat2⟩ := hwk.2.2.1.at_
      have k1 : wr.cell? ⟨x.wb, 1, none⟩ = some (.slice A2 x.l.length c2) := by rw [cell_of_row _ _ 1 _ _ _ hwk.2.1, ← hv2]; rfl
      have hxl : x.l.length ≤ 1000 := HLS.out (x.n, ⟨x.l, x.p⟩) (by rw [HWS.out]; exact List.mem_map.2 ⟨x, List.mem_of_getElem? hx, rfl⟩)
      have hst := putsW_take hx
      have hle := putsW_pre I i
      have hle2 := putsL_le x.l
      have HP := hid (putsr_any A2 x.l c2 _ wr hat2 (by omega))
      have HST := hid hst
      clear hcc hx hwk hat2 hst hv2 hRr
      generalize putsW (wsOf (I.take i)) = P at *
      generalize putsL x.l = Q at *
      go_wp2_with fail
      refine HP.out.mono ?_
      rintro e w2 ⟨rfl, rfl⟩
      go_wp2_with fail
      go_roundg (I.length + 1 - (i + 1))
      case measure => rw [HN.out]; omega
      case rel => exact ⟨i + 1, by rw [HST.out]; go_num, by go_num, by omega, rfl, rfl⟩
    · have : i = I.length := by omega
      subst this
      have hq : putsW (wsOf (I.take I.length)) = putsW s.ws := by rw [HWS.out, List.take_length]
      rw [← HWS.out] at hb5
      obtain ⟨A3, c3, hv3, hc3, hat3⟩ := hRr.it.at_
      have k0 : wr.cell? ⟨b, 0, none⟩ = some (.slice A3 s.its.length c3) := by rw [cell_of_row wr b 0 _ _ _ hRr.blk, ← hv3]; rfl
      have k2 : wr.cell? ⟨b, 2, none⟩ = some (.int .i64 s.gv) := by rw [cell_of_row wr b 2 _ _ _ hRr.blk]; rfl
      have hroom : s.room = min (16 - (s.its.length : Int) - putsW s.ws) (4611686018427387904 - (s.gv + 1) - putsW s.ws) := rfl
      have HROOM := hid hroom
      rw [hq]
      clear hq hroom hat3 hv3 hRr
      generalize putsW s.ws = P at *
      generalize s.gv = gv at *
      generalize s.its.length = ln at *
      have w1 : IntKind.i64.wrap (16 - (ln : Int)) = 16 - ln := wr64 (by omega) (by omega)
      have w2 : IntKind.i64.wrap (16 - (ln : Int) - (P : Int)) = 16 - ln - P := wr64 (by omega) (by omega)
      have w3 : IntKind.i64.wrap (4611686018427387904 - (gv + 1)) = 4611686018427387904 - (gv + 1) := wr64 (by omega) (by omega)
      have w4 : IntKind.i64.wrap (4611686018427387904 - (gv + 1) - (P : Int)) = 4611686018427387904 - (gv + 1) - P := wr64 (by omega) (by omega)
      have w5 : IntKind.i64.wrap (gv + 1) = gv + 1 := wr64 (by omega) (by omega)
      go_wp2_with fail
      go_quiet (fail)
      by_cases hlt : 4611686018427387904 - (gv + 1) - (P : Int) < 16 - (ln : Int) - (P : Int)
      · have hlt' : decide (4611686018427387904 - (gv + 1) - (P : Int) < 16 - (ln : Int) - (P : Int)) = true := by simpa using hlt
        go_wp2_with fail
        go_ret
        refine ⟨?_, _, rfl⟩
        rw [HROOM.out]
        show Ending.returned (Value.int .i64 _) = _
        congr 2
        omega
      · have hlt' : decide (4611686018427387904 - (gv + 1) - (P : Int) < 16 - (ln : Int) - (P : Int)) = false := by simpa using hlt
        go_wp2_with fail
        go_ret
        refine ⟨?_, _, rfl⟩
        rw [HROOM.out]
        show Ending.returned (Value.int .i64 _) = _
        congr 2
        omega
end Go.Proofs.Ytmckdoiepmkbbaa

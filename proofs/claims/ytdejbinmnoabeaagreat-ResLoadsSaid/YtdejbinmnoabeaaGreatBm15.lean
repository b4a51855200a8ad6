/- Texts of this seat, put together: QdA, QdB, QdC. -/
import Derived.Test.YtdejbinmnoabeaaGreatBm14
namespace Go.Proofs.YtdejbinmnoabeaaGreat.E
open Go.Proofs.YtdejbinmnoabeaaGreat.Q
variable {Zd : Z3}
open Go.RowKit Go.Mine Go.Proofs.YtdejbinmnoabeaaGreatW.PrintWords
set_option linter.unusedVariables false
set_option linter.unusedSimpArgs false
def eD : Enc It := ⟨2, fun x => [.int .i64 x.num, .int .u64 x.val], fun _ => rfl, fun x u hu => by simp at hu; rcases hu with rfl | rfl <;> rfl⟩
def encD (x : It) : List Value := [.int .i64 x.num, .int .u64 x.val]
def DAt (Zd : Z3) (F : Nat → Prop) (w : World) (b : Nat) (s : QS) : Prop := ∃ I iv qv, QR Zd eD T1 F w b s.its I s.gv iv qv ∧ s.ws = wsOf I
theorem DAt.fb {F : Nat → Prop} {w : World} {b : Nat} {s : QS} (h : DAt Zd F w b s) : ∀ i, F i → i < w.heap.size := by
  obtain ⟨I, iv, qv, h1, h2⟩ := h
  exact h1.fb
theorem DAt.fr {F S : Nat → Prop} {w w' : World} {b : Nat} {s : QS} (h : DAt Zd F w b s) (hf : Fr S w w') (hS : ∀ i, F i → ¬ S i) : DAt Zd F w' b s := by
  obtain ⟨I, iv, qv, h1, h2⟩ := h
  exact ⟨I, iv, qv, h1.fr hf hS, h2⟩
theorem DAt.below {F : Nat → Prop} {w w' : World} {b : Nat} {s : QS} (h : DAt Zd F w b s) (hb : Below w.heap.size w w') : DAt Zd F w' b s := h.fr (Fr.of_below hb (Nat.le_refl _)) (fun _ _ q => q)
theorem QR.itsD {F : Nat → Prop} {w : World} {b : Nat} {L L' : List It} {I : List WI} {g : Int} {iv qv : Value} (h : QR Zd eD T1 F w b L I g iv qv) (he : L.map encD = L'.map encD) : QR Zd eD T1 F w b L' I g iv qv :=
  ⟨h.fb, h.bF, h.blk, h.it.congr he, h.wp, h.iF, h.qF, h.wk, h.apart⟩
theorem DAt.its {F : Nat → Prop} {w : World} {b : Nat} {s : QS} {L : List It} (h : DAt Zd F w b s) (he : s.its.map encD = L.map encD) : DAt Zd F w b ⟨L, s.ws, s.gv⟩ := by
  obtain ⟨I, iv, qv, h1, h2⟩ := h
  exact ⟨I, iv, qv, h1.itsD he, h2⟩
set_option maxRecDepth 100000 in
set_option maxHeartbeats 2000000 in
theorem dfind_any {F : Nat → Prop} {w : World} {b : Nat} {L : List It} {I : List WI} {g : Int} {iv qv : Value} (h : QR Zd eD T1 F w b L I g iv qv) (hn : I.length ≤ 1000000) (n : Int) :
    Calls Tryz.prog 40 #[.pointer (some ⟨b, 3, none⟩), .int .i64 n] w fun e w' => e = .returned (.pointer ((findB I n).map (fun b => ⟨b, 0, none⟩))) ∧ w = w' := by
  have hc : w.cell? ⟨b, 4, none⟩ = some qv := by rw [cell_of_row w b 4 _ _ _ h.blk]; rfl
  obtain ⟨A, c, rfl, hAc, hat⟩ := h.wp.at_
  have HAT := hid hat
  have H := hid h
  clear hat h
  go_enter Tryz.func40, Tryz.ntmps40
  go_wp2_with fail
  go_loopg [5] (I.length + 1) (fun m v wr => ∃ i : Nat, v = .int .i64 i ∧ i ≤ I.length ∧ m = I.length + 1 - i ∧ wr = w ∧ ∀ j x, j < i → I[j]? = some x → (x.n == n) = false)
  case atStart => exact ⟨0, rfl, Nat.zero_le _, rfl, rfl, fun j x hj => by omega⟩
  case round =>
    obtain ⟨i, rfl, hi, hm, hw, hno⟩ := hrel
    subst hw
    have HN := hid hm
    have HNO := hid hno
    clear hm hno
    by_cases h1 : i < I.length
    · obtain ⟨x, hx⟩ : ∃ x, I[i]? = some x := ⟨_, List.getElem?_eq_getElem h1⟩
      obtain ⟨b', off, rfl, hb, hcc⟩ := HAT.out i x hx
      have k0 : wr.cell? ⟨b', off + i, none⟩ = some (ptrV x.wb) := by have := hcc 0 _ rfl; simpa [eWI] using this
      have hwk := H.out.wk x (List.mem_of_getElem? hx)
      have k1 : wr.cell? ⟨x.wb, 0, none⟩ = some (.int .i64 x.n) := by rw [cell_of_row _ _ 0 _ _ _ hwk.2.1]; rfl
      have HX := hid hx
      clear hcc hx hwk
      cases q1 : (x.n == n)
      · go_wp2_with fail
        go_roundg (I.length + 1 - (i + 1))
        case measure => rw [HN.out]; omega
        case rel =>
          refine ⟨i + 1, by go_num, by omega, rfl, rfl, fun j y hj hy => ?_⟩
          rcases Nat.lt_succ_iff_lt_or_eq.1 hj with hj | rfl
          · exact HNO.out j y hj hy
          · rw [HX.out] at hy; cases hy; exact q1
      · have hp : findB I n = some x.wb := by
          have : I.find? (fun x => decide (x.n = n)) = some x := by
            obtain ⟨hi2, he⟩ := List.getElem?_eq_some_iff.1 HX.out
            rw [List.find?_eq_some_iff_getElem]
            refine ⟨by simpa using q1, i, hi2, he, fun j hj => ?_⟩
            have := HNO.out j _ hj (List.getElem?_eq_getElem (by omega))
            simpa using this
          unfold findB
          rw [this]
          rfl
        have HP := hid hp
        clear hp
        go_wp2_with fail
        go_ret
        exact ⟨by rw [HP.out]; rfl, rfl⟩
    · have hp : findB I n = none := by
        have : I.find? (fun x => decide (x.n = n)) = none := by
          rw [List.find?_eq_none]
          intro x hx
          obtain ⟨j, hj, rfl⟩ := List.mem_iff_getElem.1 hx
          have := HNO.out j _ (by omega) (List.getElem?_eq_getElem hj)
          simpa using this
        unfold findB
        rw [this]
        rfl
      have HP := hid hp
      clear hp
      go_wp2_with fail
      go_ret
      exact ⟨by rw [HP.out]; rfl, rfl⟩
theorem dmay_any {F : Nat → Prop} {w : World} {b : Nat} {s : QS} (h : DAt Zd F w b s) (hn : s.ws.length ≤ 1000000) (n : Int) :
    Calls Tryz.prog 97 #[.pointer (some ⟨b, 3, none⟩), .int .i64 n] w fun e w' => e = .returned (.int .i64 (s.fit n)) ∧ w = w' := by
  obtain ⟨I, iv, qv, hR, hws⟩ := h
  have hIl : I.length ≤ 1000000 := by rw [hws] at hn; simpa [wsOf] using hn
  have hfd := dfind_any hR hIl n
  have hg := aget_ws n I
  rw [← hws] at hg
  unfold findB at hfd
  by_cases h1 : n < 1
  · have he : s.fit n = 1 := by simp [QS.fit, h1]
    have HE := hid he
    clear he hg hfd
    go_enter Tryz.func97, Tryz.ntmps97
    go_wp2_with fail
    go_ret
    exact ⟨by rw [HE.out]; rfl, rfl⟩
  · cases hf : I.find? (fun x => decide (x.n = n)) with
    | none =>
      rw [hf] at hfd hg
      simp only [Option.map_none] at hfd hg
      have he : s.fit n = 0 := by simp [QS.fit, h1, prepd, hg]
      have HE := hid he
      have HFD := hid hfd
      clear he hg hfd hf
      go_enter Tryz.func97, Tryz.ntmps97
      go_wp2_with fail
      refine HFD.out.mono ?_
      rintro e w1 ⟨rfl, rfl⟩
      go_wp2_with fail
      go_ret
      exact ⟨by rw [HE.out]; rfl, rfl⟩
    | some x =>
      have hx := hR.wk x (List.mem_of_find?_eq_some hf)
      have k2 : w.cell? ⟨x.wb, 2, none⟩ = some (.bool x.p) := by rw [cell_of_row _ _ 2 _ _ _ hx.2.1]; rfl
      rw [hf] at hfd hg
      simp only [Option.map_some] at hfd hg
      have he : s.fit n = if x.p then 7 else 0 := by simp [QS.fit, h1, prepd, hg]
      have HE := hid he
      have HFD := hid hfd
      clear he hg hfd hf hx
      cases hp : x.p
      all_goals
        rw [hp] at k2 HE
        go_enter Tryz.func97, Tryz.ntmps97
        go_wp2_with fail
        refine HFD.out.mono ?_
        rintro e w1 ⟨rfl, rfl⟩
        go_wp2_with fail
        go_ret
        exact ⟨by rw [HE.out]; rfl, rfl⟩
set_option maxRecDepth 100000 in
set_option maxHeartbeats 2000000 in
theorem droom_any {F : Nat → Prop} {w : World} {b : Nat} {s : QS} (h : DAt Zd F w b s) (hb : s.Bd) :
    Calls Tryz.prog 98 #[.pointer (some ⟨b, 3, none⟩)] w fun e w' => e = .returned (.int .i64 s.room) ∧ ∃ q, w' = w.drewN q := by
  have hat0 := h
  obtain ⟨I, iv, qv, hR, hws⟩ := h
  obtain ⟨hb1, hb2, hb3, hb4, hb5, hb6, hb7⟩ := hb
  have hIl : I.length ≤ 1000 := by rw [hws] at hb3; simpa [wsOf] using hb3
  have hc : w.cell? ⟨b, 4, none⟩ = some qv := by rw [cell_of_row w b 4 _ _ _ hR.blk]; rfl
  obtain ⟨A, c, rfl, hAc, hat⟩ := hR.wp.at_
  have HAT := hid hat
  have HR := hid hR
  have HWS := hid hws
  have HLS := hid hb4
  rw [hws] at hb5
  clear hat hR hws hb4
  go_enter Tryz.func98, Tryz.ntmps98
  go_wp2_with fail
  go_loopg [3, 4] (I.length + 1) (fun m v3 v11 wr => ∃ i : Nat, v3 = .int .i64 (putsW (wsOf (I.take i))) ∧ v11 = .int .i64 i ∧ i ≤ I.length ∧ m = I.length + 1 - i ∧ wr = w)
  case atStart => exact ⟨0, rfl, rfl, Nat.zero_le _, rfl, rfl⟩
  case round =>
    obtain ⟨i, rfl, rfl, hi, hm, hw⟩ := hrel
    subst hw
    have HN := hid hm
    clear hm
    have hRr := HR.out
    by_cases h1 : i < I.length
    · obtain ⟨x, hx⟩ : ∃ x, I[i]? = some x := ⟨_, List.getElem?_eq_getElem h1⟩
      obtain ⟨b', off, rfl, hbb, hcc⟩ := HAT.out i x hx
      have k0 : wr.cell? ⟨b', off + i, none⟩ = some (ptrV x.wb) := by have := hcc 0 _ rfl; simpa [eWI] using this
      have hwk := hRr.wk x (List.mem_of_getElem? hx)
      obtain ⟨A2, c2, hv2, hc2, hat2⟩ := hwk.2.2.1.at_
      have k1 : wr.cell? ⟨x.wb, 1, none⟩ = some (.slice A2 x.l.length c2) := by rw [cell_of_row _ _ 1 _ _ _ hwk.2.1, ← hv2]; rfl
      have hxl : x.l.length ≤ 1000 := HLS.out (x.n, ⟨x.l, x.p⟩) (by rw [HWS.out]; exact List.mem_map.2 ⟨x, List.mem_of_getElem? hx, rfl⟩)
      have hst := putsW_take hx
      have hle := putsW_pre I i
      have hle2 := putsL_le x.l
      have HP := hid (putsr_any A2 x.l c2 _ wr hat2 (by omega))
      have HST := hid hst
      clear hcc hx hwk hat2 hst hv2 hRr
      generalize putsW (wsOf (I.take i)) = P at *
      generalize putsL x.l = Q at *
      go_wp2_with fail
      refine HP.out.mono ?_
      rintro e w2 ⟨rfl, rfl⟩
      go_wp2_with fail
      go_roundg (I.length + 1 - (i + 1))
      case measure => rw [HN.out]; omega
      case rel => exact ⟨i + 1, by rw [HST.out]; go_num, by go_num, by omega, rfl, rfl⟩
    · have : i = I.length := by omega
      subst this
      have hq : putsW (wsOf (I.take I.length)) = putsW s.ws := by rw [HWS.out, List.take_length]
      rw [← HWS.out] at hb5
      obtain ⟨A3, c3, hv3, hc3, hat3⟩ := hRr.it.at_
      have k0 : wr.cell? ⟨b, 3, none⟩ = some (.slice A3 s.its.length c3) := by rw [cell_of_row wr b 3 _ _ _ hRr.blk, ← hv3]; rfl
      have k2 : wr.cell? ⟨b, 5, none⟩ = some (.int .i64 s.gv) := by rw [cell_of_row wr b 5 _ _ _ hRr.blk]; rfl
      have hroom : s.room = min (16 - (s.its.length : Int) - putsW s.ws) (4611686018427387904 - (s.gv + 1) - putsW s.ws) := rfl
      have HROOM := hid hroom
      rw [hq]
      clear hq hroom hat3 hv3 hRr
      generalize putsW s.ws = P at *
      generalize s.gv = gv at *
      generalize s.its.length = ln at *
      have w1 : IntKind.i64.wrap (16 - (ln : Int)) = 16 - ln := wr64 (by omega) (by omega)
      have w2 : IntKind.i64.wrap (16 - (ln : Int) - (P : Int)) = 16 - ln - P := wr64 (by omega) (by omega)
      have w3 : IntKind.i64.wrap (4611686018427387904 - (gv + 1)) = 4611686018427387904 - (gv + 1) := wr64 (by omega) (by omega)
      have w4 : IntKind.i64.wrap (4611686018427387904 - (gv + 1) - (P : Int)) = 4611686018427387904 - (gv + 1) - P := wr64 (by omega) (by omega)
      have w5 : IntKind.i64.wrap (gv + 1) = gv + 1 := wr64 (by omega) (by omega)
      go_wp2_with fail
      go_quiet (fail)
      by_cases hlt : 4611686018427387904 - (gv + 1) - (P : Int) < 16 - (ln : Int) - (P : Int)
      · have hlt' : decide (4611686018427387904 - (gv + 1) - (P : Int) < 16 - (ln : Int) - (P : Int)) = true := by simpa using hlt
        go_wp2_with fail
        go_ret
        refine ⟨?_, _, rfl⟩
        rw [HROOM.out]
        show Ending.returned (Value.int .i64 _) = _
        congr 2
        omega
      · have hlt' : decide (4611686018427387904 - (gv + 1) - (P : Int) < 16 - (ln : Int) - (P : Int)) = false := by simpa using hlt
        go_wp2_with fail
        go_ret
        refine ⟨?_, _, rfl⟩
        rw [HROOM.out]
        show Ending.returned (Value.int .i64 _) = _
        congr 2
        omega
end Go.Proofs.YtdejbinmnoabeaaGreat.E
namespace Go.Mine
set_option linter.unusedVariables false
set_option linter.unusedSimpArgs false
def takesIt (num : Int) (l : List Ch) : Bool := l.any (fun c => c.kind == 4 && c.key == num)
def takerW (num : Int) (ws : List (Int × KW)) : Int := ((ws.find? (fun x => takesIt num x.2.l)).map (·.1)).getD 0
end Go.Mine
namespace Go.Proofs.YtdejbinmnoabeaaGreat.E
open Go.Proofs.YtdejbinmnoabeaaGreat.Q
variable {Zd : Z3}
open Go.RowKit Go.Mine Go.Proofs.YtdejbinmnoabeaaGreatW.PrintWords
set_option linter.unusedVariables false
set_option linter.unusedSimpArgs false
theorem info102 : (Tryz.prog.info? 102).map (fun i => (i.zero, i.size, i.bytes)) = some (some (.pointer none), 1, 8) := by kernel_rfl
theorem info129 : (Tryz.prog.info? 129).map (fun i => (i.zero, i.size, i.bytes)) = some (some (.agg #[.int .i64 0, .int .u64 0]), 2, 16) := by kernel_rfl
set_option maxRecDepth 100000 in
set_option maxHeartbeats 2000000 in
theorem dvalues_any {F : Nat → Prop} {w : World} {b : Nat} {s : QS} (h : DAt Zd F w b s) (hn : s.its.length ≤ 100000) :
    Calls Tryz.prog 45 #[.pointer (some ⟨b, 3, none⟩)] w fun e w' => ∃ v, e = .returned v ∧ FR eU 39 w' v (s.its.map (·.val)) ∧ (∀ k, v.ownBlock = some k → w.heap.size ≤ k) ∧ Below w.heap.size w w' := by
  obtain ⟨I, iv, qv, hR, hws⟩ := h
  have hc : w.cell? ⟨b, 3, none⟩ = some iv := by rw [cell_of_row w b 3 _ _ _ hR.blk]; rfl
  obtain ⟨A, c, rfl, hAc, hat⟩ := hR.it.at_
  have HAT : Hid (RowAt encD 2 w w.heap.size A s.its) := hid hat
  clear hat hR hws
  go_enter Tryz.func45, Tryz.ntmps45
  go_wp2_with fail
  go_loopg [3, 4] (s.its.length + 1) (fun m v3 v13 wr => ∃ i : Nat, v13 = .int .i64 i ∧ i ≤ s.its.length ∧ m = s.its.length + 1 - i ∧ eU.kd.R 39 wr w.heap.size (fun _ => True) v3 ((s.its.map (·.val)).take i) ∧ Below w.heap.size w wr)
  case atStart => exact ⟨0, rfl, Nat.zero_le _, rfl, Kd.R_nil _ _ _ _ _, Below.refl _ _⟩
  case round =>
    obtain ⟨i, rfl, hi, hm, hv, hb⟩ := hrel
    have HN := hid hm
    have hcr : wr.cell? ⟨b, 3, none⟩ = some (.slice A s.its.length c) := (hb.cell (World.block_lt_of_cell? _ _ hc)).trans hc
    clear hm
    by_cases h1 : i < s.its.length
    · obtain ⟨x, hx⟩ : ∃ x, s.its[i]? = some x := ⟨_, List.getElem?_eq_getElem h1⟩
      obtain ⟨b', off, rfl, hbb, hcc⟩ := (HAT.out.below hb) i x hx
      have k0 : wr.cell? ⟨b', off + i * 2, none⟩ = some (.int .i64 x.num) := hcc 0 _ rfl
      have k1 : wr.cell? ⟨b', off + i * 2 + 1, none⟩ = some (.int .u64 x.val) := hcc 1 _ rfl
      have hst : (s.its.map (·.val)).take (i + 1) = (s.its.map (·.val)).take i ++ [x.val] := by
        have hl : i < (s.its.map (·.val)).length := by rw [List.length_map]; exact h1
        rw [List.take_succ_eq_append_getElem hl]
        congr 2
        have := (List.getElem?_eq_some_iff.1 hx).2
        simp [this]
      have hlt : ((s.its.map (·.val)).take i).length ≤ 100000 := by rw [List.length_take, List.length_map]; omega
      obtain ⟨A3, c3, hv3⟩ := Kd.R_slice hv
      subst hv3
      have HST := hid hst
      have HV2 := hid hv
      have HBW := hid hb
      have hsz : w.heap.size ≤ wr.heap.size := hb.size
      clear hcc hx hst hv
      generalize (s.its.map (·.val)).take i = xs at *
      go_wp2_with (at_builtin; go_loud (refine Kd.R_append eU.kd (w0 := w) w.heap.size rfl (.tmp 14) (.tmp 23) 52 39 _ 8 rfl Tryz.underlying52 info39 (by rfl) (by decide) (by decide) (.slice A3 xs.length c3) xs x.val [.int .u64 x.val] (fun _ => True) (fun _ => False) rfl (by first | rfl | (simp; rfl)) rfl (fun _ q => q.elim) (fun _ _ => trivial) HV2.out HBW.out hsz (by omega) ?_); intro v8 w8 ho8 hb8 hg8 hat8; have HO8 := hid ho8; have HB8 := hid hb8; clear ho8 hb8 hg8 hat8)
      go_roundg (s.its.length + 1 - (i + 1))
      case measure => rw [HN.out]; omega
      case rel => exact ⟨i + 1, by go_num, by omega, rfl, by rw [HST.out]; exact HO8.out, HB8.out⟩
    · have : i = s.its.length := by omega
      subst this
      have hq : (s.its.map (·.val)).take s.its.length = s.its.map (·.val) := List.take_of_length_le (by simp)
      rw [hq] at hv
      have HV := hid hv
      go_wp2_with fail
      go_ret
      exact ⟨_, rfl, Kd.R_lower HV.out (Nat.zero_le _), Kd.R_base HV.out, hb⟩
def DPost (Zd : Z3) (F : Nat → Prop) (w : World) (b : Nat) (r : Value) (s' : QS) (e : Ending) (w' : World) : Prop :=
  e = .returned r ∧ (∃ F', DAt Zd F' w' b s' ∧ Grew F F' w) ∧ Fr F w w'
set_option maxRecDepth 100000 in
set_option maxHeartbeats 4000000 in
theorem ddrop_any {F : Nat → Prop} {w : World} {b : Nat} {s : QS} (h : DAt Zd F w b s) (hn : s.ws.length ≤ 1000) (n : Int) :
    Calls Tryz.prog 103 #[.pointer (some ⟨b, 3, none⟩), .int .i64 n] w (DPost Zd F w b (.tuple #[]) ⟨s.its, adel n s.ws, s.gv⟩) := by
  obtain ⟨I, iv, qv, hR, hws⟩ := h
  have hIl : I.length ≤ 1000 := by rw [hws] at hn; simpa [wsOf] using hn
  have hc : w.cell? ⟨b, 4, none⟩ = some qv := by rw [cell_of_row w b 4 _ _ _ hR.blk]; rfl
  obtain ⟨A, c, hqv, hAc, hat⟩ := hR.wp.at_
  rw [hqv] at hc
  have HR := hid hR
  have HAT := hid hat
  have HWS := hid hws
  clear hat hR hws hqv
  go_enter Tryz.func103, Tryz.ntmps103
  go_wp2_with fail
  go_loopg [4, 5] (I.length + 1) (fun m v4 v5 wr => ∃ i : Nat, v5 = .int .i64 i ∧ i ≤ I.length ∧ m = I.length + 1 - i ∧ eWI.kd.R 102 wr w.heap.size (fun _ => True) v4 ((I.take i).filter (fun x => !(x.n == n))) ∧ Below w.heap.size w wr)
  case atStart => exact ⟨0, rfl, Nat.zero_le _, rfl, Kd.R_nil _ _ _ _ _, Below.refl _ _⟩
  case round =>
    obtain ⟨i, rfl, hi, hm, hv, hb⟩ := hrel
    have HN := hid hm
    have HB := hid hb
    have hcr : wr.cell? ⟨b, 4, none⟩ = some (.slice A I.length c) := (hb.cell (World.block_lt_of_cell? _ _ hc)).trans hc
    obtain ⟨A3, c3, hv3⟩ := Kd.R_slice hv
    subst hv3
    have HV := hid hv
    clear hm hv
    by_cases h1 : i < I.length
    · obtain ⟨x, hx⟩ : ∃ x, I[i]? = some x := ⟨_, List.getElem?_eq_getElem h1⟩
      obtain ⟨b', off, rfl, hbb, hcc⟩ := (HAT.out.below hb) i x hx
      have k0 : wr.cell? ⟨b', off + i, none⟩ = some (ptrV x.wb) := by have := hcc 0 _ rfl; simpa [eWI] using this
      have hw1 := (HR.out.wk x (List.mem_of_getElem? hx)).2.1
      have hw2 : w.cell? ⟨x.wb, 0, none⟩ = some (.int .i64 x.n) := by rw [cell_of_row _ _ 0 _ _ _ hw1]; rfl
      have k1 : wr.cell? ⟨x.wb, 0, none⟩ = some (.int .i64 x.n) := (hb.cell (World.block_lt_of_cell? _ _ hw2)).trans hw2
      have htk : I.take (i + 1) = I.take i ++ [x] := by
        rw [List.take_succ_eq_append_getElem h1]
        have : I[i] = x := by rw [List.getElem?_eq_getElem h1] at hx; exact Option.some.inj hx
        rw [this]
      have hdl : ((I.take i).filter (fun x => !(x.n == n))).length ≤ 1000 := by
        have := List.length_filter_le (fun x : WI => !(x.n == n)) (I.take i)
        rw [List.length_take] at this
        omega
      have hsz : w.heap.size ≤ wr.heap.size := hb.size
      have hfd : (I.take (i + 1)).filter (fun x => !(x.n == n)) = (I.take i).filter (fun x => !(x.n == n)) ++ (if (x.n == n) then [] else [x]) := by
        rw [htk, List.filter_append]
        congr 1
        cases hq : (x.n == n) <;> simp [hq] <;> simpa using hq
      have HFD := hid hfd
      clear hcc hx htk hw1 hw2 hb hfd
      generalize ((I.take i).filter (fun x => !(x.n == n))) = xs at *
      cases qe : (x.n == n)
      · have qe' : (x.n != n) = true := by unfold bne; rw [qe]; rfl
        go_wp2_with (at_builtin; go_loud (refine Kd.R_append eWI.kd (w0 := w) w.heap.size rfl (.tmp 27) (.tmp 35) 34 102 _ 8 rfl Tryz.underlying34 info102 (by rfl) (by decide) (by decide) (.slice A3 xs.length c3) xs x [ptrV x.wb] (fun _ => True) (fun _ => False) rfl (by first | rfl | (simp; rfl)) rfl (fun _ q => q.elim) (fun _ _ => trivial) HV.out HB.out hsz (by omega) ?_); intro v7 w7 ho7 hb7 hg7 hat7; have HO7 := hid ho7; have HB7 := hid hb7; clear ho7 hb7 hg7 hat7)
        go_roundg (I.length + 1 - (i + 1))
        case measure => rw [HN.out]; omega
        case rel => exact ⟨i + 1, by go_num, by omega, rfl, by rw [HFD.out, qe]; exact HO7.out, HB7.out⟩
      · have qe' : (x.n != n) = false := by unfold bne; rw [qe]; rfl
        go_wp2_with fail
        go_roundg (I.length + 1 - (i + 1))
        case measure => rw [HN.out]; omega
        case rel => exact ⟨i + 1, by go_num, by omega, rfl, by rw [HFD.out, qe]; simpa using HV.out, HB.out⟩
    · have hil : i = I.length := by omega
      subst hil
      have ht : (I.take I.length).filter (fun x => !(x.n == n)) = I.filter (fun x => !(x.n == n)) := by rw [List.take_length]
      rw [ht] at HV ⊢
      obtain ⟨xs, hxs⟩ : ∃ xs, xs = I.filter (fun x => !(x.n == n)) := ⟨_, rfl⟩
      rw [← hxs] at HV ⊢
      have HT := hid hxs
      clear ht hxs
      have hRr := HR.out.below HB.out
      have hblk := hRr.blk
      have hz : wr.frozen? ⟨b, 4, none⟩ = false := by simp [World.frozen?, hblk]
      have hro := Kd.R_base HV.out
      have hrw : FR eWI 102 wr (.slice A3 xs.length c3) (I.filter (fun x => !(x.n == n))) := by rw [← HT.out]; exact Kd.R_lower HV.out (Nat.zero_le _)
      have hf1 : Fr (fun i => i = b) wr (wr.setCell ⟨b, 4, none⟩ (.slice A3 xs.length c3)) := Fr.setCell (S := fun i => i = b) (p := ⟨b, 4, none⟩) (Fr.refl _ wr) (.inl rfl) _
      have hb1 : (wr.setCell ⟨b, 4, none⟩ (.slice A3 xs.length c3)).heap[b]? = some (.cells #[Zd.a, Zd.b, Zd.c, iv, .slice A3 xs.length c3, .int .i64 s.gv] 38 (0, 0)) := blk_set' hblk 4 _
      have hi1 : FR eD 129 (wr.setCell ⟨b, 4, none⟩ (.slice A3 xs.length c3)) iv s.its := hRr.it.move (fun k hk => hf1.block k (hRr.it.lt hk) (fun q => hRr.iv_ne.1 (by rw [hk, q])))
      have hq1 : FR eWI 102 (wr.setCell ⟨b, 4, none⟩ (.slice A3 xs.length c3)) (.slice A3 xs.length c3) (I.filter (fun x => !(x.n == n))) := hrw.move (fun k hk => hf1.block k (hrw.lt hk) (fun q => hrw.ne hblk (by decide) (by rw [hk, q])))
      have hFb : b < w.heap.size := HR.out.fb _ HR.out.bF
      have hfall : Fr (fun i => i = b) w (wr.setCell ⟨b, 4, none⟩ (.slice A3 xs.length c3)) := ((Fr.of_below HB.out (Nat.le_refl _)).mono (fun _ q => q.elim)).trans hf1 (fun i hi => .inl hi)
      have hfin := HR.out.turn (hfall.mono (fun i hi => .inl hi)) hb1 hi1 hq1 List.filter_sublist (fun j hj => .inl hj) (fun j hj => .inr (hro j hj))
      have HFIN := hid hfin
      have HFALL := hid hfall
      clear hRr hblk hro hrw hf1 hb1 hi1 hq1 hfin hfall
      go_wp2_with fail
      go_end0
      exact ⟨rfl, ⟨_, ⟨_, _, _, HFIN.out, by rw [← adel_wsOf, ← HWS.out]⟩, grew_more _ _ _⟩, HFALL.out.mono (fun i (hi : i = b) => by rw [hi]; exact HR.out.bF)⟩
end Go.Proofs.YtdejbinmnoabeaaGreat.E
namespace Go.Mine
set_option linter.unusedVariables false
set_option linter.unusedSimpArgs false
theorem takesIt_iff {num : Int} {l : List Ch} : takesIt num l = true ↔ ∃ c ∈ takesOf l, c.key = num := by
  unfold takesIt takesOf
  rw [List.any_eq_true]
  constructor
  · rintro ⟨c, hc, h⟩
    rw [Bool.and_eq_true] at h
    exact ⟨c, List.mem_filter.2 ⟨hc, h.1⟩, by simpa using h.2⟩
  · rintro ⟨c, hc, h⟩
    have := List.mem_filter.1 hc
    exact ⟨c, this.1, by rw [this.2, Bool.true_and]; simpa using h⟩
theorem QS.Ok.uniq {s : QS} (h : s.Ok) {x y : It} (hx : x ∈ s.its) (hy : y ∈ s.its) (e : x.num = y.num) : x = y := by
  obtain ⟨i, hi, rfl⟩ := List.mem_iff_getElem.1 hx
  obtain ⟨j, hj, rfl⟩ := List.mem_iff_getElem.1 hy
  have h1 := h.num i _ (List.getElem?_eq_getElem hi)
  have h2 := h.num j _ (List.getElem?_eq_getElem hj)
  have : i = j := by omega
  subst this
  rfl
theorem QS.Ok.holds {s : QS} (h : s.Ok) {x : It} (hx : x ∈ s.its) {e : Int × KW} (he : e ∈ s.ws) : takesIt x.num e.2.l = true ↔ e.1 = x.by_ := by
  have hp := h.pos e he
  have h1 := h.held e.1 (by omega)
  have h2 : listOfW e.1 s.ws = e.2.l := by unfold listOfW; rw [aget_of_mem h.keys (show (e.1, e.2) ∈ s.ws from he)]; rfl
  rw [h2] at h1
  rw [takesIt_iff, ← h1]
  constructor
  · rintro ⟨c, hc, hk⟩
    obtain ⟨y, hy, rfl⟩ := List.mem_map.1 hc
    have hy2 := List.mem_filter.1 hy
    have := h.uniq hy2.1 hx hk
    subst this
    have h3 : y.by_ = e.1 := by simpa using hy2.2
    exact h3.symm
  · intro q
    exact ⟨chOf x, List.mem_map.2 ⟨x, List.mem_filter.2 ⟨hx, by simpa using q.symm⟩, rfl⟩, rfl⟩
theorem QS.Ok.taker {s : QS} (h : s.Ok) {x : It} (hx : x ∈ s.its) : takerW x.num s.ws = x.by_ := by
  unfold takerW
  cases hf : s.ws.find? (fun e => takesIt x.num e.2.l) with
  | some e =>
    have hm := List.mem_of_find?_eq_some hf
    have ht := List.find?_some hf
    exact (h.holds hx hm).1 ht
  | none =>
    rw [List.find?_eq_none] at hf
    apply Classical.byContradiction
    intro hne
    have hne' : x.by_ ≠ 0 := fun q => hne (by rw [q]; rfl)
    have h1 := h.held x.by_ hne'
    have hm : chOf x ∈ takesOf (listOfW x.by_ s.ws) := by
      rw [← h1]
      exact List.mem_map.2 ⟨x, List.mem_filter.2 ⟨hx, by simp⟩, rfl⟩
    cases hg : aget x.by_ s.ws with
    | none => rw [listOfW_free hg] at hm; simp [takesOf] at hm
    | some v =>
      have he := aget_mem hg
      exact hf _ he ((h.holds hx he).2 rfl)
end Go.Mine
namespace Go.Proofs.YtdejbinmnoabeaaGreat.E
open Go.Proofs.YtdejbinmnoabeaaGreat.Q
variable {Zd : Z3}
open Go.RowKit Go.Mine Go.Proofs.YtdejbinmnoabeaaGreatW.PrintWords
set_option linter.unusedVariables false
set_option linter.unusedSimpArgs false
theorem taker_wsOf (num : Int) (I : List WI) : takerW num (wsOf I) = ((I.find? (fun x => takesIt num x.l)).map (·.n)).getD 0 := by
  unfold takerW wsOf
  rw [List.find?_map, Option.map_map]
  rfl
set_option maxRecDepth 100000 in
set_option maxHeartbeats 4000000 in
theorem dtaker_any {F : Nat → Prop} {w : World} {b : Nat} {s : QS} (h : DAt Zd F w b s) (hb : s.Bd) (num : Int) :
    Calls Tryz.prog 100 #[.pointer (some ⟨b, 3, none⟩), .int .i64 num] w fun e w' => e = .returned (.int .i64 (takerW num s.ws)) ∧ Below w.heap.size w w' := by
  obtain ⟨I, iv, qv, hR, hws⟩ := h
  have hIl : I.length ≤ 1000 := by have := hb.ws; rw [hws] at this; simpa [wsOf] using this
  have hls : ∀ x ∈ I, x.l.length ≤ 1000 := fun x hx => hb.ls (x.n, ⟨x.l, x.p⟩) (by rw [hws]; exact List.mem_map.2 ⟨x, hx, rfl⟩)
  have htw := taker_wsOf num I
  rw [← hws] at htw
  obtain ⟨A, c, hqv, hAc, hat⟩ := hR.wp.at_
  have hc : w.cell? ⟨b, 4, none⟩ = some (.slice A I.length c) := by rw [cell_of_row w b 4 _ _ _ hR.blk, ← hqv]; rfl
  have HR := hid hR
  have HAT := hid hat
  have HTW := hid htw
  have HLS := hid hls
  clear hat hR hws hqv htw hls hb
  go_enter Tryz.func100, Tryz.ntmps100
  go_wp2_with fail
  go_loopg [5] (I.length + 1) (fun m v5 wr => ∃ i : Nat, v5 = .int .i64 i ∧ i ≤ I.length ∧ m = I.length + 1 - i ∧ (∀ j x, j < i → I[j]? = some x → takesIt num x.l = false) ∧ Below w.heap.size w wr)
  case atStart => exact ⟨0, rfl, Nat.zero_le _, rfl, fun j x hj => by omega, Below.refl _ _⟩
  case round =>
    obtain ⟨i, rfl, hi, hm, hno, hbl⟩ := hrel
    have HN := hid hm
    have HNO := hid hno
    have hcr : wr.cell? ⟨b, 4, none⟩ = some (.slice A I.length c) := (hbl.cell (World.block_lt_of_cell? _ _ hc)).trans hc
    clear hm hno
    by_cases h1 : i < I.length
    · obtain ⟨x, hx⟩ : ∃ x, I[i]? = some x := ⟨_, List.getElem?_eq_getElem h1⟩
      have hwk := HR.out.wk x (List.mem_of_getElem? hx)
      obtain ⟨A2, c2, hv2, hc2, hat2⟩ := hwk.2.2.1.at_
      have hxl := HLS.out x (List.mem_of_getElem? hx)
      have j1 : w.cell? ⟨x.wb, 1, none⟩ = some (.slice A2 x.l.length c2) := by rw [cell_of_row _ _ 1 _ _ _ hwk.2.1, ← hv2]; rfl
      have j0 : w.cell? ⟨x.wb, 0, none⟩ = some (.int .i64 x.n) := by rw [cell_of_row _ _ 0 _ _ _ hwk.2.1]; rfl
      obtain ⟨b', off, rfl, hbb, hcc⟩ := HAT.out i x hx
      have j2 : w.cell? ⟨b', off + i, none⟩ = some (ptrV x.wb) := by have := hcc 0 _ rfl; simpa [eWI] using this
      have HAT2 := hid hat2
      have HX := hid hx
      have J0 := hid j0
      have J1 := hid j1
      have J2 := hid j2
      clear hcc hx hwk hat2 hv2 j0 j1 j2
      obtain ⟨wo, hwo⟩ : ∃ wo, wo = wr := ⟨_, rfl⟩
      have hblo : Below w.heap.size w wo := by rw [hwo]; exact hbl
      have HBLO := hid hblo
      clear hblo
      go_wp2_with fail
      go_loopg [6] (x.l.length + 1) (fun m v6 wr => ∃ k : Nat, v6 = .int .i64 k ∧ k ≤ x.l.length ∧ m = x.l.length + 1 - k ∧ (∀ j y, j < k → x.l[j]? = some y → (y.kind == 4 && y.key == num) = false) ∧ Below w.heap.size w wr)
      case atStart => exact ⟨0, rfl, Nat.zero_le _, rfl, fun j y hj => by omega, hbl⟩
      case round =>
        obtain ⟨k, rfl, hk, hm2, hno2, hb2⟩ := hrel
        have HN2 := hid hm2
        have HNO2 := hid hno2
        have hcr2 : wr.cell? ⟨b, 4, none⟩ = some (.slice (some ⟨b', off, none⟩) I.length c) := (hb2.cell (World.block_lt_of_cell? _ _ hc)).trans hc
        have j0 := (hb2.cell (World.block_lt_of_cell? _ _ J0.out)).trans J0.out
        have j1 := (hb2.cell (World.block_lt_of_cell? _ _ J1.out)).trans J1.out
        have j2 := (hb2.cell (World.block_lt_of_cell? _ _ J2.out)).trans J2.out
        clear hm2 hno2
        by_cases h2 : k < x.l.length
        · obtain ⟨y, hy⟩ : ∃ y, x.l[k]? = some y := ⟨_, List.getElem?_eq_getElem h2⟩
          obtain ⟨b3, off3, rfl, hb3, hc3⟩ := HAT2.out k y hy
          have i0 : w.cell? ⟨b3, off3 + k * 3, none⟩ = some (.int .i64 y.kind) := hc3 0 _ rfl
          have i1 : w.cell? ⟨b3, off3 + k * 3 + 1, none⟩ = some (.int .i64 y.key) := hc3 1 _ rfl
          have i2 : w.cell? ⟨b3, off3 + k * 3 + 2, none⟩ = some (.int .u64 y.val) := hc3 2 _ rfl
          have m0 := (hb2.cell (World.block_lt_of_cell? _ _ i0)).trans i0
          have m1 := (hb2.cell (World.block_lt_of_cell? _ _ i1)).trans i1
          have m2 := (hb2.cell (World.block_lt_of_cell? _ _ i2)).trans i2
          have hba : Below w.heap.size w (wr.alloc (.cells #[.int .i64 y.kind, .int .i64 y.key, .int .u64 y.val] 90)) := hb2.alloc hb2.size _
          have hba2 : Below wr.heap.size wr (wr.alloc (.cells #[.int .i64 y.kind, .int .i64 y.key, .int .u64 y.val] 90)) := (Below.refl _ _).alloc (Nat.le_refl _) _
          have HBA := hid hba
          have HY := hid hy
          clear hc3 hy i0 i1 i2 hba
          cases q1 : (y.kind == 4)
          · go_wp2_with fail
            go_roundg (x.l.length + 1 - (k + 1))
            case measure => rw [HN2.out]; omega
            case rel =>
              refine ⟨k + 1, by go_num, by omega, rfl, fun j z hj hz => ?_, HBA.out⟩
              rcases Nat.lt_succ_iff_lt_or_eq.1 hj with hj | rfl
              · exact HNO2.out j z hj hz
              · rw [HY.out] at hz; cases hz; rw [q1]; rfl
          · cases q2 : (y.key == num)
            · go_wp2_with fail
              go_roundg (x.l.length + 1 - (k + 1))
              case measure => rw [HN2.out]; omega
              case rel =>
                refine ⟨k + 1, by go_num, by omega, rfl, fun j z hj hz => ?_, HBA.out⟩
                rcases Nat.lt_succ_iff_lt_or_eq.1 hj with hj | rfl
                · exact HNO2.out j z hj hz
                · rw [HY.out] at hz; cases hz; rw [q1, q2]; rfl
            · have hfd : I.find? (fun x => takesIt num x.l) = some x := by
                obtain ⟨hi2, he⟩ := List.getElem?_eq_some_iff.1 HX.out
                rw [List.find?_eq_some_iff_getElem]
                refine ⟨?_, i, hi2, he, fun j hj => ?_⟩
                · unfold takesIt
                  rw [List.any_eq_true]
                  exact ⟨y, List.mem_of_getElem? HY.out, by rw [q1, q2]; rfl⟩
                · have := HNO.out j _ hj (List.getElem?_eq_getElem (by omega))
                  simpa using this
              have hres : takerW num s.ws = x.n := by rw [HTW.out, hfd]; rfl
              have HRES := hid hres
              have n0 := (hba2.cell (World.block_lt_of_cell? _ _ j0)).trans j0
              have n1 := (hba2.cell (World.block_lt_of_cell? _ _ j2)).trans j2
              have n2 := (hba2.cell (World.block_lt_of_cell? _ _ hcr2)).trans hcr2
              clear hfd hres
              go_wp2_with fail
              go_ret
              exact ⟨by rw [HRES.out]; rfl, HBA.out⟩
        · have hkl : k = x.l.length := by omega
          subst hkl
          go_wp2_with fail
          go_roundg (I.length + 1 - (i + 1))
          case measure => rw [HN.out]; omega
          case rel =>
            refine ⟨i + 1, by go_num, by omega, rfl, fun j z hj hz => ?_, hb2⟩
            rcases Nat.lt_succ_iff_lt_or_eq.1 hj with hj | rfl
            · exact HNO.out j z hj hz
            · rw [HX.out] at hz; cases hz
              unfold takesIt
              rw [List.any_eq_false]
              intro y hy
              obtain ⟨j, hj2, rfl⟩ := List.mem_iff_getElem.1 hy
              rw [HNO2.out j _ hj2 (List.getElem?_eq_getElem hj2)]
              simp
    · have hfd : I.find? (fun x => takesIt num x.l) = none := by
        rw [List.find?_eq_none]
        intro x hx
        obtain ⟨j, hj, rfl⟩ := List.mem_iff_getElem.1 hx
        have := HNO.out j _ (by omega) (List.getElem?_eq_getElem hj)
        simpa using this
      have hres : takerW num s.ws = 0 := by rw [HTW.out, hfd]; rfl
      have HRES := hid hres
      clear hfd hres
      go_wp2_with fail
      go_ret
      exact ⟨by rw [HRES.out]; rfl, hbl⟩
end Go.Proofs.YtdejbinmnoabeaaGreat.E

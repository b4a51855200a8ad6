/- Texts of this seat, put together: QuT. -/
import Derived.Test.YtdejbinmnoabeaaGreatBm9
namespace Go.Mine
def takesL : List Ch → Nat
  | [] => 0
  | c :: cs => (if c.kind == 4 then 1 else 0) + takesL cs
theorem takesL_append (a b : List Ch) : takesL (a ++ b) = takesL a + takesL b := by
  induction a with
  | nil => simp [takesL]
  | cons x a ih => simp only [List.cons_append, takesL, ih]; omega
theorem takesL_take {l : List Ch} {i : Nat} {y : Ch} (hy : l[i]? = some y) : takesL (l.take (i + 1)) = takesL (l.take i) + (if y.kind == 4 then 1 else 0) := by
  have h1 := (List.getElem?_eq_some_iff.1 hy).1
  have h2 := (List.getElem?_eq_some_iff.1 hy).2
  rw [List.take_succ_eq_append_getElem h1, takesL_append, h2]
  rfl
def tkI (n : Int) (x : It) : It := ⟨x.num, x.val, n⟩
def addW (n : Int) (p : Bool) (l : List Ch) (ws : List (Int × KW)) : List (Int × KW) := if l = [] then ws else ws ++ [(n, ⟨l, p⟩)]
def QS.restore (s : QS) (n : Int) (l : List Ch) : Int × QS :=
  if n < 1 then (1, s) else if s.right l = false then (1, s) else if s.busy n = true then (7, s) else (0, ⟨mixI (tkI n) s.its (takesL l), addW n true l s.ws, s.gv⟩)
theorem aput_snoc {n : Int} {v v' : KW} {ws : List (Int × KW)} (h : aget n ws = none) : aput n v' (ws ++ [(n, v)]) = ws ++ [(n, v')] := by
  unfold aput
  rw [if_pos (by rw [aget_snoc_self h]; rfl), List.map_append]
  congr 1
  · conv => rhs; rw [← List.map_id ws]
    apply List.map_congr_left
    intro e he
    rw [if_neg (aget_none.1 h e he)]
    rfl
  · simp
theorem noteW_addW {n : Int} {c : Ch} {l : List Ch} {ws : List (Int × KW)} (h : aget n ws = none) : noteW n c (addW n false l ws) = addW n false (l ++ [c]) ws := by
  by_cases hl : l = []
  · subst hl
    simp [noteW, addW, h]
  · unfold noteW
    rw [addW, if_neg hl, aget_snoc_self h, addW, if_neg (by simp)]
    exact aput_snoc h
theorem addW_bd {s : QS} (h : s.Bd) {n : Int} {p : Bool} {l : List Ch} {L : List It} (hg : aget n s.ws = none) (h1 : s.ws.length ≤ 999) (h2 : l.length ≤ 1000) (h3 : putsW s.ws ≤ 900000) (hL : L.length ≤ 100) : (⟨L, addW n p l s.ws, s.gv⟩ : QS).Bd := by
  obtain ⟨hb1, hb2, hb3, hb4, hb5, hb6, hb7⟩ := h
  unfold addW
  by_cases hl : l = []
  · rw [if_pos hl]
    exact ⟨hb1, hL, hb3, hb4, hb5, hb6, hb7⟩
  · rw [if_neg hl]
    refine ⟨pw_snoc hb1 (fun x hx => aget_none.1 hg x hx), hL, by simp; omega, fun x hx => ?_, ?_, hb6, hb7⟩
    · rcases List.mem_append.1 hx with hx | hx
      · exact hb4 x hx
      · obtain rfl := List.mem_singleton.1 hx
        exact h2
    · rw [putsW_append]
      have := putsL_le l
      simp only [putsW]
      omega
theorem QS.right_front {s : QS} {l : List Ch} (h : s.right l = true) : frontOk s.its l 0 = true := by
  unfold QS.right at h
  rw [Bool.and_eq_true] at h
  exact h.1
theorem rest_low {s : QS} {n : Int} {l : List Ch} (h : n < 1) : s.restore n l = (1, s) := by simp [QS.restore, h]
theorem rest_bad {s : QS} {n : Int} {l : List Ch} (h : ¬ n < 1) (hr : s.right l = false) : s.restore n l = (1, s) := by simp [QS.restore, h, hr]
theorem rest_there {s : QS} {n : Int} {l : List Ch} (h : ¬ n < 1) (hr : s.right l = true) (hg : s.busy n = true) : s.restore n l = (7, s) := by simp [QS.restore, h, hr, hg]
theorem rest_do {s : QS} {n : Int} {l : List Ch} (h : ¬ n < 1) (hr : s.right l = true) (hg : s.busy n = false) : s.restore n l = (0, ⟨mixI (tkI n) s.its (takesL l), addW n true l s.ws, s.gv⟩) := by simp [QS.restore, h, hr, hg]
end Go.Mine
namespace Go.Proofs.YtdejbinmnoabeaaGreat.Q
variable {Zz : QZ}
open Go.RowKit Go.Mine Go.Proofs.YtdejbinmnoabeaaGreatW.PrintWords
set_option linter.unusedVariables false
set_option linter.unusedSimpArgs false
def Beside (F : Nat → Prop) (A : Option Addr) : Prop := ∀ b off, A = some ⟨b, off, none⟩ → ¬ F b
theorem RowAt.fr {α : Type} {f : α → List Value} {sz : Nat} {F : Nat → Prop} {w w' : World} {B : Nat} {A : Option Addr} {l : List α} (h : RowAt f sz w B A l) (hf : Fr F w w') (hA : l ≠ [] → Beside F A) : RowAt f sz w' B A l := by
  intro i x hx
  obtain ⟨b, off, e, hlt, hc⟩ := h i x hx
  exact ⟨b, off, e, hlt, fun j v hv => hf.cell (hc j v hv) (hA (fun q => by rw [q] at hx; simp at hx) b off e)⟩
set_option maxRecDepth 100000 in
set_option maxHeartbeats 4000000 in
theorem restore_any {F : Nat → Prop} {w : World} {b : Nat} {s : QS} (h : QAt Zz F w b s) (hb : s.Bd) (n : Int) (A : Option Addr) (l : List Ch) (c : Nat) (hl : ChAt w w.heap.size A l) (hA : l ≠ [] → Beside F A) (hn : l.length ≤ 1000) (hws : s.ws.length ≤ 999) (hpw : putsW s.ws ≤ 900000) :
    Calls Tryz.prog 62 #[.pointer (some ⟨b, 34, none⟩), .int .i64 n, .slice A l.length c] w (SPost Zz F w b (s.restore n l).1 (s.restore n l).2) := by
  have HRI := hid (right_any h hb A l c _ hl (Nat.le_refl _) (by omega))
  have H := hid h
  have HB := hid hb
  go_enter Tryz.func62, Tryz.ntmps62
  go_wp2_with fail
  refine (decided_any _ _ _).mono ?_
  rintro e w1 ⟨rfl, rfl⟩
  by_cases hn1 : n < 1
  · have HE := hid (rest_low (s := s) (l := l) hn1)
    rw [if_pos hn1]
    go_wp2_with fail
    go_ret
    exact ⟨by rw [HE.out]; rfl, ⟨F, by rw [HE.out]; exact H.out, Grew.refl _ _⟩, Fr.refl _ _⟩
  · rw [if_neg hn1]
    have HN1 := hid hn1
    clear hn1
    go_wp2_with fail
    refine HRI.out.mono ?_
    rintro e w1 ⟨rfl, f1⟩
    have h1 := h.below f1
    have hl1 := (hl.below f1).up f1.size
    have fr1 : Fr F w w1 := (Fr.of_below f1 (Nat.le_refl _)).mono (fun _ q => q.elim)
    clear HRI hl h
    cases hr : s.right l
    · have HE := hid (rest_bad (s := s) (n := n) (by have := HN1.out; omega) hr)
      go_wp2_with fail
      go_ret
      exact ⟨by rw [HE.out]; rfl, ⟨F, by rw [HE.out]; exact h1, Grew.refl _ _⟩, fr1⟩
    · have HRT := hid hr
      clear hr
      have hat := h1
      obtain ⟨I, iv, qv, hR, hwsI⟩ := h1
      have hIl : I.length ≤ 1000 := by have := hb.ws; rw [hwsI] at this; simpa [wsOf] using this
      have hfd := find_any hR (by omega) n
      have hg := aget_ws n I
      rw [← hwsI] at hg
      unfold findB at hfd
      have HAT := hid hat
      clear hat hR hwsI hb
      cases hf : I.find? (fun x => decide (x.n = n)) with
      | some x =>
        rw [hf] at hfd hg
        simp only [Option.map_some] at hfd hg
        have HE := hid (rest_there (n := n) (by have := HN1.out; omega) HRT.out (by unfold QS.busy; rw [hg]; rfl))
        have HFD := hid hfd
        clear hf hg hfd
        go_wp2_with fail
        refine HFD.out.mono ?_
        rintro e w2 ⟨rfl, rfl⟩
        go_wp2_with fail
        go_ret
        exact ⟨by rw [HE.out]; rfl, ⟨F, by rw [HE.out]; exact HAT.out, Grew.refl _ _⟩, fr1⟩
      | none =>
        rw [hf] at hfd hg
        simp only [Option.map_none] at hfd hg
        have HE := hid (rest_do (n := n) (by have := HN1.out; omega) HRT.out (by unfold QS.busy; rw [hg]; rfl))
        have HFD := hid hfd
        have HG := hid hg
        clear hf hg hfd
        go_wp2_with fail
        refine HFD.out.mono ?_
        rintro e w2 ⟨rfl, rfl⟩
        go_wp2_with fail
        go_loopg [8, 28] (l.length + 1) (fun m v8 v28 wr => ∃ (i f : Nat) (F' : Nat → Prop), v8 = .int .i64 f ∧ v28 = .int .i64 i ∧ i ≤ l.length ∧ f ≤ i ∧ m = l.length + 1 - i ∧ f = takesL (l.take i) ∧ frontOk s.its (l.drop i) f = true ∧ QAt Zz F' wr b ⟨mixI (tkI n) s.its f, addW n false (l.take i) s.ws, s.gv⟩ ∧ Grew F F' w1 ∧ Fr F w1 wr)
        case atStart => exact ⟨0, 0, F, rfl, rfl, Nat.zero_le _, Nat.le_refl _, rfl, rfl, QS.right_front HRT.out, by simpa [mixI, addW] using HAT.out, Grew.refl _ _, Fr.refl _ _⟩
        case round =>
          obtain ⟨i, f, F', rfl, rfl, hi, hfi, hm, hft, hfo, hq, hgr, hfr⟩ := hrel
          have HN := hid hm
          have HFT := hid hft
          have HQ := hid hq
          have HGR := hid hgr
          have HFR := hid hfr
          clear hm hft hq
          by_cases hil : i < l.length
          · obtain ⟨y, hy⟩ : ∃ y, l[i]? = some y := ⟨_, List.getElem?_eq_getElem hil⟩
            obtain ⟨b', off, rfl, hbb, hcc⟩ := (hl1.fr hfr hA) i y hy
            have k0 : wr.cell? ⟨b', off + i * 3, none⟩ = some (.int .i64 y.kind) := hcc 0 _ rfl
            have k1 := hcc 1 _ rfl
            have k2 := hcc 2 _ rfl
            have hst := frontOk_step (its := s.its) (f := f) hy
            rw [hfo] at hst
            have htk := takesL_take hy
            have htl : l.take (i + 1) = l.take i ++ [y] := by
              have h2 := (List.getElem?_eq_some_iff.1 hy).2
              rw [List.take_succ_eq_append_getElem hil, h2]
            have hnw := noteW_addW (c := y) (l := l.take i) HG.out
            rw [← htl] at hnw
            have hbdi := addW_bd (L := mixI (tkI n) s.its f) (p := false) (l := l.take i) HB.out HG.out hws (by rw [List.length_take]; omega) hpw (by rw [mixI_len]; exact HB.out.its)
            have HTK := hid htk
            have HNW := hid hnw
            have hblt := blk_lt (HQ.out.choose_spec.choose_spec.choose_spec.1.blk)
            have hba : Below wr.heap.size wr (wr.alloc (.cells #[.int .i64 y.kind, .int .i64 y.key, .int .u64 y.val] 90)) := (Below.refl _ _).alloc (Nat.le_refl _) _
            have hfa : Fr F w1 (wr.alloc (.cells #[.int .i64 y.kind, .int .i64 y.key, .int .u64 y.val] 90)) := hfr.alloc _
            have hsz : (wr.alloc (.cells #[.int .i64 y.kind, .int .i64 y.key, .int .u64 y.val] 90)).heap.size = wr.heap.size + 1 := by simp
            have HFA := hid hfa
            have HSZ := hid hsz
            have HBDI := hid hbdi
            clear hcc hfo htk hnw hfa hsz htl hbdi hl1 hA hfr hgr
            by_cases q4 : y.kind = 4
            · rw [if_neg (by rw [q4]; intro q; rw [Bool.and_eq_true] at q; exact absurd q.1 (by decide))] at hst
              have hit : s.its[f]? = some ⟨y.key, y.val, 0⟩ ∧ frontOk s.its (l.drop (i + 1)) (f + 1) = true := by
                by_cases hh : y.kind = 4 ∧ s.its[f]? = some ⟨y.key, y.val, 0⟩
                · rw [if_pos hh] at hst; exact ⟨hh.2, hst.symm⟩
                · rw [if_neg hh] at hst; cases hst
              obtain ⟨hx, hst2⟩ := hit
              have HST := hid hst2
              have hfl := (List.getElem?_eq_some_iff.1 hx).1
              obtain ⟨I2, iv2, qv2, hQ, hws2⟩ := HQ.out
              have hQa := hQ.below hba
              obtain ⟨A0, c0, rfl, hc0, _⟩ := hQa.it.at_
              have hxm := mixI_get (tkI n) hx
              have hlen := mixI_len (tkI n) s.its f
              obtain ⟨g, rfl⟩ := hQa.it.form (by rw [hlen]; omega)
              obtain ⟨co, hcl, hcM, hcc2, hcz⟩ := Kd.R_elem hQa.it ⟨y.key, y.val, 0⟩ (f : Int) (by omega) (by rw [hlen]; omega)
              have hco : co = encIt ⟨y.key, y.val, 0⟩ := by
                have : co = encIt ((mixI (tkI n) s.its f).getD (f : Int).toNat ⟨y.key, y.val, 0⟩) := hcM
                rw [this]
                simp [List.getD_eq_getElem?_getD, hxm]
              subst hco
              have k5 : (wr.alloc (.cells #[.int .i64 y.kind, .int .i64 y.key, .int .u64 y.val] 90)).cell? ⟨g, f * 3 + 2, none⟩ = some (.int .i64 0) := hcc2 2 _ rfl
              have hz : (wr.alloc (.cells #[.int .i64 y.kind, .int .i64 y.key, .int .u64 y.val] 90)).frozen? ⟨g, f * 3 + 2, none⟩ = false := hcz 2
              have g0 : (wr.alloc (.cells #[.int .i64 y.kind, .int .i64 y.key, .int .u64 y.val] 90)).cell? ⟨b, 34, none⟩ = some (.slice (some ⟨g, 0, none⟩) s.its.length c0) := by rw [cell_of_row _ b 34 _ _ _ hQa.blk, ← hlen]; exact qget0 _ _ _ _
              have hf1' : (f : Int) < s.its.length := by omega
              have hf0' : (0 : Int) ≤ f := by omega
              have hseg := Kd.R_seg hQa.it (f : Int) (by omega) (by rw [hlen]; omega) (j := 2) (seg := [.int .i64 n]) (x' := ⟨y.key, y.val, n⟩) hcl hcc2 (by simp [eIt, Enc.kd]) (okp := fun _ => False) rfl (fun _ q => q.elim)
              have hw : (wr.alloc (.cells #[.int .i64 y.kind, .int .i64 y.key, .int .u64 y.val] 90)).setCells g (Int.toNat (f : Int) * eIt.kd.sz + 2) [.int .i64 n] = (wr.alloc (.cells #[.int .i64 y.kind, .int .i64 y.key, .int .u64 y.val] 90)).setCell ⟨g, f * 3 + 2, none⟩ (.int .i64 n) := rfl
              rw [hw] at hseg
              have hs := mixI_step (tkI n) hx
              have hf8 : Fr (fun k => k = g) (wr.alloc (.cells #[.int .i64 y.kind, .int .i64 y.key, .int .u64 y.val] 90)) ((wr.alloc (.cells #[.int .i64 y.kind, .int .i64 y.key, .int .u64 y.val] 90)).setCell ⟨g, f * 3 + 2, none⟩ (.int .i64 n)) := (Fr.of_grown hseg.2).mono (fun k hk => by cases hk; rfl)
              have hgne : g ≠ b := fun q => hQa.iv_ne.1 (by rw [← q]; rfl)
              have hi8 : FR eIt 127 ((wr.alloc (.cells #[.int .i64 y.kind, .int .i64 y.key, .int .u64 y.val] 90)).setCell ⟨g, f * 3 + 2, none⟩ (.int .i64 n)) (.slice (some ⟨g, 0, none⟩) (mixI (tkI n) s.its f).length c0) (mixI (tkI n) s.its (f + 1)) := by
                rw [hs]
                exact hseg.1
              have hfin := hQa.turn (hf8.mono (fun k hk => .inr (.inl (by rw [hk]; rfl)))) (hf8.at_ hQa.blk (fun q => hgne q.symm)) hi8 (hQa.wp.move (fun k hk => hf8.block k (hQa.wp.lt hk) (fun q => hQa.iv_ne.2.2 g rfl (by rw [hk, q])))) (List.Sublist.refl _) (fun j hj => .inl hj) (fun j hj => .inl hj)
              have hgF : F' g := hQa.iF _ rfl
              have hgsz : g < wr.heap.size := hQ.fb _ hgF
              have hfz := HFA.out.trans hf8 (fun j hj => HGR.out j (by rw [hj]; exact hgF))
              have hgz := HGR.out.trans ((grew_more F' (wr.alloc (.cells #[.int .i64 y.kind, .int .i64 y.key, .int .u64 y.val] 90)) ((wr.alloc (.cells #[.int .i64 y.kind, .int .i64 y.key, .int .u64 y.val] 90)).setCell ⟨g, f * 3 + 2, none⟩ (.int .i64 n))).up (by simp : wr.heap.size ≤ (wr.alloc (.cells #[.int .i64 y.kind, .int .i64 y.key, .int .u64 y.val] 90)).heap.size)) HFR.out.size
              have hcm : ((wr.alloc (.cells #[.int .i64 y.kind, .int .i64 y.key, .int .u64 y.val] 90)).setCell ⟨g, f * 3 + 2, none⟩ (.int .i64 n)) = ((wr.setCell ⟨g, f * 3 + 2, none⟩ (.int .i64 n)).alloc (.cells #[.int .i64 y.kind, .int .i64 y.key, .int .u64 y.val] 90)) := World.setCell_alloc_past (.cells #[.int .i64 y.kind, .int .i64 y.key, .int .u64 y.val] 90) g (f * 3 + 2) (.int .i64 n) hgsz
              have hqz : QAt Zz (more F' (wr.alloc (.cells #[.int .i64 y.kind, .int .i64 y.key, .int .u64 y.val] 90)) ((wr.alloc (.cells #[.int .i64 y.kind, .int .i64 y.key, .int .u64 y.val] 90)).setCell ⟨g, f * 3 + 2, none⟩ (.int .i64 n))) ((wr.alloc (.cells #[.int .i64 y.kind, .int .i64 y.key, .int .u64 y.val] 90)).setCell ⟨g, f * 3 + 2, none⟩ (.int .i64 n)) b ⟨mixI (tkI n) s.its (f + 1), addW n false (l.take i) s.ws, s.gv⟩ := ⟨I2, _, _, hfin, hws2⟩
              have hNT := note_any hqz (by
                have := HBDI.out
                exact ⟨this.keys, by rw [mixI_len]; exact HB.out.its, this.ws, this.ls, this.pw, this.g0, this.gt⟩) n y
              rw [hcm] at hNT hfz hgz
              have HNT := hid hNT
              have HFZ := hid hfz
              have HGZ := hid hgz
              have hszz : w1.heap.size ≤ ((wr.setCell ⟨g, f * 3 + 2, none⟩ (.int .i64 n)).alloc (.cells #[.int .i64 y.kind, .int .i64 y.key, .int .u64 y.val] 90)).heap.size := hfz.size
              have HSZZ := hid hszz
              have hne : f + 1 = takesL (l.take (i + 1)) := by rw [HTK.out, q4, ← HFT.out]; rfl
              have HNE := hid hne
              have hy4 : y = ⟨4, y.key, y.val⟩ := by obtain ⟨a1, a2, a3⟩ := y; simp only at q4; subst q4; rfl
              clear hst hst2 hba hne hQ hQa hxm hlen hcl hcM hcc2 hcz hseg hw hs hf8 hgne hi8 hfin hgF hfz hgz hcm hqz hNT hszz hx
              obtain ⟨a1, a2, a3⟩ := y
              simp only at q4
              subst q4
              simp only at *
              go_wp2_with fail
              refine HNT.out.mono ?_
              rintro e w3 ⟨rfl, ⟨F3, h3, g3⟩, f3⟩
              simp only [HNW.out] at h3
              go_wp2_with fail
              go_roundg (l.length + 1 - (i + 1))
              case measure => rw [HN.out]; omega
              case rel => exact ⟨i + 1, f + 1, F3, by go_num, by go_num, by omega, by omega, rfl, HNE.out, HST.out, h3, HGZ.out.trans g3 HSZZ.out, HFZ.out.trans f3 (fun j hj => HGZ.out j hj)⟩
            · have q4' : (y.kind == 4) = false := by simpa using q4
              rw [if_neg (by omega : ¬ (y.kind = 4 ∧ _)) ] at hst
              have hst2 : frontOk s.its (l.drop (i + 1)) f = true := by
                by_cases hh : (y.kind == 3 && y.key == 0) = true
                · rw [if_pos hh] at hst; exact hst.symm
                · rw [if_neg hh] at hst; cases hst
              have HST := hid hst2
              have HNT := hid (note_any (HQ.out.below hba) HBDI.out n y)
              have hne : f = takesL (l.take (i + 1)) := by rw [HTK.out, q4', ← HFT.out]; rfl
              have HNE := hid hne
              clear hst hst2 hba q4 hne
              go_wp2_with fail
              refine HNT.out.mono ?_
              rintro e w3 ⟨rfl, ⟨F3, h3, g3⟩, f3⟩
              simp only [HNW.out] at h3
              go_wp2_with fail
              go_roundg (l.length + 1 - (i + 1))
              case measure => rw [HN.out]; omega
              case rel => exact ⟨i + 1, f, F3, rfl, by go_num, by omega, by omega, rfl, HNE.out, HST.out, h3, HGR.out.trans (g3.up (by have := HSZ.out; omega)) HFR.out.size, HFA.out.trans f3 (fun j hj => HGR.out j hj)⟩
          · have hil2 : i = l.length := by omega
            subst hil2
            have hq := HQ.out
            rw [List.take_length] at hq
            have hft2 := HFT.out
            rw [List.take_length] at hft2
            obtain ⟨I2, iv2, qv2, hQ, hws2⟩ := hq
            simp only at hws2
            have hI2 : I2.length ≤ 1000 := by
              have h2 : (addW n false l s.ws).length = I2.length := by rw [hws2]; simp [wsOf]
              have h3 : (addW n false l s.ws).length ≤ s.ws.length + 1 := by unfold addW; split <;> simp
              omega
            have hfd := find_any hQ (by omega) n
            have hg2 := aget_ws n I2
            rw [← hws2] at hg2
            unfold findB at hfd
            by_cases hl0 : l = []
            · rw [addW, if_pos hl0, HG.out] at hg2
              have hf2 : I2.find? (fun x => decide (x.n = n)) = none := by
                cases hq : I2.find? (fun x => decide (x.n = n)) with
                | none => rfl
                | some x => rw [hq] at hg2; cases hg2
              rw [hf2] at hfd
              simp only [Option.map_none] at hfd
              have HFD2 := hid hfd
              have hfinal : QAt Zz F' wr b ⟨mixI (tkI n) s.its (takesL l), addW n true l s.ws, s.gv⟩ := ⟨I2, _, _, by rw [← hft2]; exact hQ, by rw [← hws2, addW, addW, if_pos hl0, if_pos hl0]⟩
              have HFIN := hid hfinal
              clear hfinal hfd hg2 hf2 hQ hws2 hft2 HFT HQ hl1 hA
              go_wp2_with fail
              refine HFD2.out.mono ?_
              rintro e w3 ⟨rfl, rfl⟩
              go_wp2_with fail
              go_ret
              exact ⟨by rw [HE.out]; rfl, ⟨F', by rw [HE.out]; exact HFIN.out, HGR.out.up f1.size⟩, fr1.trans HFR.out (fun j hj => .inl hj)⟩
            · rw [addW, if_neg hl0, aget_snoc_self HG.out] at hg2
              obtain ⟨x, hfx⟩ : ∃ x, I2.find? (fun x => decide (x.n = n)) = some x := by
                cases hq : I2.find? (fun x => decide (x.n = n)) with
                | none => rw [hq] at hg2; cases hg2
                | some x => exact ⟨x, rfl⟩
              rw [hfx] at hfd hg2
              simp only [Option.map_some] at hfd hg2
              obtain ⟨J1, J2, hJ, hxn, _⟩ := find_split hfx
              have hxw := hQ.wk x (List.mem_of_find?_eq_some hfx)
              have c2 : wr.cell? ⟨x.wb, 2, none⟩ = some (.bool x.p) := by rw [cell_of_row _ _ 2 _ _ _ hxw.2.1]; rfl
              have hz1 : wr.frozen? ⟨x.wb, 2, none⟩ = false := by simp [World.frozen?, hxw.2.1]
              subst hJ
              have hf1 : Fr (fun i => i = x.wb ∨ x.v.ownBlock = some i) wr (wr.setCell ⟨x.wb, 2, none⟩ (.bool true)) := Fr.setCell (p := ⟨x.wb, 2, none⟩) (Fr.refl _ wr) (.inl (.inl rfl)) _
              have hb1 : (wr.setCell ⟨x.wb, 2, none⟩ (.bool true)).heap[x.wb]? = some (.cells #[.int .i64 x.n, x.v, .bool true] 138 (0, 0)) := blk_set' hxw.2.1 2 _
              have hr1 : ChRow (wr.setCell ⟨x.wb, 2, none⟩ (.bool true)) x.v x.l := hxw.2.2.1.move (fun k hk => Below.heap_setCell _ _ _ _ (fun q => by
                have q' : k = x.wb := q
                subst q'
                exact types_ne (hxw.2.2.1.typed hk) ⟨_, hxw.2.1⟩ (by decide)))
              have hK := hQ.work hf1 hb1 hr1 (.inl rfl)
              have hfr : Fr F' wr (wr.setCell ⟨x.wb, 2, none⟩ (.bool true)) := hf1.mono (fun j hj => by
                rcases hj with q | q
                · rw [q]; exact hxw.1
                · exact hxw.2.2.2 j q)
              have hkeys : (addW n false l s.ws).Pairwise (fun x y => x.1 ≠ y.1) := by
                rw [addW, if_neg hl0]
                exact pw_snoc HB.out.keys (fun x hx => aget_none.1 HG.out x hx)
              have hxl : x.l = l := by
                have h2 := congrArg (Option.map KW.l) hg2
                simpa using h2.symm
              have hwsn : addW n true l s.ws = wsOf (J1 ++ ⟨x.n, x.wb, x.v, x.l, true⟩ :: J2) := by
                rw [← aput_ws hkeys hws2 hxn x.v x.l true, addW, addW, if_neg hl0, if_neg hl0, aput_snoc HG.out, hxl]
              have hfinal : QAt Zz (more F' wr (wr.setCell ⟨x.wb, 2, none⟩ (.bool true))) (wr.setCell ⟨x.wb, 2, none⟩ (.bool true)) b ⟨mixI (tkI n) s.its (takesL l), addW n true l s.ws, s.gv⟩ := ⟨_, _, _, by rw [← hft2]; exact hK, hwsn⟩
              have HFIN := hid hfinal
              have HFR2 := hid (HFR.out.trans hfr (fun j hj => HGR.out j hj))
              have HGR2 := hid (HGR.out.trans (grew_more F' wr (wr.setCell ⟨x.wb, 2, none⟩ (.bool true))) HFR.out.size)
              have HFD2 := hid hfd
              clear hfinal hfd hg2 hfx hQ hws2 hft2 HFT HQ hl1 hA hxw hf1 hb1 hr1 hK hfr hkeys hwsn hxn hxl
              go_wp2_with fail
              refine HFD2.out.mono ?_
              rintro e w3 ⟨rfl, rfl⟩
              simp only [Option.map_some]
              go_wp2_with fail
              go_ret
              exact ⟨by rw [HE.out]; rfl, ⟨_, by rw [HE.out]; exact HFIN.out, HGR2.out.up f1.size⟩, fr1.trans HFR2.out (fun j hj => .inl hj)⟩
end Go.Proofs.YtdejbinmnoabeaaGreat.Q

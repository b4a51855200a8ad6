/- Walks of the queue: gone, New, Values, Load. Conditions: the queue reads as QAt Zz says. -/
import Derived.Test.YtdejbinmnoabeaaQuH
namespace Go.Mine
def loadI (vals : List Int) (next : Int) : List It := (List.range vals.length).map (fun (i : Nat) => (⟨next - vals.length + (i : Int), vals.getD i 0, 0⟩ : It))
def QS.load (s : QS) (vals : List Int) (next : Int) : Int × QS :=
  if 0 < s.its.length + s.ws.length then (7, s)
  else if 16 < vals.length ∨ next ≤ vals.length ∨ 4611686018427387904 < next then (1, s)
  else (0, ⟨loadI vals next, s.ws, next - 1⟩)
theorem loadI_take {vals : List Int} {next : Int} {i : Nat} {y : Int} (hy : vals[i]? = some y) : (loadI vals next).take (i + 1) = (loadI vals next).take i ++ [⟨next - vals.length + i, y, 0⟩] := by
  have h1 := (List.getElem?_eq_some_iff.1 hy).1
  have h2 := (List.getElem?_eq_some_iff.1 hy).2
  have hl : i < (loadI vals next).length := by simp [loadI, h1]
  rw [List.take_succ_eq_append_getElem hl]
  congr 2
  simp [loadI, List.getD_eq_getElem?_getD, hy]
theorem loadI_len (vals : List Int) (next : Int) : (loadI vals next).length = vals.length := by simp [loadI]
end Go.Mine
namespace Go.Proofs.Ytdejbinmnoabeaa.Q
variable {Zz : QZ}
open Go.RowKit Go.Mine Go.Proofs.YtdejbinmnoabeaaW.PrintWords
set_option linter.unusedVariables false
set_option linter.unusedSimpArgs false
def SPost (Zz : QZ) (F : Nat → Prop) (w : World) (b : Nat) (r : Int) (s' : QS) (e : Ending) (w' : World) : Prop :=
  e = .returned (.int .i64 r) ∧ (∃ F', QAt Zz F' w' b s' ∧ Grew F F' w) ∧ Fr F w w'
set_option maxRecDepth 100000 in
set_option maxHeartbeats 2000000 in
theorem gone_any {F : Nat → Prop} {w : World} {b : Nat} {s : QS} (h : QAt Zz F w b s) (hn : s.ws.length ≤ 1000000) (n : Int) :
    Calls Try.prog 79 #[.pointer (some ⟨b, 34, none⟩), .int .i64 n] w (NotePost Zz F w b ⟨s.its, adel n s.ws, s.gv⟩) := by
  have hb0 : Below w.heap.size w (w.alloc (.cells #[.int .i64 n] 3)) := (Below.refl _ _).alloc (Nat.le_refl _) _
  have hx0 : (w.alloc (.cells #[.int .i64 n] 3)).heap[w.heap.size]? = some (.cells #[.int .i64 n] 3 (0, 0)) := (MapKept.heap_alloc w _).1
  obtain ⟨I, iv, qv, hR, hws⟩ := h
  have hIl : I.length ≤ 1000000 := by rw [hws] at hn; simpa [wsOf] using hn
  have ha := hR.below hb0
  have hbx : ¬ F w.heap.size := fun q => by have := hR.fb _ q; omega
  have hfw : Fr F w (w.alloc (.cells #[.int .i64 n] 3)) := (Fr.refl _ w).alloc _
  have hc : (w.alloc (.cells #[.int .i64 n] 3)).cell? ⟨b, 35, none⟩ = some qv := by rw [cell_of_row _ b 35 _ _ _ ha.blk]; exact qget1 _ _ _ _
  have hdel := del_wp qv I n w.heap.size _ ha.wp (fun x hx => ⟨by rw [cell_of_row _ _ 0 _ _ _ (ha.wk x hx).2.1]; rfl, (ha.wb_ne hx).2.2⟩) (by rw [cell_of_row _ _ 0 _ _ _ hx0]; rfl) (fun q => hbx (ha.qF _ q)) hIl
  have HDEL := hid hdel
  have HA := hid ha
  have HFW := hid hfw
  have HWS := hid hws
  clear hb0 hx0 hR ha hfw hdel hws hbx
  go_enter Try.func79, Try.ntmps79
  go_wp2_with fail
  generalize w.alloc (.cells #[.int .i64 n] 3) = wa at *
  generalize w.heap.size = bx at *
  refine HDEL.out.mono ?_
  rintro e w2 ⟨v', rfl, hr2, ho2, hf2⟩
  obtain ⟨A2, c2, rfl, hc2, _⟩ := hr2.at_
  have hx2 : w2.heap[b]? = some (.cells (qCells Zz (iv) (qv) (s.gv)) 91 (0, 0)) := hf2.at_ HA.out.blk HA.out.iv_ne.2.1
  have hz2 : w2.frozen? ⟨b, 35, none⟩ = false := by simp [World.frozen?, hx2]
  have hcc2 : w2.cell? ⟨b, 35, none⟩ = some qv := by rw [cell_of_row w2 _ 35 _ _ _ hx2]; exact qget1 _ _ _ _
  have HX2 := hid hx2
  have HR2 := hid hr2
  have HO2 := hid ho2
  have HF2 := hid hf2
  clear hx2 hr2 ho2 hf2 HDEL
  go_wp2_with fail
  generalize hln : (I.filter (fun x => !(x.n == n))).length = ln at *
  have hf3 : Fr (fun i => i = b ∨ qv.ownBlock = some i) wa (w2.setCell ⟨b, 35, none⟩ (.slice A2 ln c2)) := Fr.setCell (p := ⟨b, 35, none⟩) (HF2.out.mono (fun i hi => .inr hi)) (.inl (.inl rfl)) _
  have hi3 : FR eIt 108 (w2.setCell ⟨b, 35, none⟩ (.slice A2 ln c2)) iv s.its := HA.out.it.move (fun k hk => hf3.block k (HA.out.it.lt hk) (fun q => by
    rcases q with q | q
    · exact HA.out.iv_ne.1 (by rw [hk, q])
    · exact HA.out.iv_ne.2.2 k hk q))
  have hq3 : FR eWI 105 (w2.setCell ⟨b, 35, none⟩ (.slice A2 ln c2)) (.slice A2 ln c2) (I.filter (fun x => !(x.n == n))) := HR2.out.move (fun k hk => Below.heap_setCell _ _ _ _ (fun q => by
    have q' : k = b := q
    subst q'
    rw [HO2.out] at hk
    exact HA.out.iv_ne.2.1 hk))
  have hfin := HA.out.turn (hf3.mono (fun i hi => hi.imp id (fun q => .inr q))) (blk_q1 HX2.out _) hi3 hq3 List.filter_sublist (fun j hj => .inl hj) (fun j hj => .inl (HO2.out ▸ hj))
  go_end0
  refine ⟨rfl, ⟨_, ⟨_, _, _, hfin, ?_⟩, (grew_more _ _ _).up HFW.out.size⟩, HFW.out.trans hf3 (fun i hi => .inl (by
    rcases hi with q | q
    · rw [q]; exact HA.out.bF
    · exact HA.out.qF _ q))⟩
  show adel n s.ws = _
  rw [HWS.out, adel_wsOf]

def eU : Enc Int := ⟨1, fun x => [.int .u64 x], fun _ => rfl, fun x u hu => by simp at hu; subst hu; rfl⟩
theorem info32 : (Try.prog.info? 32).map (fun i => (i.zero, i.size, i.bytes)) = some (some (.int .u64 0), 1, 8) := by kernel_rfl

set_option maxRecDepth 100000 in
set_option maxHeartbeats 2000000 in
theorem values_any {F : Nat → Prop} {w : World} {b : Nat} {s : QS} (h : QAt Zz F w b s) (hn : s.its.length ≤ 100000) :
    Calls Try.prog 39 #[.pointer (some ⟨b, 34, none⟩)] w fun e w' => ∃ v, e = .returned v ∧ FR eU 32 w' v (s.its.map (·.val)) ∧ (∀ k, v.ownBlock = some k → w.heap.size ≤ k) ∧ Below w.heap.size w w' := by
  obtain ⟨I, iv, qv, hR, hws⟩ := h
  have hc : w.cell? ⟨b, 34, none⟩ = some iv := by rw [cell_of_row w b 34 _ _ _ hR.blk]; exact qget0 _ _ _ _
  obtain ⟨A, c, rfl, hAc, hat⟩ := hR.it.at_
  have HAT := hid hat
  clear hat hR hws
  go_enter Try.func39, Try.ntmps39
  go_wp2_with fail
  go_loopg [3, 13] (s.its.length + 1) (fun m v3 v13 wr => ∃ i : Nat, v13 = .int .i64 i ∧ i ≤ s.its.length ∧ m = s.its.length + 1 - i ∧ eU.kd.R 32 wr w.heap.size (fun _ => True) v3 ((s.its.map (·.val)).take i) ∧ Below w.heap.size w wr)
  case atStart => exact ⟨0, rfl, Nat.zero_le _, rfl, Kd.R_nil _ _ _ _ _, Below.refl _ _⟩
  case round =>
    obtain ⟨i, rfl, hi, hm, hv, hb⟩ := hrel
    have HN := hid hm
    clear hm
    by_cases h1 : i < s.its.length
    · obtain ⟨x, hx⟩ : ∃ x, s.its[i]? = some x := ⟨_, List.getElem?_eq_getElem h1⟩
      obtain ⟨b', off, rfl, hbb, hcc⟩ := (HAT.out.below hb) i x hx
      have k0 : wr.cell? ⟨b', off + i * 3, none⟩ = some (.int .i64 x.num) := hcc 0 _ rfl
      have k1 : wr.cell? ⟨b', off + i * 3 + 1, none⟩ = some (.int .u64 x.val) := hcc 1 _ rfl
      have k2 : wr.cell? ⟨b', off + i * 3 + 2, none⟩ = some (.int .i64 x.by_) := hcc 2 _ rfl
      have hst : (s.its.map (·.val)).take (i + 1) = (s.its.map (·.val)).take i ++ [x.val] := by
        have hl : i < (s.its.map (·.val)).length := by rw [List.length_map]; exact h1
        rw [List.take_succ_eq_append_getElem hl]
        congr 2
        have := (List.getElem?_eq_some_iff.1 hx).2
        simp [this]
      have hba : Below wr.heap.size wr (wr.alloc (.cells #[.int .i64 x.num, .int .u64 x.val, .int .i64 x.by_] 108)) := (Below.refl _ _).alloc (Nat.le_refl _) _
      have hv2 := Kd.R_below hv hba
      have hbw := hb.trans (hba.mono hb.size)
      have hlt : ((s.its.map (·.val)).take i).length ≤ 100000 := by rw [List.length_take, List.length_map]; omega
      obtain ⟨A3, c3, hv3⟩ := Kd.R_slice hv
      subst hv3
      have HST := hid hst
      have HV2 := hid hv2
      have HBW := hid hbw
      have hsz : w.heap.size ≤ (wr.alloc (.cells #[.int .i64 x.num, .int .u64 x.val, .int .i64 x.by_] 108)).heap.size := hbw.size
      clear hcc hx hst hba hv hv2 hbw
      generalize (s.its.map (·.val)).take i = xs at *
      go_wp2_with (at_builtin; go_loud (refine Kd.R_append eU.kd (w0 := w) w.heap.size rfl (.tmp 17) (.tmp 20) 43 32 _ 8 rfl Try.underlying43 info32 (by rfl) (by decide) (by decide) (.slice A3 xs.length c3) xs x.val [.int .u64 x.val] (fun _ => True) (fun _ => False) rfl (by first | rfl | (simp; rfl)) rfl (fun _ q => q.elim) (fun _ _ => trivial) HV2.out HBW.out hsz (by omega) ?_); intro v8 w8 ho8 hb8 hg8 hat8; have HO8 := hid ho8; have HB8 := hid hb8; clear ho8 hb8 hg8 hat8)
      go_roundg (s.its.length + 1 - (i + 1))
      case measure => rw [HN.out]; omega
      case rel => exact ⟨i + 1, by go_num, by omega, rfl, by rw [HST.out]; exact HO8.out, HB8.out⟩
    · have : i = s.its.length := by omega
      subst this
      have hq : (s.its.map (·.val)).take s.its.length = s.its.map (·.val) := List.take_of_length_le (by simp)
      rw [hq] at hv
      have HV := hid hv
      go_wp2_with fail
      go_ret
      exact ⟨_, rfl, Kd.R_lower HV.out (Nat.zero_le _), Kd.R_base HV.out, hb⟩
theorem values_nil (w : World) : Calls Try.prog 39 #[.pointer none] w fun e w' => e = .returned (.slice none 0 0) ∧ w = w' := by
  go_enter Try.func39, Try.ntmps39
  go_wp2_with fail
  go_ret
  exact ⟨rfl, rfl⟩
abbrev UAt (w : World) (B : Nat) (A : Option Addr) (l : List Int) : Prop := RowAt (fun x => [.int .u64 x]) 1 w B A l
set_option maxRecDepth 100000 in
set_option maxHeartbeats 4000000 in
theorem load_any {F : Nat → Prop} {w : World} {b : Nat} {s : QS} (h : QAt Zz F w b s) (hb : s.Bd) (A : Option Addr) (vals : List Int) (c : Nat) (next : Int) (hv : UAt w w.heap.size A vals) (hA : vals ≠ [] → ∀ b' off, A = some ⟨b', off, none⟩ → ¬ F b') (hlen : vals.length ≤ 100000000000000000) (hc : vals.length ≤ c) :
    Calls Try.prog 50 #[.pointer (some ⟨b, 34, none⟩), .slice A vals.length c, .int .i64 next] w (SPost Zz F w b (s.load vals next).1 (s.load vals next).2) := by
  have h0 := h
  obtain ⟨I, iv, qv, hR, hws⟩ := h
  obtain ⟨hb1, hb2, hb3, hb4, hb5, hb6, hb7⟩ := hb
  have hIl : I.length ≤ 1000 := by rw [hws] at hb3; simpa [wsOf] using hb3
  have hwl : s.ws.length = I.length := by rw [hws]; simp [wsOf]
  have c0 : w.cell? ⟨b, 34, none⟩ = some iv := by rw [cell_of_row w b 34 _ _ _ hR.blk]; exact qget0 _ _ _ _
  have c1 : w.cell? ⟨b, 35, none⟩ = some qv := by rw [cell_of_row w b 35 _ _ _ hR.blk]; exact qget1 _ _ _ _
  obtain ⟨A0, cc0, rfl, hc0, _⟩ := hR.it.at_
  obtain ⟨A1, cc1, rfl, hc1, _⟩ := hR.wp.at_
  have HR := hid hR
  have HWS := hid hws
  have H0 := hid h0
  have HA := hid hA
  have HV := hid hv
  have HB4 := hid hb4
  clear hR hws h0 hA hv hb4 hb1
  go_enter Try.func50, Try.ntmps50
  by_cases hp : 0 < s.its.length + s.ws.length
  · have he : s.load vals next = (7, s) := by unfold QS.load; rw [if_pos hp]
    have HE := hid he
    have hp2 : decide (0 < (s.its.length : Int) + (I.length : Int)) = true := by simp; omega
    have ww : IntKind.i64.wrap ((s.its.length : Int) + (I.length : Int)) = (s.its.length : Int) + I.length := wr64 (by omega) (by omega)
    clear he
    go_wp2_with fail
    go_quiet (fail)
    go_wp2_with fail
    go_ret
    exact ⟨by rw [HE.out]; rfl, ⟨F, by rw [HE.out]; exact H0.out.below (bdN w _), Grew.refl _ _⟩, (Fr.refl _ w).drewN _⟩
  · have hi0 : s.its = [] := List.eq_nil_of_length_eq_zero (by omega)
    have hI0 : I = [] := List.eq_nil_of_length_eq_zero (by omega)
    subst hI0
    rw [hi0] at c0 HR
    simp only [List.length_nil] at c0 c1 HR
    by_cases hbad : 16 < vals.length ∨ next ≤ vals.length ∨ 4611686018427387904 < next
    · have he : s.load vals next = (1, s) := by unfold QS.load; rw [if_neg hp, if_pos hbad]
      have HE := hid he
      clear he
      go_wp2_with fail
      go_quiet (fail)
      go_wp2_with fail
      all_goals first
        | (go_ret; exact ⟨by rw [HE.out]; rfl, ⟨F, by rw [HE.out]; exact H0.out.below (bdN w _), Grew.refl _ _⟩, (Fr.refl _ w).drewN _⟩)
        | (exfalso; omega)
    · have he : s.load vals next = (0, ⟨loadI vals next, s.ws, next - 1⟩) := by unfold QS.load; rw [if_neg hp, if_neg hbad]
      have HE := hid he
      have g1 : (vals.length : Int) ≤ 16 := by omega
      have g2 : (vals.length : Int) < next := by omega
      have g3 : next ≤ 4611686018427387904 := by omega
      clear he hbad
      go_wp2_with fail
      go_quiet (fail)
      go_wp2_with fail
      have hg := H0.out.fb
      have ww1 : IntKind.i64.wrap (next - (vals.length : Int)) = next - vals.length := wr64 (by omega) (by omega)
      have ww3 : IntKind.i64.wrap (next - 1) = next - 1 := wr64 (by omega) (by omega)
      have HRn := hid (HR.out.below (bdN w nq))
      have hfn : Fr F w (w.drewN nq) := (Fr.refl F w).drewN nq
      clear c0 c1 HR
      go_loopg [41] (vals.length + 1) (fun m v wr => ∃ (i : Nat) (F' : Nat → Prop) (iv' : Value), v = .int .i64 i ∧ i ≤ vals.length ∧ m = vals.length + 1 - i ∧ QR Zz eIt T0 F' wr b ((loadI vals next).take i) [] s.gv iv' (.slice A1 0 cc1) ∧ Grew F F' w ∧ Fr F w wr)
      case atStart => exact ⟨0, F, _, rfl, Nat.zero_le _, rfl, HRn.out, Grew.refl _ _, hfn⟩
      case round =>
        obtain ⟨i, F', iv', rfl, hi, hm, hQ, hgr, hfr⟩ := hrel
        have HN := hid hm
        clear hm HRn hfn
        have hl : ((loadI vals next).take i).length = i := by rw [List.length_take, loadI_len]; omega
        obtain ⟨A3, c3, hv3, hc3, _⟩ := hQ.it.at_
        rw [hl] at hv3
        subst hv3
        have c0 : wr.cell? ⟨b, 34, none⟩ = some (.slice A3 i c3) := by rw [cell_of_row wr b 34 _ _ _ hQ.blk]; exact qget0 _ _ _ _
        by_cases h1 : i < vals.length
        · obtain ⟨y, hy⟩ : ∃ y, vals[i]? = some y := ⟨_, List.getElem?_eq_getElem h1⟩
          obtain ⟨b', off, rfl, hlt, hcc⟩ := HV.out i y hy
          have k0 : wr.cell? ⟨b', off + i, none⟩ = some (.int .u64 y) := by
            have := hfr.cell (hcc 0 _ rfl) (HA.out (by intro q; rw [q] at h1; simp at h1) b' off rfl)
            simpa using this
          have hst := loadI_take (next := next) hy
          have ww2 : IntKind.i64.wrap (next - (vals.length : Int) + (i : Int)) = next - vals.length + i := wr64 (by omega) (by omega)
          have HST := hid hst
          have HQ := hid hQ
          have HL := hid hl
          clear hcc hy hst hQ hl
          generalize (loadI vals next).take i = xs at *
          go_wp2_with (at_builtin; go_loud (refine Kd.R_append eIt.kd (w0 := wr) 0 rfl (.tmp 50) (.tmp 59) 84 108 _ 24 rfl Try.underlying84 info108 (by rfl) (by decide) (by decide) (.slice A3 i c3) xs ⟨next - vals.length + i, y, 0⟩ (encIt ⟨next - vals.length + i, y, 0⟩) (fun _ => True) (fun _ => False) rfl (by first | rfl | (simp; rfl)) rfl (fun _ q => q.elim) (fun _ _ => trivial) HQ.out.it (Below.refl _ _) (Nat.zero_le _) (by rw [HL.out]; omega) ?_); intro v8 w8 ho8 hb8 hg8 hat8; have hx8 : w8.heap[b]? = some (.cells (qCells Zz (.slice A3 i c3) (.slice A1 0 cc1) (s.gv)) 91 (0, 0)) := (hg8.block _ (HQ.out.fb _ HQ.out.bF) (fun q => HQ.out.iv_ne.1 q.symm)).trans HQ.out.blk; have hz8 : w8.frozen? ⟨b, 34, none⟩ = false := (by simp [World.frozen?, hx8]); have hc8 : w8.cell? ⟨b, 34, none⟩ = some (.slice A3 i c3) := (by rw [cell_of_row w8 _ 34 _ _ _ hx8]; exact qget0 _ _ _ _); have HO8 := hid ho8; have HX8 := hid hx8; have HG8 := hid hg8; have HAT8 := hid hat8; clear ho8 hb8 hg8 hat8 hx8; obtain ⟨A8, c8, hv8⟩ := Kd.R_slice HO8.out; rw [List.length_append, List.length_singleton, HL.out] at hv8; subst hv8)
          go_roundg (vals.length + 1 - (i + 1))
          case measure => rw [HN.out]; omega
          case rel =>
            have hf8 : Fr (fun k => k = b ∨ (Value.slice A3 i c3).ownBlock = some k) wr (w8.setCell ⟨b, 34, none⟩ (.slice A8 (i + 1) c8)) := Fr.setCell (p := ⟨b, 34, none⟩) ((Fr.of_grown HG8.out).mono (fun j hj => .inr hj)) (.inl (.inl rfl)) _
            have hi8 : FR eIt 108 (w8.setCell ⟨b, 34, none⟩ (.slice A8 (i + 1) c8)) (.slice A8 (i + 1) c8) ((loadI vals next).take (i + 1)) := by
              rw [HST.out]
              have h0 : FR eIt 108 w8 (.slice A8 (i + 1) c8) (xs ++ [⟨next - vals.length + i, y, 0⟩]) := HO8.out
              exact h0.move (fun j hj => Below.heap_setCell _ _ _ _ (fun q => h0.ne HX8.out (by decide) (by rw [hj]; exact congrArg some q)))
            have hq8 : FR eWI 105 (w8.setCell ⟨b, 34, none⟩ (.slice A8 (i + 1) c8)) (.slice A1 0 cc1) [] := HQ.out.wp.move (fun k hk => hf8.block k (HQ.out.wp.lt hk) (fun q => by
              rcases q with q | q
              · exact HQ.out.iv_ne.2.1 (by rw [hk, q])
              · exact HQ.out.iv_ne.2.2 k q hk))
            have hfin := HQ.out.turn (hf8.mono (fun k hk => hk.imp id (fun q => .inl q))) (blk_q0 HX8.out (.slice A8 (i + 1) c8)) hi8 hq8 (List.Sublist.refl _) (fun j hj => by
              rcases HAT8.out with q | ⟨b', q, hb⟩
              · exact .inl (q ▸ hj)
              · rw [hj] at q; cases q; exact .inr hb) (fun j hj => .inl hj)
            exact ⟨i + 1, _, _, by go_num, by omega, rfl, hfin, hgr.trans (grew_more _ _ _) hfr.size, hfr.trans hf8 (fun j hj => hgr j (by
              rcases hj with q | q
              · rw [q]; exact HQ.out.bF
              · exact HQ.out.iF _ q))⟩
        · have hil : i = vals.length := by omega
          have ht : (loadI vals next).take i = loadI vals next := by rw [hil]; exact List.take_of_length_le (by rw [loadI_len]; exact Nat.le_refl _)
          rw [ht] at hQ
          have hz : wr.frozen? ⟨b, 36, none⟩ = false := by simp [World.frozen?, hQ.blk]
          have hcz : wr.cell? ⟨b, 36, none⟩ = some (.int .i64 s.gv) := by rw [cell_of_row wr b 36 _ _ _ hQ.blk]; exact qget2 _ _ _ _
          have HQ := hid hQ
          clear hQ
          go_wp2_with fail
          have hf8 : Fr (fun k => k = b) wr (wr.setCell ⟨b, 36, none⟩ (.int .i64 (next - 1))) := Fr.setCell (S := fun k => k = b) (p := ⟨b, 36, none⟩) (Fr.refl _ wr) (.inl rfl) _
          have hfin := HQ.out.turn (hf8.mono (fun k hk => .inl hk)) (blk_q2 HQ.out.blk (.int .i64 (next - 1))) (HQ.out.it.move (fun k hk => hf8.block k (HQ.out.it.lt hk) (fun q => HQ.out.iv_ne.1 (by rw [hk, q])))) (HQ.out.wp.move (fun k hk => hf8.block k (HQ.out.wp.lt hk) (fun q => HQ.out.iv_ne.2.1 (by rw [hk, q])))) (List.Sublist.refl _) (fun j hj => .inl hj) (fun j hj => .inl hj)
          go_ret
          unfold SPost
          rw [HE.out]
          exact ⟨rfl, ⟨_, ⟨[], _, _, hfin, HWS.out⟩, hgr.trans (grew_more _ _ _) hfr.size⟩, hfr.trans hf8 (fun j hj => hgr j (by rw [hj]; exact HQ.out.bF))⟩
end Go.Proofs.Ytdejbinmnoabeaa.Q

/- Walk of the document's queue: Load. Conditions: the queue reads as DAt says; the list lies beside it. -/
import Derived.Test.YtmckdoiepmkbbaaQdG
namespace Go.Proofs.Ytmckdoiepmkbbaa
open Go.RowKit Go.Mine Go.Proofs.YtmckdoiepmkbbaaW.PrintWords
set_option linter.unusedVariables false
set_option linter.unusedSimpArgs false
set_option maxRecDepth 100000 in
set_option maxHeartbeats 8000000 in
theorem dload_any {F : Nat → Prop} {w : World} {b : Nat} {s : QS} (h : DAt F w b s) (hb : s.Bd) (A : Option Addr) (vals : List Int) (c : Nat) (next : Int) (hv : UAt w w.heap.size A vals) (hA : vals ≠ [] → Beside F A) (hlen : vals.length ≤ 100000000000000000) :
    Calls Try.prog 46 #[.pointer (some ⟨b, 0, none⟩), .slice A vals.length c, .int .i64 next] w (DPost F w b (.int .i64 (s.load vals next).1) (s.load vals next).2) := by
  have h0 := h
  obtain ⟨I, iv, qv, hR, hws⟩ := h
  obtain ⟨hb1, hb2, hb3, hb4, hb5, hb6, hb7⟩ := hb
  have hIl : I.length ≤ 1000 := by rw [hws] at hb3; simpa [wsOf] using hb3
  have hwl : s.ws.length = I.length := by rw [hws]; simp [wsOf]
  obtain ⟨A0, cc0, rfl, hc0, _⟩ := hR.it.at_
  obtain ⟨A1, cc1, rfl, hc1, _⟩ := hR.wp.at_
  have c0 : w.cell? ⟨b, 0, none⟩ = some (.slice A0 s.its.length cc0) := by rw [cell_of_row w b 0 _ _ _ hR.blk]; rfl
  have c1 : w.cell? ⟨b, 1, none⟩ = some (.slice A1 I.length cc1) := by rw [cell_of_row w b 1 _ _ _ hR.blk]; rfl
  have HR := hid hR
  have HWS := hid hws
  have H0 := hid h0
  have HA := hid hA
  have HV := hid hv
  clear hR hws h0 hA hv hb4 hb1
  go_enter Try.func46, Try.ntmps46
  by_cases hp : 0 < s.its.length + s.ws.length
  · have he : s.load vals next = (7, s) := by unfold QS.load; rw [if_pos hp]
    have HE := hid he
    obtain ⟨NI, hNI⟩ : ∃ NI, NI = s.its.length := ⟨_, rfl⟩
    obtain ⟨NJ, hNJ⟩ : ∃ NJ, NJ = I.length := ⟨_, rfl⟩
    rw [← hNI] at c0
    rw [← hNJ] at c1
    by_cases hp1 : 0 < s.its.length
    · have hp1' : 0 < (NI : Int) := by omega
      clear he hp hp1 hNI hNJ hwl hIl hb2 hb3 hc0 hc1
      go_wp2_with fail
      go_ret
      exact ⟨by rw [HE.out]; rfl, ⟨F, by rw [HE.out]; exact H0.out, Grew.refl _ _⟩, Fr.refl _ w⟩
    · have hp1' : ¬ 0 < (NI : Int) := by omega
      have hp2' : 0 < (NJ : Int) := by omega
      clear he hp hp1 hNI hNJ hwl hIl hb2 hb3 hc0 hc1
      go_wp2_with fail
      go_ret
      exact ⟨by rw [HE.out]; rfl, ⟨F, by rw [HE.out]; exact H0.out, Grew.refl _ _⟩, Fr.refl _ w⟩
  · have hi0 : s.its = [] := List.eq_nil_of_length_eq_zero (by omega)
    have hI0 : I = [] := List.eq_nil_of_length_eq_zero (by omega)
    subst hI0
    rw [hi0] at c0 HR
    simp only [List.length_nil] at c0 c1 HR
    by_cases hbad : 16 < vals.length ∨ next ≤ vals.length ∨ 4611686018427387904 < next
    · have he : s.load vals next = (1, s) := by unfold QS.load; rw [if_neg hp, if_pos hbad]
      have HE := hid he
      clear he hp hi0
      by_cases g1 : 16 < vals.length
      · have g1' : 16 < (vals.length : Int) := by omega
        clear hbad g1
        go_wp2_with fail
        go_ret
        exact ⟨by rw [HE.out]; rfl, ⟨F, by rw [HE.out]; exact H0.out, Grew.refl _ _⟩, Fr.refl _ w⟩
      · have g1' : ¬ 16 < (vals.length : Int) := by omega
        by_cases g2 : next ≤ vals.length
        · clear hbad g1
          go_wp2_with fail
          go_ret
          exact ⟨by rw [HE.out]; rfl, ⟨F, by rw [HE.out]; exact H0.out, Grew.refl _ _⟩, Fr.refl _ w⟩
        · have g3 : 4611686018427387904 < next := by omega
          clear hbad g1
          go_wp2_with fail
          go_ret
          exact ⟨by rw [HE.out]; rfl, ⟨F, by rw [HE.out]; exact H0.out, Grew.refl _ _⟩, Fr.refl _ w⟩
    · have he : s.load vals next = (0, ⟨loadI vals next, s.ws, next - 1⟩) := by unfold QS.load; rw [if_neg hp, if_neg hbad]
      have HE := hid he
      have g1' : ¬ 16 < (vals.length : Int) := by omega
      have g2' : ¬ next ≤ vals.length := by omega
      have g3' : ¬ 4611686018427387904 < next := by omega
      have hg1 : vals.length ≤ 16 := by omega
      have hg2 : (vals.length : Int) < next := by omega
      have hg3 : next ≤ 4611686018427387904 := by omega
      have HG := hid (And.intro hg1 (And.intro hg2 hg3))
      clear he hp hi0 hbad
      go_wp2_with fail
      clear c0 c1
      go_loopg [7] (vals.length + 1) (fun m v7 wr => ∃ (i : Nat) (F' : Nat → Prop) (iv' : Value), v7 = .int .i64 i ∧ i ≤ vals.length ∧ m = vals.length + 1 - i ∧ QR eD T1 F' wr b ((loadI vals next).take i) [] s.gv iv' (.slice A1 0 cc1) ∧ Grew F F' w ∧ Fr F w wr)
      case atStart => exact ⟨0, F, _, rfl, Nat.zero_le _, rfl, by simpa using HR.out, Grew.refl _ _, Fr.refl _ _⟩
      case round =>
        obtain ⟨i, F', iv', rfl, hi, hm, hQ, hgr, hfr⟩ := hrel
        have HN := hid hm
        have HQ := hid hQ
        have HGR := hid hgr
        have HFR := hid hfr
        clear hm hgr
        by_cases h1 : i < vals.length
        · obtain ⟨y, hy⟩ : ∃ y, vals[i]? = some y := ⟨_, List.getElem?_eq_getElem h1⟩
          obtain ⟨b', off, rfl, hbb, hcc⟩ := (RowAt.fr HV.out hfr HA.out) i y hy
          have k0 : wr.cell? ⟨b', off + i, none⟩ = some (.int .u64 y) := by have := hcc 0 _ rfl; simpa using this
          have hst := loadI_take (next := next) hy
          have hlL : ((loadI vals next).take i).length ≤ 1000 := by rw [List.length_take, loadI_len]; omega
          obtain ⟨A3, c3, hv3, hc3, _⟩ := hQ.it.at_
          subst hv3
          have z0 : wr.cell? ⟨b, 0, none⟩ = some (.slice A3 ((loadI vals next).take i).length c3) := by rw [cell_of_row _ b 0 _ _ _ hQ.blk]; rfl
          have ww1 : IntKind.i64.wrap (next - (vals.length : Int)) = next - vals.length := wr64 (by have := HG.out; omega) (by have := HG.out; omega)
          have ww2 : IntKind.i64.wrap (next - (vals.length : Int) + (i : Int)) = next - vals.length + i := wr64 (by have := HG.out; omega) (by have := HG.out; omega)
          have z0a : (wr.alloc (.cells #[.int .i64 (next - vals.length + i), .int .u64 y] 85)).cell? ⟨b, 0, none⟩ = some (.slice A3 ((loadI vals next).take i).length c3) := by rw [World.cell?_alloc_lt _ _ _ (World.block_lt_of_cell? _ _ z0)]; exact z0
          have HST := hid hst
          have HQD := hid (hQ.below (bd1 wr))
          clear hcc hy hst hQ hfr
          generalize hL : (loadI vals next).take i = L at *
          have HL := hid hL
          clear hL g1' g2' g3' hg1 hg2 hg3
          go_wp2_with fail
          go_region_law (refine Kd.R_append_step eD.kd (w0 := wr.drew) 0 (by rfl) (.tmp 45) (.tmp 57) 52 85 _ 16 rfl Try.underlying52 info85 (by rfl) (by decide) (by decide) (.slice A3 L.length c3) L ⟨next - vals.length + i, y, 0⟩ (encD ⟨next - vals.length + i, y, 0⟩) (fun _ => True) (fun _ => False) (by simp [Act.eval, Act.put]) (by simp [Act.eval, Act.put]) rfl (fun _ q => q.elim) (fun _ _ => trivial) HQD.out.it (Below.refl _ _) (Nat.zero_le _) (by omega) ?_; intro v5 w5 ho5 hb5 hg5 hat5; have hb5' : w5.heap[b]? = some (.cells #[.slice A3 L.length c3, .slice A1 0 cc1, .int .i64 s.gv] 55 (0, 0)) := (hg5.block _ (HQD.out.fb _ HQD.out.bF) (fun q => HQD.out.iv_ne.1 q.symm)).trans HQD.out.blk; have hc5 : w5.cell? ⟨b, 0, none⟩ = some (.slice A3 L.length c3) := (by rw [cell_of_row w5 b 0 _ _ _ hb5']; rfl); have hz5 : w5.frozen? ⟨b, 0, none⟩ = false := (by simp [World.frozen?, hb5']); have HO5 := hid ho5; have HG5 := hid hg5; have HT5 := hid hat5; have HB5 := hid hb5'; clear ho5 hg5 hat5 hb5'; obtain ⟨A5, c5, hv5⟩ := Kd.R_slice HO5.out; rw [List.length_append, List.length_singleton] at hv5; subst hv5)
          all_goals
            have hf6 : Fr (fun k => k = b ∨ (Value.slice A3 L.length c3).ownBlock = some k) wr.drew (w5.setCell ⟨b, 0, none⟩ (.slice A5 (L.length + 1) c5)) := Fr.setCell (p := ⟨b, 0, none⟩) ((Fr.of_grown HG5.out).mono (fun j hj => .inr hj)) (.inl (.inl rfl)) _
            have hi6 : FR eD 85 (w5.setCell ⟨b, 0, none⟩ (.slice A5 (L.length + 1) c5)) (.slice A5 (L.length + 1) c5) (L ++ [⟨next - vals.length + i, y, 0⟩]) := FR.move HO5.out (fun j hj => Below.heap_setCell _ _ _ _ (fun q => FR.ne HO5.out HB5.out (by decide) (by rw [hj]; exact congrArg some q)))
            have hq6 : FR eWI 59 (w5.setCell ⟨b, 0, none⟩ (.slice A5 (L.length + 1) c5)) (.slice A1 0 cc1) [] := HQD.out.wp.move (fun k hk => hf6.block k (HQD.out.wp.lt hk) (fun q => by
              rcases q with q | q
              · exact HQD.out.iv_ne.2.1 (by rw [hk, q])
              · exact HQD.out.iv_ne.2.2 k q hk))
            have hfin := HQD.out.turn (hf6.mono (fun k hk => hk.imp id (fun q => .inl q))) (blk_set' HB5.out 0 (.slice A5 (L.length + 1) c5)) hi6 hq6 (List.Sublist.refl _) (fun j hj => by
              rcases HT5.out with q | ⟨b', q, hb⟩
              · exact .inl (q ▸ hj)
              · rw [hj] at q; cases q; exact .inr hb) (fun j hj => .inl hj)
            have hff := HFR.out.drew.trans hf6 (fun j hj => HGR.out j (by
              rcases hj with q | q
              · rw [q]; exact HQD.out.bF
              · exact HQD.out.iF _ q))
            have hgf := HGR.out.trans (grew_more F' wr.drew (w5.setCell ⟨b, 0, none⟩ (.slice A5 (L.length + 1) c5))) HFR.out.size
            have HFIN := hid hfin
            have HFF := hid hff
            have HGF := hid hgf
            clear hf6 hi6 hq6 hfin hff hgf
            go_wp2_with fail
            go_roundg (vals.length + 1 - (i + 1))
            case measure => rw [HN.out]; omega
            case rel => exact ⟨i + 1, _, _, by go_num, by omega, rfl, by rw [HST.out]; exact HFIN.out, HGF.out, HFF.out⟩
        · have hil : i = vals.length := by omega
          subst hil
          have ht : (loadI vals next).take vals.length = loadI vals next := List.take_of_length_le (by rw [loadI_len]; exact Nat.le_refl _)
          rw [ht] at hQ
          have kg : wr.cell? ⟨b, 2, none⟩ = some (.int .i64 s.gv) := by rw [cell_of_row _ b 2 _ _ _ hQ.blk]; rfl
          have hzg : wr.frozen? ⟨b, 2, none⟩ = false := by simp [World.frozen?, hQ.blk]
          have ww : IntKind.i64.wrap (next - 1) = next - 1 := wr64 (by have := HG.out; omega) (by have := HG.out; omega)
          have hf1 : Fr (fun k => k = b) wr (wr.setCell ⟨b, 2, none⟩ (.int .i64 (next - 1))) := Fr.setCell (S := fun k => k = b) (p := ⟨b, 2, none⟩) (Fr.refl _ _) (.inl rfl) _
          have hQ1 := hQ.turn (hf1.mono (fun k hk => .inl hk)) (blk_set' hQ.blk 2 (.int .i64 (next - 1))) (hQ.it.move (fun k hk => hf1.block k (hQ.it.lt hk) (fun q => hQ.iv_ne.1 (by rw [hk, q])))) (hQ.wp.move (fun k hk => hf1.block k (hQ.wp.lt hk) (fun q => hQ.iv_ne.2.1 (by rw [hk, q])))) (List.Sublist.refl _) (fun j hj => .inl hj) (fun j hj => .inl hj)
          have hfall := HFR.out.trans hf1 (fun j hj => HGR.out j (by rw [hj]; exact hQ.bF))
          have hgall := HGR.out.trans (grew_more F' wr (wr.setCell ⟨b, 2, none⟩ (.int .i64 (next - 1)))) HFR.out.size
          have HQ1 := hid hQ1
          have HFALL := hid hfall
          have HGALL := hid hgall
          clear hf1 hQ1 hfall hgall hQ HQ ht
          go_wp2_with fail
          go_ret
          exact ⟨by rw [HE.out]; rfl, ⟨_, by rw [HE.out]; exact ⟨[], _, _, HQ1.out, HWS.out⟩, HGALL.out⟩, HFALL.out⟩
end Go.Proofs.Ytmckdoiepmkbbaa

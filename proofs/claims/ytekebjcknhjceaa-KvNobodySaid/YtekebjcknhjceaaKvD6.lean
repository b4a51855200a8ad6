/- Walks of the document's store: Change. Conditions: the store reads as DsR says. -/
import Derived.Test.YtekebjcknhjceaaKvD5
import Derived.Deep.RegionLaw
namespace Go.Proofs.Ytekebjcknhjceaa
open Go.RowKit Go.Mine Go.Proofs.YtekebjcknhjceaaW.PrintWords
set_option linter.unusedVariables false
set_option linter.unusedSimpArgs false
def DChange (F : Nat → Prop) (w : World) (b1 : Nat) (L : List (Int × Int)) (pv : Value) (R : Int × KS) (e : Ending) (w' : World) : Prop :=
  e = .returned (.int .i64 R.1) ∧ ∃ F' I' qv' tv', DsR F' w' b1 L I' R.2.lk pv qv' tv' ∧ Grew F F' w ∧ R.2.ws = wsOf I' ∧ Fr F w w'
set_option maxRecDepth 100000 in
set_option maxHeartbeats 8000000 in
theorem dchange_any {F : Nat → Prop} {w : World} {b1 : Nat} {L : List (Int × Int)} {I : List WI} {pv qv tv : Value} {s : KS} (h : DsR F w b1 L I s.lk pv qv tv) (hws : s.ws = wsOf I) (hn : I.length ≤ 900) (hok : s.Ok) (n : Int) (c : Ch) :
    Calls Try.prog 36 #[.pointer (some ⟨b1, 0, none⟩), .int .i64 n, .agg #[.int .i64 c.kind, .int .i64 c.key, .int .u64 c.val]] w (DChange F w b1 L pv (s.change n c)) := by
  have hb0 : Below w.heap.size w (w.alloc (.cells #[.int .i64 c.kind, .int .i64 c.key, .int .u64 c.val] 60)) := (Below.refl _ _).alloc (Nat.le_refl _) _
  have hx0 : (w.alloc (.cells #[.int .i64 c.kind, .int .i64 c.key, .int .u64 c.val] 60)).heap[w.heap.size]? = some (.cells #[.int .i64 c.kind, .int .i64 c.key, .int .u64 c.val] 60 (0, 0)) := (MapKept.heap_alloc w _).1
  have hs0 : (w.alloc (.cells #[.int .i64 c.kind, .int .i64 c.key, .int .u64 c.val] 60)).heap.size = w.heap.size + 1 := by simp
  have ha := h.below hb0
  have ht := dtouch_any ha hws (by omega) hok.rk n c.key true
  have hlen := touch_len s n c.key true
  have hokt := hok.touch n c.key true
  rw [show s.ws.length = I.length by rw [hws]; simp [wsOf]] at hlen
  have hbx : ¬ F w.heap.size := fun q => by have := h.fb _ q; omega
  have HT := hid ht
  have HB0 := hid hb0
  have HX0 := hid hx0
  have HBX := hid hbx
  clear ht ha hb0 hx0 hbx
  have hF0 := h.fb
  clear h hws
  go_enter Try.func36, Try.ntmps36
  cases hz : ((s.touch n c.key true).1 != 0)
  · have h0 : (s.touch n c.key true).1 = 0 := by simpa using hz
    have htl := touch_list h0
    have hcg := change_good h0
    have hlo : (s.touch n c.key true).2.listOf n = s.listOf n := by unfold KS.listOf; rw [htl]; rfl
    rw [hlo] at hcg
    have HCG := hid hcg
    have H0 := hid h0
    clear hz h0 hlo hcg
    go_wp2_with fail
    generalize w.alloc (.cells #[.int .i64 c.kind, .int .i64 c.key, .int .u64 c.val] 60) = wa at *
    generalize hbxe : w.heap.size = bx at *
    refine HT.out.mono ?_
    rintro e w1 ⟨he, F1, I1, qv1, tv1, h1, g1, hw1, f1⟩
    subst he
    rw [H0.out]
    have hkeys := hokt.keys
    rw [hw1] at htl hlen hkeys
    rw [show (wsOf I1).length = I1.length by simp [wsOf]] at hlen
    have hx1 := f1.at_ HX0.out HBX.out
    have hfw : Fr F w w1 := ((Fr.of_below HB0.out (Nat.le_of_eq hbxe)).mono (fun _ q => q.elim)).trans f1 (fun i hi => .inl hi)
    have hgw : Grew F F1 w := fun i hi => (g1 i hi).imp id (fun q => Nat.le_trans (by rw [hbxe]; exact Nat.le_trans (Nat.le_of_eq hbxe.symm) HB0.out.size) q)
    rw [aget_ws] at htl
    cases hf : I1.find? (fun x => decide (x.n = n)) with
    | none => rw [hf] at htl; cases htl
    | some x =>
      rw [hf] at htl
      simp only [Option.map_some, Option.some.injEq, KW.mk.injEq] at htl
      obtain ⟨hxl, hxp⟩ := htl
      have hfd := dfind_any h1 (by omega) n
      have hfb : findB I1 n = some x.wb := by unfold findB; rw [hf]; rfl
      rw [hfb] at hfd
      obtain ⟨J1, J2, hJ, hxn⟩ := find_split hf
      subst hJ
      have hrw : RW x.l := by
        have := hokt.chs _ (aget_mem (A := (s.touch n c.key true).2.ws) (k := n) (v := ⟨x.l, x.p⟩) (by rw [hw1, aget_ws, hf]; rfl))
        exact this
      have hxle := hrw.len
      have HFD := hid hfd
      have HXL := hid hxl
      have HXP := hid hxp
      have HXN := hid hxn
      have H1 := hid h1
      have HW1 := hid hw1
      have HGW := hid hgw
      have HFW := hid hfw
      have HX1 := hid hx1
      have HKY := hid hkeys
      clear hfd hxl hxp hxn h1 hw1 hgw hfw g1 f1 hf hfb hrw hkeys HT HX0 hlen hs0 hx1
      go_wp2_with fail
      refine HFD.out.mono ?_
      rintro e w2 ⟨rfl, rfl⟩
      simp only [Option.map_some]
      go_wp2_with fail
      go_loopg [9] (x.l.length + 1) (fun m v wr => ∃ i : Nat, v = .int .i64 i ∧ i ≤ x.l.length ∧ m = x.l.length + 1 - i ∧ (∃ q, wr = w1.drewN q) ∧ ∀ j y, j < i → x.l[j]? = some y → (y.key == c.key) = false)
      case atStart => exact ⟨0, rfl, Nat.zero_le _, rfl, ⟨0, rfl⟩, fun j x hj => by omega⟩
      case round =>
        obtain ⟨i, rfl, hi, hm, ⟨q, hq⟩, hno⟩ := hrel
        have hbq : Below w1.heap.size w1 wr := by rw [hq]; exact bdn w1 q
        have HQ := hid hq
        have HN := hid hm
        have HNO := hid hno
        have HD := hid (H1.out.below hbq)
        have HX := hid ((hbq.block _ (Array.getElem?_eq_some_iff.1 HX1.out).1).trans HX1.out)
        have HBQ := hid hbq
        have hxw := HD.out.wk x (by simp)
        obtain ⟨A, cp, hv, hAc, hat⟩ := hxw.2.2.1.at_
        have c1 : wr.cell? ⟨x.wb, 1, none⟩ = some (.slice A x.l.length cp) := by rw [cell_of_row _ _ 1 _ _ _ hxw.2.1, ← hv]; rfl
        have e0 : wr.cell? ⟨bx, 0, none⟩ = some (.int .i64 c.kind) := by rw [cell_of_row _ _ 0 _ _ _ HX.out]; rfl
        have e1 : wr.cell? ⟨bx, 1, none⟩ = some (.int .i64 c.key) := by rw [cell_of_row _ _ 1 _ _ _ HX.out]; rfl
        have e2 : wr.cell? ⟨bx, 2, none⟩ = some (.int .u64 c.val) := by rw [cell_of_row _ _ 2 _ _ _ HX.out]; rfl
        have HAT := hid hat
        have HV := hid hv
        have HXW := hid hxw
        clear hm hno hq hbq hxw hv hat
        by_cases h1 : i < x.l.length
        · obtain ⟨y, hy⟩ : ∃ y, x.l[i]? = some y := ⟨_, List.getElem?_eq_getElem h1⟩
          obtain ⟨b, off, rfl, hb, hcc⟩ := HAT.out i y hy
          have k1 : wr.cell? ⟨b, off + i * 3 + 1, none⟩ = some (.int .i64 y.key) := hcc 1 _ rfl
          have HY := hid hy
          clear hcc hy
          cases q1 : (y.key == c.key)
          · go_wp2_with fail
            go_quiet (fail)
            go_wp2_with fail
            go_roundg (x.l.length + 1 - (i + 1))
            case measure => rw [HN.out]; omega
            case rel =>
              refine ⟨i + 1, by go_num, by omega, rfl, ⟨_, by rw [HQ.out]; exact drewN_two _ _ _⟩, fun j z hj hz => ?_⟩
              rcases Nat.lt_succ_iff_lt_or_eq.1 hj with hj | rfl
              · exact HNO.out j z hj hz
              · rw [HY.out] at hz; cases hz; exact q1
          · have hkc : y.key = c.key := by simpa using q1
            have hpc : putCh c x.l = x.l.set i c := by
              have : chAt c.key x.l = some i := by
                obtain ⟨hi2, he⟩ := List.getElem?_eq_some_iff.1 HY.out
                unfold chAt
                rw [List.findIdx?_eq_some_iff_getElem]
                refine ⟨hi2, by rw [he]; exact q1, fun j hj => ?_⟩
                rw [HNO.out j _ hj (List.getElem?_eq_getElem (by omega))]
                decide
              unfold putCh
              rw [this]
            have HPC := hid hpc
            obtain ⟨g, cp', hv', _, hgl, cells, hgc⟩ := Kd.R_form HXW.out.2.2.1 (by omega)
            rw [HV.out] at hv'
            injection hv' with a1 a2 a3
            injection a1 with a4
            injection a4 with a5 a6
            subst a5
            subst a6
            rw [Nat.zero_add] at k1
            have hi1 : (i : Int) < x.l.length := by omega
            have hi0 : (0 : Int) ≤ i := by omega
            clear hpc hkc a2 a3 hgl hgc
            go_wp2_with fail
            go_quiet (fail)
            go_wp2_with fail
            have h2 := HD.out.below (bdn wr nq)
            have hb2 : Below w1.heap.size w1 (wr.drewN nq) := HBQ.out.trans ⟨rfl, rfl, rfl, Nat.le_refl _, fun _ _ => rfl⟩
            have c1' : (wr.drewN nq).cell? ⟨x.wb, 1, none⟩ = some (.slice (some ⟨b, 0, none⟩) x.l.length cp) := c1
            have e0' : (wr.drewN nq).cell? ⟨bx, 0, none⟩ = some (.int .i64 c.kind) := e0
            have e1' : (wr.drewN nq).cell? ⟨bx, 1, none⟩ = some (.int .i64 c.key) := e1
            have e2' : (wr.drewN nq).cell? ⟨bx, 2, none⟩ = some (.int .u64 c.val) := e2
            generalize wr.drewN nq = w2 at *
            clear c1 e0 e1 e2 k1 HD HX HXW HBQ HQ
            go_still_tail 7, (by kernel_rfl)
            change wpList _ _ _ _ _ w2.drew
            have h3 := h2.below (bd1 w2)
            have hb3 : Below w1.heap.size w1 w2.drew := hb2.trans ⟨rfl, rfl, rfl, Nat.le_refl _, fun _ _ => rfl⟩
            clear c1' e0' e1' e2' h2 hb2
            generalize w2.drew = w3 at *
            have hx3 := h3.wk x (by simp)
            have hrow := hx3.2.2.1
            rw [HV.out] at hrow
            obtain ⟨co, hcl, hcM, hcc, _⟩ := Kd.R_elem hrow c (i : Int) (by omega) (by omega)
            have hcl3 : co.length = 3 := hcl
            refine Kd.R_store kch (w0 := w3) 0 rfl rfl 60 (.tmp 47) (.tmp 46) rfl 60 (i : Int) 0 x.l c (.agg #[.int .i64 c.kind, .int .i64 c.key, .int .u64 c.val]) (encCh c) co (fun _ => True) (fun _ => False) rfl (by simp [kch]) rfl rfl (by kernel_rfl) (by intro u hu; simp [encCh] at hu; rcases hu with rfl | rfl | rfl <;> rfl) hrow (by omega) (by omega) hcl hcc (by simp [kch, encCh]) ?_ (fun _ q => q.elim) (Below.refl _ _) ?_
            · show co.take 0 ++ encCh c ++ co.drop (0 + (encCh c).length) = encCh c
              simp [encCh, hcl3]
            · intro w4 hrow4 hb4 hg4
              have hr4 : ChRow w4 (.slice (some ⟨b, 0, none⟩) x.l.length cp) (x.l.set i c) := hrow4
              have hf4 : Fr (fun j => j = x.wb ∨ x.v.ownBlock = some j) w3 w4 := (Fr.of_grown hg4).mono (fun j hj => .inr (by rw [HV.out]; exact hj))
              have hb4' : w4.heap[x.wb]? = some (.cells #[.int .i64 x.n, .slice (some ⟨b, 0, none⟩) x.l.length cp, .bool false] 88 (0, 0)) := by
                have := (hg4.block _ (Array.getElem?_eq_some_iff.1 hx3.2.1).1 (fun q => by
                  have : (Value.slice (some ⟨b, 0, none⟩) x.l.length cp).ownBlock = some x.wb := q.symm
                  exact types_ne (hrow.typed _ this) ⟨_, hx3.2.1⟩ (by decide))).trans hx3.2.1
                rw [HXP.out, HV.out] at this
                exact this
              have hfin := h3.work hf4 hb4' hr4 (.inl (by rw [HV.out]))
              have hfr : Fr F w w4 := (HFW.out.trans ((Fr.of_below hb3 (Nat.le_refl _)).mono (fun _ q => q.elim)) (fun i hi => .inl hi)).trans hf4 (fun j hj => by
                rcases hj with q | q
                · exact HGW.out j (by rw [q]; exact hx3.1)
                · exact HGW.out j (hx3.2.2.2 j q))
              have hgr : Grew F (more F1 w3 w4) w := fun j hj => by
                rcases hj with q | q
                · exact HGW.out j q
                · exact .inr (Nat.le_trans (Nat.le_trans HFW.out.size hb3.size) q.1)
              have HFIN := hid hfin
              have HFR := hid hfr
              have HGR := hid hgr
              clear hfin hfr hgr h3 hb3 hx3 hrow hrow4 hr4 hf4 hb4' hb4 hg4 hcc hcM
              go_wp2_with fail
              go_ret
              unfold DChange
              rw [HCG.out]
              refine ⟨rfl, _, _, _, _, HFIN.out, HGR.out, ?_, HFR.out⟩
              show aput n ⟨putCh c (s.listOf n), false⟩ (s.touch n c.key true).2.ws = _
              rw [← HXL.out, HPC.out]
              exact aput_ws (by rw [HW1.out]; exact HKY.out) HW1.out HXN.out _ _ _
        · have hpc : putCh c x.l = x.l ++ [c] := by
            have : chAt c.key x.l = none := by
              unfold chAt
              rw [List.findIdx?_eq_none_iff]
              intro y hy
              obtain ⟨j, hj, rfl⟩ := List.mem_iff_getElem.1 hy
              exact HNO.out j _ (by omega) (List.getElem?_eq_getElem hj)
            unfold putCh
            rw [this]
          have HPC := hid hpc
          have h3 := HD.out.below (bd1 wr)
          have hx3 := h3.wk x (by simp)
          have hrow := hx3.2.2.1
          rw [HV.out] at hrow
          have hb3 : Below w1.heap.size w1 wr.drew := HBQ.out.trans ⟨rfl, rfl, rfl, Nat.le_refl _, fun _ _ => rfl⟩
          have H3 := hid h3
          have HX3 := hid hx3
          have HROW := hid hrow
          have HB3 := hid hb3
          have c1a : (wr.alloc (.cells #[.int .i64 c.kind, .int .i64 c.key, .int .u64 c.val] 60)).cell? ⟨x.wb, 1, none⟩ = some (.slice A x.l.length cp) := by rw [World.cell?_alloc_lt _ _ _ (World.block_lt_of_cell? _ _ c1)]; exact c1
          clear hpc h3 hx3 hrow hb3 HD HX HXW HBQ HQ HAT HNO HX1 HFD
          go_wp2_with fail
          go_region_law (refine Kd.R_append_step kch (w0 := wr.drew) 0 (by rfl) (.tmp 53) (.tmp 55) 32 60 _ 24 rfl Try.underlying32 info60 (by rfl) (by decide) (by decide) (.slice A x.l.length cp) x.l c (encCh c) (fun _ => True) (fun _ => False) (by simp [Act.eval, Act.put]) (by simp [Act.eval, Act.put]) rfl (fun _ q => q.elim) (fun _ _ => trivial) HROW.out (Below.refl _ _) (Nat.zero_le _) (by omega) ?_; intro v5 w5 ho5 hb5 hg5 hat5; have hb5' : w5.heap[x.wb]? = some (.cells #[.int .i64 x.n, .slice A x.l.length cp, .bool false] 88 (0, 0)) := (by have := (hg5.block _ (Array.getElem?_eq_some_iff.1 HX3.out.2.1).1 (fun q => types_ne (HROW.out.typed _ q.symm) ⟨_, HX3.out.2.1⟩ (by decide))).trans HX3.out.2.1; rw [HXP.out, HV.out] at this; exact this); have hc5 : w5.cell? ⟨x.wb, 1, none⟩ = some (.slice A x.l.length cp) := (by rw [cell_of_row w5 x.wb 1 _ _ _ hb5']; rfl); have hz5 : w5.frozen? ⟨x.wb, 1, none⟩ = false := (by simp [World.frozen?, hb5']); have HO5 := hid ho5; have HG5 := hid hg5; have HT5 := hid hat5; have HB5 := hid hb5'; clear ho5 hg5 hat5 hb5'; obtain ⟨A5, c5, hv5⟩ := Kd.R_slice HO5.out; rw [List.length_append, List.length_singleton] at hv5; subst hv5)
          all_goals
            have hs6 : Fr (fun j => j = x.wb ∨ x.v.ownBlock = some j) wr.drew (w5.setCell ⟨x.wb, 1, none⟩ (.slice A5 (x.l.length + 1) c5)) := Fr.setCell (p := ⟨x.wb, 1, none⟩) ((Fr.of_grown HG5.out).mono (fun j hj => .inr (by rw [HV.out]; exact hj))) (.inl (.inl rfl)) _
            have hb6 : (w5.setCell ⟨x.wb, 1, none⟩ (.slice A5 (x.l.length + 1) c5)).heap[x.wb]? = some (.cells #[.int .i64 x.n, .slice A5 (x.l.length + 1) c5, .bool false] 88 (0, 0)) := blk_set' HB5.out 1 _
            have hr6 : ChRow (w5.setCell ⟨x.wb, 1, none⟩ (.slice A5 (x.l.length + 1) c5)) (.slice A5 (x.l.length + 1) c5) (x.l ++ [c]) := ChRow.move HO5.out (fun k hk => Below.heap_setCell _ _ _ _ (fun q => by
              have q' : k = x.wb := q
              subst q'
              exact types_ne (ChRow.typed HO5.out _ hk) ⟨_, HB5.out⟩ (by decide)))
            have hfin := H3.out.work hs6 hb6 hr6 (by rw [HV.out]; exact HT5.out)
            have hfr : Fr F w (w5.setCell ⟨x.wb, 1, none⟩ (.slice A5 (x.l.length + 1) c5)) := (HFW.out.trans ((Fr.of_below HB3.out (Nat.le_refl _)).mono (fun _ q => q.elim)) (fun i hi => .inl hi)).trans hs6 (fun j hj => by
              rcases hj with q | q
              · exact HGW.out j (by rw [q]; exact HX3.out.1)
              · exact HGW.out j (HX3.out.2.2.2 j q))
            have hgr : Grew F (more F1 wr.drew (w5.setCell ⟨x.wb, 1, none⟩ (.slice A5 (x.l.length + 1) c5))) w := fun j hj => by
              rcases hj with q | q
              · exact HGW.out j q
              · exact .inr (Nat.le_trans (Nat.le_trans HFW.out.size HB3.out.size) q.1)
            have HFIN := hid hfin
            have HFR := hid hfr
            have HGR := hid hgr
            clear hfin hfr hgr hs6 hb6 hr6
            go_wp2_with fail
            go_ret
            unfold DChange
            rw [HCG.out]
            refine ⟨rfl, _, _, _, _, HFIN.out, HGR.out, ?_, HFR.out⟩
            show aput n ⟨putCh c (s.listOf n), false⟩ (s.touch n c.key true).2.ws = _
            rw [← HXL.out, HPC.out]
            exact aput_ws (by rw [HW1.out]; exact HKY.out) HW1.out HXN.out _ _ _
  · have h0 : (s.touch n c.key true).1 ≠ 0 := by simpa using hz
    have hcb := change_bad h0
    have HCB := hid hcb
    clear hcb h0
    go_wp2_with fail
    generalize w.alloc (.cells #[.int .i64 c.kind, .int .i64 c.key, .int .u64 c.val] 60) = wa at *
    refine HT.out.mono ?_
    rintro e w1 ⟨rfl, F1, I1, qv1, tv1, h1, g1, hw1, f1⟩
    have H1 := hid h1
    have HW1 := hid hw1
    have HG1 := hid g1
    have HF1 := hid f1
    clear h1 hw1 g1 f1
    go_wp2_with fail
    go_ret
    unfold DChange
    rw [HCB.out]
    exact ⟨rfl, F1, I1, qv1, tv1, H1.out, fun i hi => (HG1.out i hi).imp id (fun q => Nat.le_trans HB0.out.size q), HW1.out, ((Fr.of_below HB0.out (Nat.le_refl _)).mono (fun _ q => q.elim)).trans HF1.out (fun i hi => .inl hi)⟩
end Go.Proofs.Ytekebjcknhjceaa

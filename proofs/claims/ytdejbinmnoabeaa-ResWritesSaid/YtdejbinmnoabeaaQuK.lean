/- Walk of the queue: Commit. Conditions: the queue reads as QAt Zz says. -/
import Derived.Test.YtdejbinmnoabeaaQuJ
namespace Go.Mine
/-- The items that a work's puts make. -/
def newI : List Ch → Int → List It
  | [], _ => []
  | c :: cs, g => if c.kind == 3 then ⟨g + 1, c.val, 0⟩ :: newI cs (g + 1) else newI cs g
theorem newI_snoc (l : List Ch) (c : Ch) : ∀ g : Int, newI (l ++ [c]) g = newI l g ++ (if c.kind == 3 then [⟨g + putsL l + 1, c.val, 0⟩] else []) := by
  induction l with
  | nil => intro g; simp [newI, putsL]
  | cons x l ih =>
    intro g
    simp only [List.cons_append, newI, putsL]
    split
    · rw [ih]
      simp only [List.cons_append]
      congr 2
      split
      · congr 2; push_cast; omega
      · rfl
    · rw [ih]
      simp
theorem newI_len (l : List Ch) : ∀ g : Int, (newI l g).length = putsL l := by
  induction l with
  | nil => intro g; rfl
  | cons x l ih =>
    intro g
    simp only [newI, putsL]
    split
    · rw [List.length_cons, ih]; omega
    · rw [ih]; omega
def keptI (n : Int) (its : List It) : List It := its.filter (fun x => !(x.by_ == n))
def QS.commit (s : QS) (n : Int) : Int × QS :=
  if n < 1 then (1, s) else (0, ⟨keptI n s.its ++ newI (listOfW n s.ws) s.gv, adel n s.ws, s.gv + putsL (listOfW n s.ws)⟩)
end Go.Mine
namespace Go.Proofs.Ytdejbinmnoabeaa.Q
variable {Zz : QZ}
open Go.RowKit Go.Mine Go.Proofs.YtdejbinmnoabeaaW.PrintWords
set_option linter.unusedVariables false
set_option linter.unusedSimpArgs false
set_option maxRecDepth 100000 in
set_option maxHeartbeats 8000000 in
theorem commit_any {F : Nat → Prop} {w : World} {b : Nat} {s : QS} (h : QAt Zz F w b s) (hb : s.Bd) (n : Int) :
    Calls Try.prog 65 #[.pointer (some ⟨b, 34, none⟩), .int .i64 n] w (SPost Zz F w b (s.commit n).1 (s.commit n).2) := by
  have hb0 : Below w.heap.size w (w.alloc (.cells #[.int .i64 n] 3)) := (Below.refl _ _).alloc (Nat.le_refl _) _
  have hx0 : (w.alloc (.cells #[.int .i64 n] 3)).heap[w.heap.size]? = some (.cells #[.int .i64 n] 3 (0, 0)) := (MapKept.heap_alloc w _).1
  have ha0 := h.below hb0
  obtain ⟨I, iv, qv, hR, hws⟩ := h
  have hIl : I.length ≤ 1000 := by have := hb.ws; rw [hws] at this; simpa [wsOf] using this
  have hitl := hb.its
  have hg0 := hb.g0
  have hgt := hb.gt
  have ha := hR.below hb0
  have hbx : ¬ F w.heap.size := fun q => by have := hR.fb _ q; omega
  have hfw : Fr F w (w.alloc (.cells #[.int .i64 n] 3)) := (Fr.refl _ w).alloc _
  have hcx : (w.alloc (.cells #[.int .i64 n] 3)).cell? ⟨w.heap.size, 0, none⟩ = some (.int .i64 n) := by rw [cell_of_row _ _ 0 _ _ _ hx0]; rfl
  have hc : (w.alloc (.cells #[.int .i64 n] 3)).cell? ⟨b, 34, none⟩ = some iv := by rw [cell_of_row _ b 34 _ _ _ ha.blk]; exact qget0 _ _ _ _
  have hdel := del_it iv s.its n w.heap.size _ ha.it hcx (fun q => hbx (ha.iF _ q)) (by omega)
  have HDEL := hid hdel
  have HA := hid ha
  have HA0 := hid ha0
  have HFW := hid hfw
  have HWS := hid hws
  have HX0 := hid hx0
  have HBX := hid hbx
  have HSZ : Hid ((w.alloc (.cells #[.int .i64 n] 3)).heap.size = w.heap.size + 1) := hid (by simp)
  have HB := hid hb
  clear hb0 hx0 hR ha hfw hdel hws hbx ha0 hb
  go_enter Try.func65, Try.ntmps65
  go_wp2_with fail
  generalize w.alloc (.cells #[.int .i64 n] 3) = wa at *
  generalize w.heap.size = bx at *
  by_cases h1 : n < 1
  · have HE := hid (show s.commit n = (1, s) from by unfold QS.commit; rw [if_pos h1])
    refine (decided_any _ _ _).mono ?_
    rw [if_pos h1]
    rintro e w1 ⟨rfl, rfl⟩
    go_wp2_with fail
    go_ret
    exact ⟨by rw [HE.out]; rfl, ⟨F, by rw [HE.out]; exact HA0.out, Grew.refl _ _⟩, HFW.out⟩
  · have HE := hid (show s.commit n = (0, ⟨keptI n s.its ++ newI (listOfW n s.ws) s.gv, adel n s.ws, s.gv + putsL (listOfW n s.ws)⟩) from by unfold QS.commit; rw [if_neg h1])
    refine (decided_any _ _ _).mono ?_
    rw [if_neg (by omega)]
    rintro e w1 ⟨rfl, rfl⟩
    clear HA0
    go_wp2_with fail
    refine HDEL.out.mono ?_
    rintro e w2 ⟨v', rfl, hr2, ho2, hf2⟩
    obtain ⟨A2, c2, rfl, hc2, _⟩ := hr2.at_
    have hx2 : w2.heap[b]? = some (.cells (qCells Zz (iv) (qv) (s.gv)) 91 (0, 0)) := hf2.at_ HA.out.blk HA.out.iv_ne.1
    have hz2 : w2.frozen? ⟨b, 34, none⟩ = false := by simp [World.frozen?, hx2]
    have hcc2 : w2.cell? ⟨b, 34, none⟩ = some iv := by rw [cell_of_row w2 _ 34 _ _ _ hx2]; exact qget0 _ _ _ _
    have hkn : keptI n s.its = s.its.filter (fun x => !(x.by_ == n)) := rfl
    rw [← hkn] at hr2 hc2 ho2 ⊢
    have hkl : (keptI n s.its).length ≤ 100 := by have := List.length_filter_le (fun x => !(x.by_ == n)) s.its; rw [← hkn] at this; omega
    have hf3 : Fr (fun i => i = b ∨ iv.ownBlock = some i) wa (w2.setCell ⟨b, 34, none⟩ (.slice A2 (keptI n s.its).length c2)) := Fr.setCell (p := ⟨b, 34, none⟩) (hf2.mono (fun i hi => .inr hi)) (.inl (.inl rfl)) _
    have hi3 : FR eIt 108 (w2.setCell ⟨b, 34, none⟩ (.slice A2 (keptI n s.its).length c2)) (.slice A2 (keptI n s.its).length c2) (keptI n s.its) := hr2.move (fun k hk => Below.heap_setCell _ _ _ _ (fun q => by
      have q' : k = b := q
      subst q'
      rw [ho2] at hk
      exact HA.out.iv_ne.1 hk))
    have hq3 : FR eWI 105 (w2.setCell ⟨b, 34, none⟩ (.slice A2 (keptI n s.its).length c2)) qv I := HA.out.wp.move (fun k hk => hf3.block k (HA.out.wp.lt hk) (fun q => by
      rcases q with q | q
      · exact HA.out.iv_ne.2.1 (by rw [hk, q])
      · exact HA.out.iv_ne.2.2 k q hk))
    have hQ3 := HA.out.turn (hf3.mono (fun i hi => hi.imp id (fun q => .inl q))) (blk_q0 hx2 _) hi3 hq3 (List.Sublist.refl _) (fun j hj => .inl (ho2 ▸ hj)) (fun j hj => .inl hj)
    have hbx3 := hf3.at_ HX0.out (fun q => by
      rcases q with q | q
      · exact HBX.out (by rw [q]; exact HA.out.bF)
      · exact HBX.out (HA.out.iF _ q))
    have hfr3 : Fr F w (w2.setCell ⟨b, 34, none⟩ (.slice A2 (keptI n s.its).length c2)) := HFW.out.trans hf3 (fun i hi => .inl (by
      rcases hi with q | q
      · rw [q]; exact HA.out.bF
      · exact HA.out.iF _ q))
    have hgr3 := (grew_more F wa (w2.setCell ⟨b, 34, none⟩ (.slice A2 (keptI n s.its).length c2))).up HFW.out.size
    have hcx3 : (w2.setCell ⟨b, 34, none⟩ (.slice A2 (keptI n s.its).length c2)).cell? ⟨bx, 0, none⟩ = some (.int .i64 n) := by rw [cell_of_row _ _ 0 _ _ _ hbx3]; rfl
    have hfd := find_any hQ3 (by omega) n
    have hg := aget_ws n I
    rw [← HWS.out] at hg
    unfold findB at hfd
    have hnf3 : ¬ more F wa (w2.setCell ⟨b, 34, none⟩ (.slice A2 (keptI n s.its).length c2)) bx := fun q => q.elim HBX.out (fun q => by have h1 := q.1; have h2 := HSZ.out; omega)
    have HNF3 := hid hnf3
    have HQ3 := hid hQ3
    have HFR3 := hid hfr3
    have HGR3 := hid hgr3
    clear hx2 hkn hf3 hi3 hq3 hQ3 hnf3 hfr3 hgr3 hr2 ho2 hf2 HDEL HA HX0
    cases hq : I.find? (fun x => decide (x.n = n)) with
    | none =>
      rw [hq] at hfd hg
      simp only [Option.map_none] at hfd hg
      have hl0 : listOfW n s.ws = [] := by unfold listOfW; rw [hg]; rfl
      have HL0 := hid hl0
      have HFD := hid hfd
      have HG := hid (gone_any (s := ⟨keptI n s.its, s.ws, s.gv⟩) ⟨I, _, qv, HQ3.out, HWS.out⟩ (by show s.ws.length ≤ _; have := HB.out.ws; omega) n)
      clear hfd hg hq hl0
      go_wp2_with fail
      refine HFD.out.mono ?_
      rintro e w4 ⟨rfl, rfl⟩
      simp only [Option.map_none]
      go_wp2_with fail
      refine HG.out.mono ?_
      rintro e w5 ⟨rfl, ⟨F5, h5, g5⟩, f5⟩
      go_wp2_with fail
      go_ret
      refine ⟨by rw [HE.out]; rfl, ⟨F5, ?_, HGR3.out.trans g5 HFR3.out.size⟩, HFR3.out.trans f5 (fun j hj => HGR3.out j hj)⟩
      rw [HE.out, HL0.out]
      simpa [newI, putsL] using h5
    | some x =>
      have hxI := List.mem_of_find?_eq_some hq
      have hxle : x.l.length ≤ 1000 := HB.out.ls (x.n, ⟨x.l, x.p⟩) (by rw [HWS.out]; exact List.mem_map.2 ⟨x, hxI, rfl⟩)
      obtain ⟨A, cp, hv, hAc, _⟩ := (HQ3.out.wk x hxI).2.2.1.at_
      rw [hq] at hfd hg
      simp only [Option.map_some] at hfd hg
      have hl0 : listOfW n s.ws = x.l := by unfold listOfW; rw [hg]; rfl
      rw [hl0] at HE
      have HFD := hid hfd
      have HV := hid hv
      have HXI := hid hxI
      have kx : (w2.setCell ⟨b, 34, none⟩ (.slice A2 (keptI n s.its).length c2)).cell? ⟨x.wb, 1, none⟩ = some (.slice A x.l.length cp) := by rw [cell_of_row _ _ 1 _ _ _ (HQ3.out.wk x hxI).2.1, ← hv]; rfl
      clear hfd hg hq hl0 hv hxI
      go_wp2_with fail
      refine HFD.out.mono ?_
      rintro e w4 ⟨rfl, rfl⟩
      simp only [Option.map_some]
      go_wp2_with fail
      generalize (more F wa (w2.setCell ⟨b, 34, none⟩ (.slice A2 (keptI n s.its).length c2))) = F3 at *
      generalize w2.setCell ⟨b, 34, none⟩ (.slice A2 (keptI n s.its).length c2) = w3 at *
      have hp1000 : putsL x.l ≤ 1000 := by have := putsL_le x.l; omega
      clear kx hz2 hcc2 hc hcx HFD hcx3
      go_loopg [34] (x.l.length + 1) (fun m v wr => ∃ (i : Nat) (F' : Nat → Prop) (iv' : Value), v = .int .i64 i ∧ i ≤ x.l.length ∧ m = x.l.length + 1 - i ∧ QR Zz eIt T0 F' wr b (keptI n s.its ++ newI (x.l.take i) s.gv) I (s.gv + putsL (x.l.take i)) iv' qv ∧ Grew F F' w ∧ Fr F w wr ∧ wr.heap[bx]? = some (.cells #[.int .i64 n] 3 (0, 0)) ∧ ¬ F' bx)
      case atStart => exact ⟨0, F3, _, rfl, Nat.zero_le _, rfl, by simpa [newI, putsL] using HQ3.out, HGR3.out, HFR3.out, hbx3, HNF3.out⟩
      case round =>
        obtain ⟨i, F', iv', rfl, hi, hm, hQ, hgr, hfr, hbxr, hnf⟩ := hrel
        have HN := hid hm
        have HGR := hid hgr
        have HFR := hid hfr
        have HBXR := hid hbxr
        have HNF := hid hnf
        clear hm hgr hfr hbxr hnf HQ3 HFR3 HGR3 hbx3 HNF3
        by_cases h2 : i < x.l.length
        · obtain ⟨y, hy⟩ : ∃ y, x.l[i]? = some y := ⟨_, List.getElem?_eq_getElem h2⟩
          have hwk := hQ.wk x HXI.out
          obtain ⟨A', cp', hv', _, hat⟩ := hwk.2.2.1.at_
          rw [HV.out] at hv'
          injection hv' with q1 q2 q3
          rw [← q1] at hat
          obtain ⟨b', off, he, hbb, hcc⟩ := hat i y hy
          subst he
          have k0 : wr.cell? ⟨b', off + i * 3, none⟩ = some (.int .i64 y.kind) := hcc 0 _ rfl
          have k1 : wr.cell? ⟨b', off + i * 3 + 1, none⟩ = some (.int .i64 y.key) := hcc 1 _ rfl
          have k2 : wr.cell? ⟨b', off + i * 3 + 2, none⟩ = some (.int .u64 y.val) := hcc 2 _ rfl
          have hst : x.l.take (i + 1) = x.l.take i ++ [y] := by
            rw [List.take_succ_eq_append_getElem h2]
            congr 2
            exact (List.getElem?_eq_some_iff.1 hy).2
          have hns := newI_snoc (x.l.take i) y s.gv
          rw [← hst] at hns
          have hpt := putsL_take hy
          have hple : putsL (x.l.take i) ≤ 1000 := by have := putsL_le (x.l.take i); rw [List.length_take] at this; omega
          have hnl := newI_len (x.l.take i) s.gv
          have hba : Below wr.heap.size wr (wr.alloc (.cells #[.int .i64 y.kind, .int .i64 y.key, .int .u64 y.val] 62)) := (Below.refl _ _).alloc (Nat.le_refl _) _
          have hxa : (wr.alloc (.cells #[.int .i64 y.kind, .int .i64 y.key, .int .u64 y.val] 62)).heap[wr.heap.size]? = some (.cells #[.int .i64 y.kind, .int .i64 y.key, .int .u64 y.val] 62 (0, 0)) := (MapKept.heap_alloc wr _).1
          have hQa := hQ.below hba
          have hbxa := (hba.block _ (blk_lt HBXR.out)).trans HBXR.out
          have hfra := HFR.out.alloc (.cells #[.int .i64 y.kind, .int .i64 y.key, .int .u64 y.val] 62)
          have HQA := hid hQa
          have HNS := hid hns
          have HPT := hid hpt
          have HNL := hid hnl
          have HXA := hid hxa
          have HBXA := hid hbxa
          have HFRA := hid hfra
          clear hcc hy hat hwk q1 q2 q3 hst hns hpt hnl hba hxa hQa hbxa hfra
          have hblt := hQ.fb _ hQ.bF
          clear hQ
          generalize putsL (x.l.take i) = P at *
          generalize newI (x.l.take i) s.gv = NI at *
          cases q : (y.kind == 3)
          · go_wp2_with fail
            go_roundg (x.l.length + 1 - (i + 1))
            case measure => rw [HN.out]; omega
            case rel => exact ⟨i + 1, F', _, by go_num, by omega, rfl, by rw [HNS.out, HPT.out, q]; simpa using HQA.out, HGR.out, HFRA.out, HBXA.out, HNF.out⟩
          · have kg : (wr.alloc (.cells #[.int .i64 y.kind, .int .i64 y.key, .int .u64 y.val] 62)).cell? ⟨b, 36, none⟩ = some (.int .i64 (s.gv + P)) := by rw [cell_of_row _ b 36 _ _ _ HQA.out.blk]; exact qget2 _ _ _ _
            have hzg : (wr.alloc (.cells #[.int .i64 y.kind, .int .i64 y.key, .int .u64 y.val] 62)).frozen? ⟨b, 36, none⟩ = false := by simp [World.frozen?, HQA.out.blk]
            have ww : IntKind.i64.wrap (s.gv + (P : Int) + 1) = s.gv + P + 1 := wr64 (by omega) (by omega)
            have hf1 : Fr (fun k => k = b) (wr.alloc (.cells #[.int .i64 y.kind, .int .i64 y.key, .int .u64 y.val] 62)) ((wr.alloc (.cells #[.int .i64 y.kind, .int .i64 y.key, .int .u64 y.val] 62)).setCell ⟨b, 36, none⟩ (.int .i64 (s.gv + P + 1))) := Fr.setCell (S := fun k => k = b) (p := ⟨b, 36, none⟩) (Fr.refl _ _) (.inl rfl) _
            have hQ1 := HQA.out.turn (hf1.mono (fun k hk => .inl hk)) (blk_q2 HQA.out.blk (.int .i64 (s.gv + P + 1))) (HQA.out.it.move (fun k hk => hf1.block k (HQA.out.it.lt hk) (fun q => HQA.out.iv_ne.1 (by rw [hk, q])))) (HQA.out.wp.move (fun k hk => hf1.block k (HQA.out.wp.lt hk) (fun q => HQA.out.iv_ne.2.1 (by rw [hk, q])))) (List.Sublist.refl _) (fun j hj => .inl hj) (fun j hj => .inl hj)
            have hxz := hf1.at_ HXA.out (fun q => by omega)
            have hbz := hf1.at_ HBXA.out (fun q => HNF.out (by rw [q]; exact HQA.out.bF))
            have hnf2 : ¬ more F' (wr.alloc (.cells #[.int .i64 y.kind, .int .i64 y.key, .int .u64 y.val] 62)) ((wr.alloc (.cells #[.int .i64 y.kind, .int .i64 y.key, .int .u64 y.val] 62)).setCell ⟨b, 36, none⟩ (.int .i64 (s.gv + P + 1))) bx := fun q => q.elim HNF.out (fun q => by
              have h1 := q.1
              have h2 : (wr.alloc (.cells #[.int .i64 y.kind, .int .i64 y.key, .int .u64 y.val] 62)).heap.size = wr.heap.size + 1 := by simp
              have h3 := blk_lt HBXR.out
              omega)
            have hcm : ((wr.alloc (.cells #[.int .i64 y.kind, .int .i64 y.key, .int .u64 y.val] 62)).setCell ⟨b, 36, none⟩ (.int .i64 (s.gv + P + 1))) = ((wr.setCell ⟨b, 36, none⟩ (.int .i64 (s.gv + P + 1))).alloc (.cells #[.int .i64 y.kind, .int .i64 y.key, .int .u64 y.val] 62)) := World.setCell_alloc_past (.cells #[.int .i64 y.kind, .int .i64 y.key, .int .u64 y.val] 62) b 36 (.int .i64 (s.gv + P + 1)) hblt
            have hfz := HFRA.out.trans hf1 (fun j hj => HGR.out j (by rw [hj]; exact HQA.out.bF))
            have hgz := HGR.out.trans ((grew_more F' (wr.alloc (.cells #[.int .i64 y.kind, .int .i64 y.key, .int .u64 y.val] 62)) ((wr.alloc (.cells #[.int .i64 y.kind, .int .i64 y.key, .int .u64 y.val] 62)).setCell ⟨b, 36, none⟩ (.int .i64 (s.gv + P + 1)))).up (by simp : wr.heap.size ≤ (wr.alloc (.cells #[.int .i64 y.kind, .int .i64 y.key, .int .u64 y.val] 62)).heap.size)) HFR.out.size
            rw [hcm] at hQ1 hxz hbz hfz hgz hnf2
            have HNF2 := hid hnf2
            have HQ1 := hid hQ1
            have HXZ := hid hxz
            have HBZ := hid hbz
            have HFZ := hid hfz
            have HGZ := hid hgz
            clear hf1 hQ1 hxz hbz hfz hgz hnf2 hcm HXA HBXA HFRA
            go_wp2_with fail
            generalize (more F' (wr.alloc (.cells #[.int .i64 y.kind, .int .i64 y.key, .int .u64 y.val] 62)) ((wr.setCell ⟨b, 36, none⟩ (.int .i64 (s.gv + P + 1))).alloc (.cells #[.int .i64 y.kind, .int .i64 y.key, .int .u64 y.val] 62))) = F2 at *
            generalize ((wr.setCell ⟨b, 36, none⟩ (.int .i64 (s.gv + P + 1))).alloc (.cells #[.int .i64 y.kind, .int .i64 y.key, .int .u64 y.val] 62)) = wz at *
            generalize wr.heap.size = bo at *
            obtain ⟨A3, c3, hv3, hc3, _⟩ := HQ1.out.it.at_
            subst hv3
            have hll : (keptI n s.its ++ NI).length ≤ 2000 := by rw [List.length_append, HNL.out]; omega
            generalize hL : keptI n s.its ++ NI = L at *
            have z0 : wz.cell? ⟨b, 34, none⟩ = some (.slice A3 L.length c3) := by rw [cell_of_row _ b 34 _ _ _ HQ1.out.blk]; exact qget0 _ _ _ _
            have z2 : wz.cell? ⟨b, 36, none⟩ = some (.int .i64 (s.gv + P + 1)) := by rw [cell_of_row _ b 36 _ _ _ HQ1.out.blk]; exact qget2 _ _ _ _
            have zo : wz.cell? ⟨bo, 2, none⟩ = some (.int .u64 y.val) := by rw [cell_of_row _ bo 2 _ _ _ HXZ.out]; rfl
            have z0a : (wz.alloc (.cells #[.int .i64 (s.gv + P + 1), .int .u64 y.val, .int .i64 0] 108)).cell? ⟨b, 34, none⟩ = some (.slice A3 L.length c3) := by rw [World.cell?_alloc_lt _ _ _ (World.block_lt_of_cell? _ _ z0)]; exact z0
            have HQD := hid (HQ1.out.below (bd1 wz))
            go_region_law (refine Kd.R_append_step eIt.kd (w0 := wz.drew) 0 (by rfl) (.tmp 52) (.tmp 60) 84 108 _ 24 rfl Try.underlying84 info108 (by rfl) (by decide) (by decide) (.slice A3 L.length c3) L ⟨s.gv + P + 1, y.val, 0⟩ (encIt ⟨s.gv + P + 1, y.val, 0⟩) (fun _ => True) (fun _ => False) (by simp [Act.eval, Act.put]) (by simp [Act.eval, Act.put]) rfl (fun _ q => q.elim) (fun _ _ => trivial) HQD.out.it (Below.refl _ _) (Nat.zero_le _) (by omega) ?_; intro v5 w5 ho5 hb5 hg5 hat5; have hb5' : w5.heap[b]? = some (.cells (qCells Zz (.slice A3 L.length c3) (qv) ((s.gv + P + 1))) 91 (0, 0)) := (hg5.block _ (HQD.out.fb _ HQD.out.bF) (fun q => HQD.out.iv_ne.1 q.symm)).trans HQD.out.blk; have hc5 : w5.cell? ⟨b, 34, none⟩ = some (.slice A3 L.length c3) := (by rw [cell_of_row w5 b 34 _ _ _ hb5']; exact qget0 _ _ _ _); have hz5 : w5.frozen? ⟨b, 34, none⟩ = false := (by simp [World.frozen?, hb5']); have HO5 := hid ho5; have HG5 := hid hg5; have HT5 := hid hat5; have HB5 := hid hb5'; clear ho5 hg5 hat5 hb5'; obtain ⟨A5, c5, hv5⟩ := Kd.R_slice HO5.out; rw [List.length_append, List.length_singleton] at hv5; subst hv5)
            all_goals
              have hf6 : Fr (fun k => k = b ∨ (Value.slice A3 L.length c3).ownBlock = some k) wz.drew (w5.setCell ⟨b, 34, none⟩ (.slice A5 (L.length + 1) c5)) := Fr.setCell (p := ⟨b, 34, none⟩) ((Fr.of_grown HG5.out).mono (fun j hj => .inr hj)) (.inl (.inl rfl)) _
              have hi6 : FR eIt 108 (w5.setCell ⟨b, 34, none⟩ (.slice A5 (L.length + 1) c5)) (.slice A5 (L.length + 1) c5) (L ++ [⟨s.gv + P + 1, y.val, 0⟩]) := FR.move HO5.out (fun j hj => Below.heap_setCell _ _ _ _ (fun q => FR.ne HO5.out HB5.out (by decide) (by rw [hj]; exact congrArg some q)))
              have hq6 : FR eWI 105 (w5.setCell ⟨b, 34, none⟩ (.slice A5 (L.length + 1) c5)) qv I := HQD.out.wp.move (fun k hk => hf6.block k (HQD.out.wp.lt hk) (fun q => by
                rcases q with q | q
                · exact HQD.out.iv_ne.2.1 (by rw [hk, q])
                · exact HQD.out.iv_ne.2.2 k q hk))
              have hfin := HQD.out.turn (hf6.mono (fun k hk => hk.imp id (fun q => .inl q))) (blk_q0 HB5.out (.slice A5 (L.length + 1) c5)) hi6 hq6 (List.Sublist.refl _) (fun j hj => by
                rcases HT5.out with q | ⟨b', q, hb⟩
                · exact .inl (q ▸ hj)
                · rw [hj] at q; cases q; exact .inr hb) (fun j hj => .inl hj)
              have hbf := hf6.at_ (show wz.drew.heap[bx]? = _ from HBZ.out) (fun q => HNF2.out (by
                rcases q with q | q
                · rw [q]; exact HQD.out.bF
                · exact HQD.out.iF _ q))
              have hff := HFZ.out.drew.trans hf6 (fun j hj => HGZ.out j (by
                rcases hj with q | q
                · rw [q]; exact HQD.out.bF
                · exact HQD.out.iF _ q))
              have hgf := HGZ.out.trans (grew_more F2 wz.drew (w5.setCell ⟨b, 34, none⟩ (.slice A5 (L.length + 1) c5))) HFZ.out.size
              have HFIN := hid hfin
              have HBF := hid hbf
              have HFF := hid hff
              have HGF := hid hgf
              clear hf6 hi6 hq6 hfin hbf hff hgf
              go_wp2_with fail
              go_roundg (x.l.length + 1 - (i + 1))
              case measure => rw [HN.out]; omega
              case rel => exact ⟨i + 1, _, _, by go_num, by omega, rfl, by
                rw [HNS.out, HPT.out, q, ← List.append_assoc, hL]
                have h9 := HFIN.out
                simpa [Int.add_assoc] using h9, HGF.out, HFF.out, HBF.out, fun q => q.elim HNF2.out (fun q => by have h1 := q.1; have h3 := blk_lt HBZ.out; have h4 : wz.drew.heap.size = wz.heap.size := rfl; omega)⟩

        · have hil : i = x.l.length := by omega
          subst hil
          rw [List.take_length] at hQ
          have kbx : wr.cell? ⟨bx, 0, none⟩ = some (.int .i64 n) := by rw [cell_of_row _ _ 0 _ _ _ HBXR.out]; rfl
          have HG := hid (gone_any (s := ⟨keptI n s.its ++ newI x.l s.gv, s.ws, s.gv + putsL x.l⟩) ⟨I, _, qv, hQ, HWS.out⟩ (by show s.ws.length ≤ _; have := HB.out.ws; omega) n)
          clear hQ
          go_wp2_with fail
          refine HG.out.mono ?_
          rintro e w5 ⟨rfl, ⟨F5, h5, g5⟩, f5⟩
          go_wp2_with fail
          go_ret
          exact ⟨by rw [HE.out]; rfl, ⟨F5, by rw [HE.out]; exact h5, HGR.out.trans g5 HFR.out.size⟩, HFR.out.trans f5 (fun j hj => HGR.out j hj)⟩
end Go.Proofs.Ytdejbinmnoabeaa.Q

/- Walks of the document's queue: note, Put, Backout, Take. Conditions: the queue reads as DAt says. -/
import Derived.Test.YtmckdoiepmkbbaaQdC
namespace Go.Proofs.Ytmckdoiepmkbbaa
open Go.RowKit Go.Mine Go.Proofs.YtmckdoiepmkbbaaW.PrintWords
set_option linter.unusedVariables false
set_option linter.unusedSimpArgs false
set_option maxRecDepth 100000 in
set_option maxHeartbeats 8000000 in
theorem dnote_any {F : Nat → Prop} {w : World} {b : Nat} {s : QS} (h : DAt F w b s) (hb : s.Bd) (n : Int) (c : Ch) :
    Calls Try.prog 55 #[.pointer (some ⟨b, 0, none⟩), .int .i64 n, ChV c] w (DPost F w b (.tuple #[]) ⟨s.its, noteW n c s.ws, s.gv⟩) := by
  have hb0 : Below w.heap.size w (w.alloc (.cells #[.int .i64 c.kind, .int .i64 c.key, .int .u64 c.val] 43)) := (Below.refl _ _).alloc (Nat.le_refl _) _
  have hx0 : (w.alloc (.cells #[.int .i64 c.kind, .int .i64 c.key, .int .u64 c.val] 43)).heap[w.heap.size]? = some (.cells #[.int .i64 c.kind, .int .i64 c.key, .int .u64 c.val] 43 (0, 0)) := (MapKept.heap_alloc w _).1
  obtain ⟨I, iv, qv, hR, hws⟩ := h
  obtain ⟨hb1, hb2, hb3, hb4, hb5, hb6, hb7⟩ := hb
  have hIl : I.length ≤ 1000 := by rw [hws] at hb3; simpa [wsOf] using hb3
  have ha := hR.below hb0
  have hfd := dfind_any ha (by omega) n
  have hbx : ¬ F w.heap.size := fun q => by have := hR.fb _ q; omega
  have hg := aget_ws n I
  rw [← hws] at hg
  have hfw : Fr F w (w.alloc (.cells #[.int .i64 c.kind, .int .i64 c.key, .int .u64 c.val] 43)) := (Fr.refl _ w).alloc _
  have hlsI : ∀ x ∈ I, x.l.length ≤ 1000 := fun x hx => hb4 (x.n, ⟨x.l, x.p⟩) (by rw [hws]; exact List.mem_map.2 ⟨x, hx, rfl⟩)
  have hsz : (w.alloc (.cells #[.int .i64 c.kind, .int .i64 c.key, .int .u64 c.val] 43)).heap.size = w.heap.size + 1 := by simp
  unfold findB at hfd
  have HWS := hid hws
  have HX0 := hid hx0
  have HBX := hid hbx
  have HFW0 := hid hfw
  have HLS := hid hlsI
  have HKEYS := hid hb1
  have HA := hid ha
  have HSZ := hid hsz
  clear hx0 hbx hfw hlsI hb4 hws hR hb1 hb0 ha hsz
  go_enter Try.func55, Try.ntmps55
  cases hf : I.find? (fun x => decide (x.n = n)) with
  | some x =>
    obtain ⟨J1, J2, hJ, hxn, _⟩ := find_split hf
    rw [hf] at hfd hg
    simp only [Option.map_some] at hfd hg
    have hnw : ∀ v', noteW n c s.ws = wsOf (J1 ++ ⟨x.n, x.wb, v', x.l ++ [c], x.p⟩ :: J2) := fun v' => by
      unfold noteW
      rw [hg]
      exact aput_ws HKEYS.out (by rw [HWS.out, hJ]) hxn _ _ _
    have HNW := hid hnw
    have HFD := hid hfd
    have hxI : x ∈ I := List.mem_of_find?_eq_some hf
    have hxle := HLS.out x hxI
    subst hJ
    clear hfd hg hf hnw hxI
    go_wp2_with fail
    generalize (w.alloc (.cells #[.int .i64 c.kind, .int .i64 c.key, .int .u64 c.val] 43)) = wr at *
    generalize w.heap.size = bx at *
    refine HFD.out.mono ?_
    rintro e w1 ⟨rfl, rfl⟩
    simp only [Option.map_some]
    have HGW : Hid (Grew F F w) := hid (Grew.refl _ _)
    have HD := HA
    have HX := HX0
    have HFW := HFW0
    obtain ⟨A, cp, hv, hAc, hat⟩ := (HD.out.wk x (by simp)).2.2.1.at_
    have hx1 := (HD.out.wk x (by simp)).2.1
    rw [hv] at hx1
    have c1 : wr.cell? ⟨x.wb, 1, none⟩ = some (.slice A x.l.length cp) := by rw [cell_of_row _ _ 1 _ _ _ hx1]; rfl
    have e0 : wr.cell? ⟨bx, 0, none⟩ = some (.int .i64 c.kind) := by rw [cell_of_row _ _ 0 _ _ _ HX.out]; rfl
    have e1 : wr.cell? ⟨bx, 1, none⟩ = some (.int .i64 c.key) := by rw [cell_of_row _ _ 1 _ _ _ HX.out]; rfl
    have e2 : wr.cell? ⟨bx, 2, none⟩ = some (.int .u64 c.val) := by rw [cell_of_row _ _ 2 _ _ _ HX.out]; rfl
    have c1a : (wr.alloc (.cells #[.int .i64 c.kind, .int .i64 c.key, .int .u64 c.val] 43)).cell? ⟨x.wb, 1, none⟩ = some (.slice A x.l.length cp) := by rw [World.cell?_alloc_lt _ _ _ (World.block_lt_of_cell? _ _ c1)]; exact c1
    have hH3 := HD.out.below (bd1 wr)
    have hx3 := hH3.wk x (by simp)
    have hrow := hx3.2.2.1
    rw [hv] at hrow
    have H3 := hid hH3
    have HX3 := hid hx3
    have HROW := hid hrow
    have HV := hid hv
    have HB3 : Hid (Fr F w wr.drew) := hid HFW.out.drew
    clear hH3 hx3 hrow hat hx1 hv HD HX
    go_wp2_with fail
    go_region_law (refine Kd.R_append_step eCh.kd (w0 := wr.drew) 0 (by rfl) (.tmp 29) (.tmp 31) 38 43 _ 24 rfl Try.underlying38 info43 (by rfl) (by decide) (by decide) (.slice A x.l.length cp) x.l c (encCh c) (fun _ => True) (fun _ => False) (by simp [Act.eval, Act.put]) (by simp [Act.eval, Act.put]) rfl (fun _ q => q.elim) (fun _ _ => trivial) HROW.out (Below.refl _ _) (Nat.zero_le _) (by omega) ?_; intro v5 w5 ho5 hb5 hg5 hat5; have hb5' : w5.heap[x.wb]? = some (.cells #[.int .i64 x.n, .slice A x.l.length cp, .bool x.p] 87 (0, 0)) := (by have := (hg5.block _ (Array.getElem?_eq_some_iff.1 HX3.out.2.1).1 (fun q => types_ne (HROW.out.typed q.symm) ⟨_, HX3.out.2.1⟩ (by decide))).trans HX3.out.2.1; rw [HV.out] at this; exact this); have hc5 : w5.cell? ⟨x.wb, 1, none⟩ = some (.slice A x.l.length cp) := (by rw [cell_of_row w5 x.wb 1 _ _ _ hb5']; rfl); have hz5 : w5.frozen? ⟨x.wb, 1, none⟩ = false := (by simp [World.frozen?, hb5']); have HO5 := hid ho5; have HG5 := hid hg5; have HT5 := hid hat5; have HB5 := hid hb5'; clear ho5 hg5 hat5 hb5'; obtain ⟨A5, c5, hv5⟩ := Kd.R_slice HO5.out; rw [List.length_append, List.length_singleton] at hv5; subst hv5)
    all_goals
      have hs6 : Fr (fun j => j = x.wb ∨ x.v.ownBlock = some j) wr.drew (w5.setCell ⟨x.wb, 1, none⟩ (.slice A5 (x.l.length + 1) c5)) := Fr.setCell (p := ⟨x.wb, 1, none⟩) ((Fr.of_grown HG5.out).mono (fun j hj => .inr (by rw [HV.out]; exact hj))) (.inl (.inl rfl)) _
      have hb6 : (w5.setCell ⟨x.wb, 1, none⟩ (.slice A5 (x.l.length + 1) c5)).heap[x.wb]? = some (.cells #[.int .i64 x.n, .slice A5 (x.l.length + 1) c5, .bool x.p] 87 (0, 0)) := blk_set' HB5.out 1 _
      have hr6 : ChRow (w5.setCell ⟨x.wb, 1, none⟩ (.slice A5 (x.l.length + 1) c5)) (.slice A5 (x.l.length + 1) c5) (x.l ++ [c]) := FR.move HO5.out (fun k hk => Below.heap_setCell _ _ _ _ (fun q => by
        have q' : k = x.wb := q
        subst q'
        exact types_ne (FR.typed HO5.out hk) ⟨_, HB5.out⟩ (by decide)))
      have hfin := H3.out.work hs6 hb6 hr6 (by rw [HV.out]; exact HT5.out)
      have hfr : Fr F w (w5.setCell ⟨x.wb, 1, none⟩ (.slice A5 (x.l.length + 1) c5)) := HB3.out.trans hs6 (fun j hj => by
        rcases hj with q | q
        · exact HGW.out j (by rw [q]; exact HX3.out.1)
        · exact HGW.out j (HX3.out.2.2.2 j q))
      have hgr := HGW.out.trans (grew_more _ wr.drew (w5.setCell ⟨x.wb, 1, none⟩ (.slice A5 (x.l.length + 1) c5))) HB3.out.size
      have HFIN := hid hfin
      have HFR := hid hfr
      have HGR := hid hgr
      clear hfin hfr hgr hs6 hb6 hr6
      go_wp2_with fail
      go_end0
      exact ⟨rfl, ⟨_, ⟨_, _, _, HFIN.out, HNW.out _⟩, HGR.out⟩, HFR.out⟩
  | none =>
    rw [hf] at hfd hg
    simp only [Option.map_none] at hfd hg
    have HFD := hid hfd
    have hnw : ∀ wb v', noteW n c s.ws = wsOf (I ++ ⟨n, wb, v', [] ++ [c], false⟩ :: []) := fun wb v' => by
      unfold noteW
      rw [hg, HWS.out]
      simp [wsOf]
    have HNW0 := hid hnw
    clear hfd hg hf hnw
    go_wp2_with fail
    generalize (w.alloc (.cells #[.int .i64 c.kind, .int .i64 c.key, .int .u64 c.val] 43)) = wa at *
    obtain ⟨bx, hbxe⟩ : ∃ bx, bx = w.heap.size := ⟨_, rfl⟩
    rw [← hbxe] at HX0 HBX HSZ ⊢
    refine HFD.out.mono ?_
    rintro e w1 ⟨rfl, rfl⟩
    simp only [Option.map_none]
    obtain ⟨Aq, cq, rfl, hAq, _⟩ := HA.out.wp.at_
    have hb3 : Below wa.heap.size wa (wa.alloc (.cells #[.int .i64 n, .slice none 0 0, .bool false] 87)) := (Below.refl _ _).alloc (Nat.le_refl _) _
    have hy3 : (wa.alloc (.cells #[.int .i64 n, .slice none 0 0, .bool false] 87)).heap[wa.heap.size]? = some (.cells #[.int .i64 n, .slice none 0 0, .bool false] 87 (0, 0)) := (MapKept.heap_alloc wa _).1
    have hR3 := HA.out.below hb3
    have hw3 : Fr (fun _ => False) wa (wa.alloc (.cells #[.int .i64 n, .slice none 0 0, .bool false] 87)) := (Fr.refl _ wa).alloc _
    have hc3 : (wa.alloc (.cells #[.int .i64 n, .slice none 0 0, .bool false] 87)).cell? ⟨b, 1, none⟩ = some (.slice Aq I.length cq) := by rw [cell_of_row _ b 1 _ _ _ hR3.blk]; rfl
    have HY3 := hid hy3
    have HR3 := hid hR3
    have HW3 := hid hw3
    have hwlt := HA.out.fb _ HA.out.bF
    clear hb3 hy3 hR3 hw3 HFD hbxe
    go_wp2_with (at_builtin; go_loud (refine Kd.R_append eWI.kd (w0 := (wa.alloc (.cells #[.int .i64 n, .slice none 0 0, .bool false] 87))) 0 rfl (.tmp 19) (.tmp 21) 53 59 _ 8 rfl Try.underlying53 info59 (by rfl) (by decide) (by decide) (.slice Aq I.length cq) I ⟨n, wa.heap.size, .slice none 0 0, [], false⟩ [ptrV wa.heap.size] (fun _ => True) (fun _ => False) rfl (by first | rfl | (simp; rfl)) rfl (fun _ q => q.elim) (fun _ _ => trivial) HR3.out.wp (Below.refl _ _) (Nat.zero_le _) (by omega) ?_); intro v8 w8 ho8 hb8 hg8 hat8; have hx8 : w8.heap[b]? = some (.cells #[iv, .slice Aq I.length cq, .int .i64 s.gv] 55 (0, 0)) := (hg8.block _ (HR3.out.fb _ HR3.out.bF) (fun q => HR3.out.iv_ne.2.1 q.symm)).trans HR3.out.blk; have hz8 : w8.frozen? ⟨b, 1, none⟩ = false := (by simp [World.frozen?, hx8]); have hc8 : w8.cell? ⟨b, 1, none⟩ = some (.slice Aq I.length cq) := (by rw [cell_of_row w8 _ 1 _ _ _ hx8]; rfl); have HO8 := hid ho8; have HX8 := hid hx8; have HG8 := hid hg8; have HAT8 := hid hat8; clear ho8 hb8 hg8 hat8 hx8; obtain ⟨A8, c8, hv8⟩ := Kd.R_slice HO8.out; rw [List.length_append, List.length_singleton] at hv8; subst hv8)
    have hf8 : Fr (fun i => i = b ∨ (Value.slice Aq I.length cq).ownBlock = some i) (wa.alloc (.cells #[.int .i64 n, .slice none 0 0, .bool false] 87)) (w8.setCell ⟨b, 1, none⟩ (.slice A8 (I.length + 1) c8)) := Fr.setCell (p := ⟨b, 1, none⟩) ((Fr.of_grown HG8.out).mono (fun j hj => .inr hj)) (.inl (.inl rfl)) _
    have hfw : Fr (fun i => i = b ∨ (Value.slice Aq I.length cq).ownBlock = some i) wa (w8.setCell ⟨b, 1, none⟩ (.slice A8 (I.length + 1) c8)) := (HW3.out.mono (fun i hi => hi.elim)).trans hf8 (fun i hi => .inl hi)
    have hi8 : FR eD 85 (w8.setCell ⟨b, 1, none⟩ (.slice A8 (I.length + 1) c8)) iv s.its := HA.out.it.move (fun k hk => hfw.block k (HA.out.it.lt hk) (fun q => by
      rcases q with q | q
      · exact HA.out.iv_ne.1 (by rw [hk, q])
      · exact HA.out.iv_ne.2.2 k hk q))
    have hq8 : FR eWI 59 (w8.setCell ⟨b, 1, none⟩ (.slice A8 (I.length + 1) c8)) (.slice A8 (I.length + 1) c8) (I ++ [⟨n, wa.heap.size, .slice none 0 0, [], false⟩]) := by
      have h0 : FR eWI 59 w8 (.slice A8 (I.length + 1) c8) (I ++ [⟨n, wa.heap.size, .slice none 0 0, [], false⟩]) := HO8.out
      exact h0.move (fun j hj => Below.heap_setCell _ _ _ _ (fun q => h0.ne HX8.out (by decide) (by rw [hj]; exact congrArg some q)))
    have hyk := hf8.at_ HY3.out (fun q => by
      rcases q with q | q
      · have := hwlt; omega
      · have := HA.out.wp.lt q; omega)
    have hfin := HA.out.addw (y := ⟨n, wa.heap.size, .slice none 0 0, [], false⟩) (hfw.mono (fun i hi => hi.imp id (fun q => .inr q))) (blk_set' HX8.out 1 (.slice A8 (I.length + 1) c8)) hi8 hq8 hyk (Nat.le_refl _) (FR.nil _ _ _) (fun k hk => by simp [Value.ownBlock] at hk) (fun j hj => by
      rcases HAT8.out with q | ⟨b', q, hb⟩
      · exact .inl (q ▸ hj)
      · rw [hj] at q; cases q; exact .inr (Nat.le_trans HW3.out.size hb))
    have hx9 : (w8.setCell ⟨b, 1, none⟩ (.slice A8 (I.length + 1) c8)).heap[bx]? = some (.cells #[.int .i64 c.kind, .int .i64 c.key, .int .u64 c.val] 43 (0, 0)) := hfw.at_ HX0.out (fun q => by
      rcases q with q | q
      · exact HBX.out (by rw [q]; exact HA.out.bF)
      · exact HBX.out (HA.out.qF _ q))
    have hfr9 : Fr F w (w8.setCell ⟨b, 1, none⟩ (.slice A8 (I.length + 1) c8)) := HFW0.out.trans hfw (fun j hj => .inl (by
      rcases hj with q | q
      · rw [q]; exact HA.out.bF
      · exact HA.out.qF _ q))
    have hgw9 := (grew_more F wa (w8.setCell ⟨b, 1, none⟩ (.slice A8 (I.length + 1) c8))).up HFW0.out.size
    obtain ⟨x, hxe⟩ : ∃ x : WI, x = ⟨n, wa.heap.size, .slice none 0 0, [], false⟩ := ⟨_, rfl⟩
    have hxw : wa.heap.size = x.wb := by rw [hxe]
    have hnw : ∀ v', noteW n c s.ws = wsOf (I ++ ⟨x.n, x.wb, v', x.l ++ [c], x.p⟩ :: []) := fun v' => by rw [hxe]; exact HNW0.out _ v'
    have hxle : x.l.length ≤ 1000 := by rw [hxe]; simp
    rw [← hxe] at hfin
    have HD := hid hfin
    have HX := hid hx9
    have HFW := hid hfr9
    have HGW := hid hgw9
    have HNW := hid hnw
    rw [hxw]
    generalize (more F wa (w8.setCell ⟨b, 1, none⟩ (.slice A8 (I.length + 1) c8))) = F2 at *
    clear hf8 hfw hi8 hq8 hyk hfin hx9 hfr9 hgw9 hnw HO8 HX8 HG8 HAT8 HA HR3 HY3 HW3 hc3 hz8 hc8 HX0 HFW0 HNW0 hxe hxw hwlt
    generalize (w8.setCell ⟨b, 1, none⟩ (.slice A8 (I.length + 1) c8)) = wr at *
    obtain ⟨A, cp, hv, hAc, hat⟩ := (HD.out.wk x (by simp)).2.2.1.at_
    have hx1 := (HD.out.wk x (by simp)).2.1
    rw [hv] at hx1
    have c1 : wr.cell? ⟨x.wb, 1, none⟩ = some (.slice A x.l.length cp) := by rw [cell_of_row _ _ 1 _ _ _ hx1]; rfl
    have e0 : wr.cell? ⟨bx, 0, none⟩ = some (.int .i64 c.kind) := by rw [cell_of_row _ _ 0 _ _ _ HX.out]; rfl
    have e1 : wr.cell? ⟨bx, 1, none⟩ = some (.int .i64 c.key) := by rw [cell_of_row _ _ 1 _ _ _ HX.out]; rfl
    have e2 : wr.cell? ⟨bx, 2, none⟩ = some (.int .u64 c.val) := by rw [cell_of_row _ _ 2 _ _ _ HX.out]; rfl
    have c1a : (wr.alloc (.cells #[.int .i64 c.kind, .int .i64 c.key, .int .u64 c.val] 43)).cell? ⟨x.wb, 1, none⟩ = some (.slice A x.l.length cp) := by rw [World.cell?_alloc_lt _ _ _ (World.block_lt_of_cell? _ _ c1)]; exact c1
    have hH3 := HD.out.below (bd1 wr)
    have hx3 := hH3.wk x (by simp)
    have hrow := hx3.2.2.1
    rw [hv] at hrow
    have H3 := hid hH3
    have HX3 := hid hx3
    have HROW := hid hrow
    have HV := hid hv
    have HB3 : Hid (Fr F w wr.drew) := hid HFW.out.drew
    clear hH3 hx3 hrow hat hx1 hv HD HX
    go_wp2_with fail
    go_region_law (refine Kd.R_append_step eCh.kd (w0 := wr.drew) 0 (by rfl) (.tmp 29) (.tmp 31) 38 43 _ 24 rfl Try.underlying38 info43 (by rfl) (by decide) (by decide) (.slice A x.l.length cp) x.l c (encCh c) (fun _ => True) (fun _ => False) (by simp [Act.eval, Act.put]) (by simp [Act.eval, Act.put]) rfl (fun _ q => q.elim) (fun _ _ => trivial) HROW.out (Below.refl _ _) (Nat.zero_le _) (by omega) ?_; intro v5 w5 ho5 hb5 hg5 hat5; have hb5' : w5.heap[x.wb]? = some (.cells #[.int .i64 x.n, .slice A x.l.length cp, .bool x.p] 87 (0, 0)) := (by have := (hg5.block _ (Array.getElem?_eq_some_iff.1 HX3.out.2.1).1 (fun q => types_ne (HROW.out.typed q.symm) ⟨_, HX3.out.2.1⟩ (by decide))).trans HX3.out.2.1; rw [HV.out] at this; exact this); have hc5 : w5.cell? ⟨x.wb, 1, none⟩ = some (.slice A x.l.length cp) := (by rw [cell_of_row w5 x.wb 1 _ _ _ hb5']; rfl); have hz5 : w5.frozen? ⟨x.wb, 1, none⟩ = false := (by simp [World.frozen?, hb5']); have HO5 := hid ho5; have HG5 := hid hg5; have HT5 := hid hat5; have HB5 := hid hb5'; clear ho5 hg5 hat5 hb5'; obtain ⟨A5, c5, hv5⟩ := Kd.R_slice HO5.out; rw [List.length_append, List.length_singleton] at hv5; subst hv5)
    all_goals
      have hs6 : Fr (fun j => j = x.wb ∨ x.v.ownBlock = some j) wr.drew (w5.setCell ⟨x.wb, 1, none⟩ (.slice A5 (x.l.length + 1) c5)) := Fr.setCell (p := ⟨x.wb, 1, none⟩) ((Fr.of_grown HG5.out).mono (fun j hj => .inr (by rw [HV.out]; exact hj))) (.inl (.inl rfl)) _
      have hb6 : (w5.setCell ⟨x.wb, 1, none⟩ (.slice A5 (x.l.length + 1) c5)).heap[x.wb]? = some (.cells #[.int .i64 x.n, .slice A5 (x.l.length + 1) c5, .bool x.p] 87 (0, 0)) := blk_set' HB5.out 1 _
      have hr6 : ChRow (w5.setCell ⟨x.wb, 1, none⟩ (.slice A5 (x.l.length + 1) c5)) (.slice A5 (x.l.length + 1) c5) (x.l ++ [c]) := FR.move HO5.out (fun k hk => Below.heap_setCell _ _ _ _ (fun q => by
        have q' : k = x.wb := q
        subst q'
        exact types_ne (FR.typed HO5.out hk) ⟨_, HB5.out⟩ (by decide)))
      have hfin := H3.out.work hs6 hb6 hr6 (by rw [HV.out]; exact HT5.out)
      have hfr : Fr F w (w5.setCell ⟨x.wb, 1, none⟩ (.slice A5 (x.l.length + 1) c5)) := HB3.out.trans hs6 (fun j hj => by
        rcases hj with q | q
        · exact HGW.out j (by rw [q]; exact HX3.out.1)
        · exact HGW.out j (HX3.out.2.2.2 j q))
      have hgr := HGW.out.trans (grew_more _ wr.drew (w5.setCell ⟨x.wb, 1, none⟩ (.slice A5 (x.l.length + 1) c5))) HB3.out.size
      have HFIN := hid hfin
      have HFR := hid hfr
      have HGR := hid hgr
      clear hfin hfr hgr hs6 hb6 hr6
      go_wp2_with fail
      go_end0
      exact ⟨rfl, ⟨_, ⟨_, _, _, HFIN.out, HNW.out _⟩, HGR.out⟩, HFR.out⟩
theorem dput_any {F : Nat → Prop} {w : World} {b : Nat} {s : QS} (h : DAt F w b s) (hb : s.Bd) (n v : Int) :
    Calls Try.prog 40 #[.pointer (some ⟨b, 0, none⟩), .int .i64 n, .int .u64 v] w (DPost F w b (.int .i64 (s.put n v).1) (s.put n v).2) := by
  have hf := dmay_any h (by have := hb.ws; omega) n
  have hr := droom_any h hb
  have HF := hid hf
  have HRM := hid hr
  have H := hid h
  have HB := hid hb
  clear hf hr h hb
  go_enter Try.func40, Try.ntmps40
  by_cases h1 : s.fit n = 0
  · by_cases h2 : s.room < 1
    · have HE := hid (show s.put n v = (5, s) from by unfold QS.put; rw [if_neg (by simp [h1]), if_pos h2])
      have h2' : s.room ≤ 0 := by omega
      clear h2
      go_wp2_with fail
      refine HF.out.mono ?_
      rintro e w1 ⟨rfl, rfl⟩
      rw [h1]
      go_wp2_with fail
      refine HRM.out.mono ?_
      rintro e w2 ⟨rfl, q2, rfl⟩
      go_wp2_with fail
      go_ret
      exact ⟨by rw [HE.out]; rfl, ⟨F, by rw [HE.out]; exact H.out.below (bdN _ _), Grew.refl _ _⟩, (Fr.refl _ _).drewN _⟩
    · have HE := hid (show s.put n v = (0, ⟨s.its, noteW n ⟨3, 0, v⟩ s.ws, s.gv⟩) from by unfold QS.put; rw [if_neg (by simp [h1]), if_neg h2])
      have h2' : 0 < s.room := by omega
      clear h2
      go_wp2_with fail
      refine HF.out.mono ?_
      rintro e w1 ⟨rfl, rfl⟩
      rw [h1]
      go_wp2_with fail
      refine HRM.out.mono ?_
      rintro e w2 ⟨rfl, q2, hw2⟩
      have f2 : Below w.heap.size w w2 := by rw [hw2]; exact bdN _ _
      clear hw2
      have HNT := hid (dnote_any (H.out.below f2) HB.out n ⟨3, 0, v⟩)
      go_wp2_with fail
      refine HNT.out.mono ?_
      rintro e w3 ⟨rfl, ⟨F3, h3, g3⟩, f3⟩
      go_wp2_with fail
      go_ret
      exact ⟨by rw [HE.out]; rfl, ⟨F3, by rw [HE.out]; exact h3, g3.up f2.size⟩, ((Fr.of_below f2 (Nat.le_refl _)).mono (fun _ q => q.elim)).trans f3 (fun i hi => .inl hi)⟩
  · have HE := hid (show s.put n v = (s.fit n, s) from by unfold QS.put; rw [if_pos h1])
    have hz : (s.fit n == 0) = false := by simpa using h1
    go_wp2_with fail
    refine HF.out.mono ?_
    rintro e w1 ⟨rfl, rfl⟩
    go_wp2_with fail
    go_ret
    exact ⟨by rw [HE.out]; rfl, ⟨F, by rw [HE.out]; exact H.out, Grew.refl _ _⟩, Fr.refl _ _⟩
theorem encD_free (n : Int) (L : List It) : L.map encD = (L.map (freeI n)).map encD := by
  rw [List.map_map]
  apply List.map_congr_left
  intro x _
  simp only [Function.comp_apply, freeI]
  split <;> rfl
theorem encD_set {L : List It} {i : Nat} {x : It} (hx : L[i]? = some x) (n : Int) : L.map encD = (L.set i ⟨x.num, x.val, n⟩).map encD := by
  apply List.ext_getElem?
  intro j
  rw [List.getElem?_map, List.getElem?_map, List.getElem?_set]
  by_cases h : i = j
  · subst h
    rw [if_pos rfl, if_pos (List.getElem?_eq_some_iff.1 hx).1, hx]
    rfl
  · rw [if_neg h]
theorem dbackout_any {F : Nat → Prop} {w : World} {b : Nat} {s : QS} (h : DAt F w b s) (hb : s.Bd) (n : Int) :
    Calls Try.prog 44 #[.pointer (some ⟨b, 0, none⟩), .int .i64 n] w (DPost F w b (.int .i64 (s.backout n).1) (s.backout n).2) := by
  have HD := hid (ddrop_any h hb.ws n)
  have H := hid h
  clear h hb
  go_enter Try.func44, Try.ntmps44
  by_cases h1 : n < 1
  · have HE := hid (show s.backout n = (1, s) from by unfold QS.backout; rw [if_pos h1])
    go_wp2_with fail
    go_ret
    exact ⟨by rw [HE.out]; rfl, ⟨F, by rw [HE.out]; exact H.out, Grew.refl _ _⟩, Fr.refl _ _⟩
  · have HE := hid (show s.backout n = (0, ⟨s.its.map (freeI n), adel n s.ws, s.gv⟩) from by unfold QS.backout; rw [if_neg h1])
    go_wp2_with fail
    refine HD.out.mono ?_
    rintro e w1 ⟨rfl, ⟨F1, h1, g1⟩, f1⟩
    go_wp2_with fail
    go_ret
    exact ⟨by rw [HE.out]; rfl, ⟨F1, by rw [HE.out]; exact h1.its (encD_free n s.its), g1⟩, f1⟩
set_option maxRecDepth 100000 in
set_option maxHeartbeats 4000000 in
theorem dtake_any {F : Nat → Prop} {w : World} {b : Nat} {s : QS} (h : DAt F w b s) (hok : s.Ok) (n : Int) :
    Calls Try.prog 41 #[.pointer (some ⟨b, 0, none⟩), .int .i64 n] w (DPost F w b (.tuple #[.int .u64 (s.take n).1.1, .int .i64 (s.take n).1.2]) (s.take n).2) := by
  have hb := hok.bd
  have HF := hid (dmay_any h (by have := hb.ws; omega) n)
  have H := hid h
  have HOK := hid hok
  have hil := hok.sz
  obtain ⟨I, iv, qv, hR, hws⟩ := h
  obtain ⟨A, c, hiv, hAc, hat⟩ := hR.it.at_
  have hc : w.cell? ⟨b, 0, none⟩ = some (.slice A s.its.length c) := by rw [cell_of_row w b 0 _ _ _ hR.blk, ← hiv]; rfl
  have HAT : Hid (RowAt encD 2 w w.heap.size A s.its) := hid hat
  have hlt := hR.fb
  have HLT := hid hlt
  have HBD := hid hb
  clear hat hR hws hiv hlt hok hb
  go_enter Try.func41, Try.ntmps41
  by_cases hf : s.fit n = 0
  · have hn := (fit_pos hf).1
    go_wp2_with fail
    refine HF.out.mono ?_
    rintro e w1 ⟨rfl, rfl⟩
    rw [hf]
    clear HF
    go_wp2_with fail
    go_loopg [7] (s.its.length + 1) (fun m v7 wr => ∃ i : Nat, v7 = .int .i64 i ∧ i ≤ s.its.length ∧ m = s.its.length + 1 - i ∧ (∀ j x, j < i → s.its[j]? = some x → x.by_ = n) ∧ Below w.heap.size w wr)
    case atStart => exact ⟨0, rfl, Nat.zero_le _, rfl, fun j x hj => by omega, Below.refl _ _⟩
    case round =>
      obtain ⟨i, rfl, hi, hm, hno, hbl⟩ := hrel
      have HN := hid hm
      have HNO := hid hno
      have hcr : wr.cell? ⟨b, 0, none⟩ = some (.slice A s.its.length c) := (hbl.cell (World.block_lt_of_cell? _ _ hc)).trans hc
      clear hm hno
      by_cases h1 : i < s.its.length
      · obtain ⟨x, hx⟩ : ∃ x, s.its[i]? = some x := ⟨_, List.getElem?_eq_getElem h1⟩
        obtain ⟨b', off, rfl, hbb, hcc⟩ := HAT.out i x hx
        have i0 : w.cell? ⟨b', off + i * 2, none⟩ = some (.int .i64 x.num) := hcc 0 _ rfl
        have i1 : w.cell? ⟨b', off + i * 2 + 1, none⟩ = some (.int .u64 x.val) := hcc 1 _ rfl
        have m0 := (hbl.cell (World.block_lt_of_cell? _ _ i0)).trans i0
        have m1 := (hbl.cell (World.block_lt_of_cell? _ _ i1)).trans i1
        have hba : Below w.heap.size w (wr.alloc (.cells #[.int .i64 x.num, .int .u64 x.val] 85)) := hbl.alloc hbl.size _
        have hx1 : (wr.alloc (.cells #[.int .i64 x.num, .int .u64 x.val] 85)).heap[wr.heap.size]? = some (.cells #[.int .i64 x.num, .int .u64 x.val] 85 (0, 0)) := (MapKept.heap_alloc wr _).1
        have htk := HOK.out.taker (List.mem_of_getElem? hx)
        have HT := hid (dtaker_any (H.out.below hba) HBD.out x.num)
        rw [htk] at HT
        have HX := hid hx
        have HX1 := hid hx1
        have HBA := hid hba
        have hbxF : ¬ F wr.heap.size := fun q => by have := HLT.out _ q; have := hbl.size; omega
        have HBXF := hid hbxF
        clear hcc hx i0 i1 hx1 hba htk hbxF
        go_wp2_with fail
        refine HT.out.mono ?_
        rintro e w2 ⟨rfl, f2⟩
        generalize wr.alloc (.cells #[.int .i64 x.num, .int .u64 x.val] 85) = wa at *
        have hb2 := HBA.out.trans (f2.mono HBA.out.size)
        have hx2 := (f2.block _ (blk_lt HX1.out)).trans HX1.out
        have e0 := cell_of_row w2 wr.heap.size 0 _ _ _ hx2
        have e1 := cell_of_row w2 wr.heap.size 1 _ _ _ hx2
        have HX2 := hid hx2
        clear m0 m1 hcr HX1 HBA hx2 HT
        generalize wr.heap.size = bx at *
        cases q1 : (x.by_ == n)
        · have hby : x.by_ ≠ n := by simpa using q1
          have hidx : s.its.findIdx? (fun x => x.by_ != n) = some i := by
            obtain ⟨hi2, he⟩ := List.getElem?_eq_some_iff.1 HX.out
            rw [List.findIdx?_eq_some_iff_getElem]
            refine ⟨hi2, by rw [he]; simpa using hby, fun j hj => ?_⟩
            have := HNO.out j _ hj (List.getElem?_eq_getElem (by omega))
            simpa using this
          have hgd : s.its.getD i ⟨0, 0, 0⟩ = x := by rw [List.getD_eq_getElem?_getD, HX.out]; rfl
          by_cases h0 : x.by_ = 0
          · have HE := hid (show s.take n = ((x.val, 0), ⟨s.its.set i ⟨x.num, x.val, n⟩, noteW n ⟨4, x.num, x.val⟩ s.ws, s.gv⟩) from by
              unfold QS.take
              rw [if_neg (by simp [hf]), hidx]
              simp only [hgd]
              rw [if_neg (by simpa using h0)])
            have HNT := hid (dnote_any (H.out.below hb2) HBD.out n ⟨4, x.num, x.val⟩)
            have hn0 : ((0 : Int) == n) = false := by simp; omega
            have HB2 := hid hb2
            rw [h0] at q1 ⊢
            clear hby hidx hgd hb2 q1
            go_wp2_with fail
            refine HNT.out.mono ?_
            rintro e w3 ⟨rfl, ⟨F3, h3, g3⟩, f3⟩
            have e31 : w3.cell? ⟨bx, 1, none⟩ = some (.int .u64 x.val) := f3.cell e1 HBXF.out
            clear e0 e1
            go_wp2_with fail
            go_ret2
            rw [HE.out]
            exact ⟨rfl, ⟨F3, DAt.its (s := ⟨s.its, noteW n ⟨4, x.num, x.val⟩ s.ws, s.gv⟩) h3 (encD_set HX.out n), g3.up HB2.out.size⟩, ((Fr.of_below HB2.out (Nat.le_refl _)).mono (fun _ q => q.elim)).trans f3 (fun i hi => .inl hi)⟩
          · have HE := hid (show s.take n = ((0, 120), s) from by
              unfold QS.take
              rw [if_neg (by simp [hf]), hidx]
              simp only [hgd]
              rw [if_pos h0])
            have h0' : (x.by_ == 0) = false := by simpa using h0
            have HB2 := hid hb2
            clear hby hidx hgd hb2 h0
            go_wp2_with fail
            go_ret2
            rw [HE.out]
            exact ⟨rfl, ⟨F, H.out.below HB2.out, Grew.refl _ _⟩, (Fr.of_below HB2.out (Nat.le_refl _)).mono (fun _ q => q.elim)⟩
        · have hby : x.by_ = n := by simpa using q1
          have HBY := hid hby
          clear hby
          go_wp2_with fail
          go_roundg (s.its.length + 1 - (i + 1))
          case measure => rw [HN.out]; omega
          case rel =>
            refine ⟨i + 1, by go_num, by omega, rfl, fun j z hj hz => ?_, hb2⟩
            rcases Nat.lt_succ_iff_lt_or_eq.1 hj with hj | rfl
            · exact HNO.out j z hj hz
            · rw [HX.out] at hz; cases hz; exact HBY.out
      · have hidx : s.its.findIdx? (fun x => x.by_ != n) = none := by
          rw [List.findIdx?_eq_none_iff]
          intro x hx
          obtain ⟨j, hj, rfl⟩ := List.mem_iff_getElem.1 hx
          have := HNO.out j _ (by omega) (List.getElem?_eq_getElem hj)
          simpa using this
        have HE := hid (show s.take n = ((0, 140), s) from by unfold QS.take; rw [if_neg (by simp [hf]), hidx])
        clear hidx
        go_wp2_with fail
        go_ret2
        rw [HE.out]
        exact ⟨rfl, ⟨F, H.out.below hbl, Grew.refl _ _⟩, (Fr.of_below hbl (Nat.le_refl _)).mono (fun _ q => q.elim)⟩
  · have HE := hid (show s.take n = ((0, s.fit n), s) from by unfold QS.take; rw [if_pos hf])
    have hz : (s.fit n == 0) = false := by simpa using hf
    go_wp2_with fail
    refine HF.out.mono ?_
    rintro e w1 ⟨rfl, rfl⟩
    go_wp2_with fail
    go_ret2
    rw [HE.out]
    exact ⟨rfl, ⟨F, H.out, Grew.refl _ _⟩, Fr.refl _ _⟩
end Go.Proofs.Ytmckdoiepmkbbaa

/- Texts of this seat, put together: QdD, QdE. -/
import Derived.Test.YtdejbinmnoabeaaGreatBm15
namespace Go.Proofs.YtdejbinmnoabeaaGreat.E
open Go.Proofs.YtdejbinmnoabeaaGreat.Q
variable {Zd : Z3}
open Go.RowKit Go.Mine Go.Proofs.YtdejbinmnoabeaaGreatW.PrintWords
set_option linter.unusedVariables false
set_option linter.unusedSimpArgs false
set_option maxRecDepth 100000 in
set_option maxHeartbeats 8000000 in
theorem dnote_any {F : Nat → Prop} {w : World} {b : Nat} {s : QS} (h : DAt Zd F w b s) (hb : s.Bd) (n : Int) (c : Ch) :
    Calls Tryz.prog 99 #[.pointer (some ⟨b, 3, none⟩), .int .i64 n, ChV c] w (DPost Zd F w b (.tuple #[]) ⟨s.its, noteW n c s.ws, s.gv⟩) := by
  have hb0 : Below w.heap.size w (w.alloc (.cells #[.int .i64 c.kind, .int .i64 c.key, .int .u64 c.val] 90)) := (Below.refl _ _).alloc (Nat.le_refl _) _
  have hx0 : (w.alloc (.cells #[.int .i64 c.kind, .int .i64 c.key, .int .u64 c.val] 90)).heap[w.heap.size]? = some (.cells #[.int .i64 c.kind, .int .i64 c.key, .int .u64 c.val] 90 (0, 0)) := (MapKept.heap_alloc w _).1
  obtain ⟨I, iv, qv, hR, hws⟩ := h
  obtain ⟨hb1, hb2, hb3, hb4, hb5, hb6, hb7⟩ := hb
  have hIl : I.length ≤ 1000 := by rw [hws] at hb3; simpa [wsOf] using hb3
  have ha := hR.below hb0
  have hfd := dfind_any ha (by omega) n
  have hbx : ¬ F w.heap.size := fun q => by have := hR.fb _ q; omega
  have hg := aget_ws n I
  rw [← hws] at hg
  have hfw : Fr F w (w.alloc (.cells #[.int .i64 c.kind, .int .i64 c.key, .int .u64 c.val] 90)) := (Fr.refl _ w).alloc _
  have hlsI : ∀ x ∈ I, x.l.length ≤ 1000 := fun x hx => hb4 (x.n, ⟨x.l, x.p⟩) (by rw [hws]; exact List.mem_map.2 ⟨x, hx, rfl⟩)
  have hsz : (w.alloc (.cells #[.int .i64 c.kind, .int .i64 c.key, .int .u64 c.val] 90)).heap.size = w.heap.size + 1 := by simp
  unfold findB at hfd
  have HWS := hid hws
  have HX0 := hid hx0
  have HBX := hid hbx
  have HFW0 := hid hfw
  have HLS := hid hlsI
  have HKEYS := hid hb1
  have HA := hid ha
  have HSZ := hid hsz
  clear hx0 hbx hfw hlsI hb4 hws hR hb1 hb0 ha hsz
  go_enter Tryz.func99, Tryz.ntmps99
  cases hf : I.find? (fun x => decide (x.n = n)) with
  | some x =>
    obtain ⟨J1, J2, hJ, hxn, _⟩ := find_split hf
    rw [hf] at hfd hg
    simp only [Option.map_some] at hfd hg
    have hnw : ∀ v', noteW n c s.ws = wsOf (J1 ++ ⟨x.n, x.wb, v', x.l ++ [c], x.p⟩ :: J2) := fun v' => by
      unfold noteW
      rw [hg]
      exact aput_ws HKEYS.out (by rw [HWS.out, hJ]) hxn _ _ _
    have HNW := hid hnw
    have HFD := hid hfd
    have hxI : x ∈ I := List.mem_of_find?_eq_some hf
    have hxle := HLS.out x hxI
    subst hJ
    clear hfd hg hf hnw hxI
    go_wp2_with fail
    generalize (w.alloc (.cells #[.int .i64 c.kind, .int .i64 c.key, .int .u64 c.val] 90)) = wr at *
    generalize w.heap.size = bx at *
    refine HFD.out.mono ?_
    rintro e w1 ⟨rfl, rfl⟩
    simp only [Option.map_some]
    have HGW : Hid (Grew F F w) := hid (Grew.refl _ _)
    have HD := HA
    have HX := HX0
    have HFW := HFW0
    obtain ⟨A, cp, hv, hAc, hat⟩ := (HD.out.wk x (by simp)).2.2.1.at_
    have hx1 := (HD.out.wk x (by simp)).2.1
    rw [hv] at hx1
    have c1 : wr.cell? ⟨x.wb, 1, none⟩ = some (.slice A x.l.length cp) := by rw [cell_of_row _ _ 1 _ _ _ hx1]; rfl
    have e0 : wr.cell? ⟨bx, 0, none⟩ = some (.int .i64 c.kind) := by rw [cell_of_row _ _ 0 _ _ _ HX.out]; rfl
    have e1 : wr.cell? ⟨bx, 1, none⟩ = some (.int .i64 c.key) := by rw [cell_of_row _ _ 1 _ _ _ HX.out]; rfl
    have e2 : wr.cell? ⟨bx, 2, none⟩ = some (.int .u64 c.val) := by rw [cell_of_row _ _ 2 _ _ _ HX.out]; rfl
    have c1a : (wr.alloc (.cells #[.int .i64 c.kind, .int .i64 c.key, .int .u64 c.val] 90)).cell? ⟨x.wb, 1, none⟩ = some (.slice A x.l.length cp) := by rw [World.cell?_alloc_lt _ _ _ (World.block_lt_of_cell? _ _ c1)]; exact c1
    have hH3 := HD.out.below (bd1 wr)
    have hx3 := hH3.wk x (by simp)
    have hrow := hx3.2.2.1
    rw [hv] at hrow
    have H3 := hid hH3
    have HX3 := hid hx3
    have HROW := hid hrow
    have HV := hid hv
    have HB3 : Hid (Fr F w wr.drew) := hid HFW.out.drew
    clear hH3 hx3 hrow hat hx1 hv HD HX
    go_wp2_with fail
    go_region_law (refine Kd.R_append_step eCh.kd (w0 := wr.drew) 0 (by rfl) (.tmp 29) (.tmp 31) 40 90 _ 24 rfl Tryz.underlying40 info90 (by rfl) (by decide) (by decide) (.slice A x.l.length cp) x.l c (encCh c) (fun _ => True) (fun _ => False) (by simp [Act.eval, Act.put]) (by simp [Act.eval, Act.put]) rfl (fun _ q => q.elim) (fun _ _ => trivial) HROW.out (Below.refl _ _) (Nat.zero_le _) (by omega) ?_; intro v5 w5 ho5 hb5 hg5 hat5; have hb5' : w5.heap[x.wb]? = some (.cells #[.int .i64 x.n, .slice A x.l.length cp, .bool x.p] 125 (0, 0)) := (by have := (hg5.block _ (Array.getElem?_eq_some_iff.1 HX3.out.2.1).1 (fun q => types_ne (HROW.out.typed q.symm) ⟨_, HX3.out.2.1⟩ (by decide))).trans HX3.out.2.1; rw [HV.out] at this; exact this); have hc5 : w5.cell? ⟨x.wb, 1, none⟩ = some (.slice A x.l.length cp) := (by rw [cell_of_row w5 x.wb 1 _ _ _ hb5']; rfl); have hz5 : w5.frozen? ⟨x.wb, 1, none⟩ = false := (by simp [World.frozen?, hb5']); have HO5 := hid ho5; have HG5 := hid hg5; have HT5 := hid hat5; have HB5 := hid hb5'; clear ho5 hg5 hat5 hb5'; obtain ⟨A5, c5, hv5⟩ := Kd.R_slice HO5.out; rw [List.length_append, List.length_singleton] at hv5; subst hv5)
    all_goals
      have hs6 : Fr (fun j => j = x.wb ∨ x.v.ownBlock = some j) wr.drew (w5.setCell ⟨x.wb, 1, none⟩ (.slice A5 (x.l.length + 1) c5)) := Fr.setCell (p := ⟨x.wb, 1, none⟩) ((Fr.of_grown HG5.out).mono (fun j hj => .inr (by rw [HV.out]; exact hj))) (.inl (.inl rfl)) _
      have hb6 : (w5.setCell ⟨x.wb, 1, none⟩ (.slice A5 (x.l.length + 1) c5)).heap[x.wb]? = some (.cells #[.int .i64 x.n, .slice A5 (x.l.length + 1) c5, .bool x.p] 125 (0, 0)) := blk_set' HB5.out 1 _
      have hr6 : ChRow (w5.setCell ⟨x.wb, 1, none⟩ (.slice A5 (x.l.length + 1) c5)) (.slice A5 (x.l.length + 1) c5) (x.l ++ [c]) := FR.move HO5.out (fun k hk => Below.heap_setCell _ _ _ _ (fun q => by
        have q' : k = x.wb := q
        subst q'
        exact types_ne (FR.typed HO5.out hk) ⟨_, HB5.out⟩ (by decide)))
      have hfin := H3.out.work hs6 hb6 hr6 (by rw [HV.out]; exact HT5.out)
      have hfr : Fr F w (w5.setCell ⟨x.wb, 1, none⟩ (.slice A5 (x.l.length + 1) c5)) := HB3.out.trans hs6 (fun j hj => by
        rcases hj with q | q
        · exact HGW.out j (by rw [q]; exact HX3.out.1)
        · exact HGW.out j (HX3.out.2.2.2 j q))
      have hgr := HGW.out.trans (grew_more _ wr.drew (w5.setCell ⟨x.wb, 1, none⟩ (.slice A5 (x.l.length + 1) c5))) HB3.out.size
      have HFIN := hid hfin
      have HFR := hid hfr
      have HGR := hid hgr
      clear hfin hfr hgr hs6 hb6 hr6
      go_wp2_with fail
      go_end0
      exact ⟨rfl, ⟨_, ⟨_, _, _, HFIN.out, HNW.out _⟩, HGR.out⟩, HFR.out⟩
  | none =>
    rw [hf] at hfd hg
    simp only [Option.map_none] at hfd hg
    have HFD := hid hfd
    have hnw : ∀ wb v', noteW n c s.ws = wsOf (I ++ ⟨n, wb, v', [] ++ [c], false⟩ :: []) := fun wb v' => by
      unfold noteW
      rw [hg, HWS.out]
      simp [wsOf]
    have HNW0 := hid hnw
    clear hfd hg hf hnw
    go_wp2_with fail
    generalize (w.alloc (.cells #[.int .i64 c.kind, .int .i64 c.key, .int .u64 c.val] 90)) = wa at *
    obtain ⟨bx, hbxe⟩ : ∃ bx, bx = w.heap.size := ⟨_, rfl⟩
    rw [← hbxe] at HX0 HBX HSZ ⊢
    refine HFD.out.mono ?_
    rintro e w1 ⟨rfl, rfl⟩
    simp only [Option.map_none]
    obtain ⟨Aq, cq, rfl, hAq, _⟩ := HA.out.wp.at_
    have hb3 : Below wa.heap.size wa (wa.alloc (.cells #[.int .i64 n, .slice none 0 0, .bool false] 125)) := (Below.refl _ _).alloc (Nat.le_refl _) _
    have hy3 : (wa.alloc (.cells #[.int .i64 n, .slice none 0 0, .bool false] 125)).heap[wa.heap.size]? = some (.cells #[.int .i64 n, .slice none 0 0, .bool false] 125 (0, 0)) := (MapKept.heap_alloc wa _).1
    have hR3 := HA.out.below hb3
    have hw3 : Fr (fun _ => False) wa (wa.alloc (.cells #[.int .i64 n, .slice none 0 0, .bool false] 125)) := (Fr.refl _ wa).alloc _
    have hc3 : (wa.alloc (.cells #[.int .i64 n, .slice none 0 0, .bool false] 125)).cell? ⟨b, 4, none⟩ = some (.slice Aq I.length cq) := by rw [cell_of_row _ b 4 _ _ _ hR3.blk]; rfl
    have HY3 := hid hy3
    have HR3 := hid hR3
    have HW3 := hid hw3
    have hwlt := HA.out.fb _ HA.out.bF
    clear hb3 hy3 hR3 hw3 HFD hbxe
    go_wp2_with (at_builtin; go_loud (refine Kd.R_append eWI.kd (w0 := (wa.alloc (.cells #[.int .i64 n, .slice none 0 0, .bool false] 125))) 0 rfl (.tmp 19) (.tmp 21) 34 102 _ 8 rfl Tryz.underlying34 info102 (by rfl) (by decide) (by decide) (.slice Aq I.length cq) I ⟨n, wa.heap.size, .slice none 0 0, [], false⟩ [ptrV wa.heap.size] (fun _ => True) (fun _ => False) rfl (by first | rfl | (simp; rfl)) rfl (fun _ q => q.elim) (fun _ _ => trivial) HR3.out.wp (Below.refl _ _) (Nat.zero_le _) (by omega) ?_); intro v8 w8 ho8 hb8 hg8 hat8; have hx8 : w8.heap[b]? = some (.cells #[Zd.a, Zd.b, Zd.c, iv, .slice Aq I.length cq, .int .i64 s.gv] 38 (0, 0)) := (hg8.block _ (HR3.out.fb _ HR3.out.bF) (fun q => HR3.out.iv_ne.2.1 q.symm)).trans HR3.out.blk; have hz8 : w8.frozen? ⟨b, 4, none⟩ = false := (by simp [World.frozen?, hx8]); have hc8 : w8.cell? ⟨b, 4, none⟩ = some (.slice Aq I.length cq) := (by rw [cell_of_row w8 _ 4 _ _ _ hx8]; rfl); have HO8 := hid ho8; have HX8 := hid hx8; have HG8 := hid hg8; have HAT8 := hid hat8; clear ho8 hb8 hg8 hat8 hx8; obtain ⟨A8, c8, hv8⟩ := Kd.R_slice HO8.out; rw [List.length_append, List.length_singleton] at hv8; subst hv8)
    have hf8 : Fr (fun i => i = b ∨ (Value.slice Aq I.length cq).ownBlock = some i) (wa.alloc (.cells #[.int .i64 n, .slice none 0 0, .bool false] 125)) (w8.setCell ⟨b, 4, none⟩ (.slice A8 (I.length + 1) c8)) := Fr.setCell (p := ⟨b, 4, none⟩) ((Fr.of_grown HG8.out).mono (fun j hj => .inr hj)) (.inl (.inl rfl)) _
    have hfw : Fr (fun i => i = b ∨ (Value.slice Aq I.length cq).ownBlock = some i) wa (w8.setCell ⟨b, 4, none⟩ (.slice A8 (I.length + 1) c8)) := (HW3.out.mono (fun i hi => hi.elim)).trans hf8 (fun i hi => .inl hi)
    have hi8 : FR eD 129 (w8.setCell ⟨b, 4, none⟩ (.slice A8 (I.length + 1) c8)) iv s.its := HA.out.it.move (fun k hk => hfw.block k (HA.out.it.lt hk) (fun q => by
      rcases q with q | q
      · exact HA.out.iv_ne.1 (by rw [hk, q])
      · exact HA.out.iv_ne.2.2 k hk q))
    have hq8 : FR eWI 102 (w8.setCell ⟨b, 4, none⟩ (.slice A8 (I.length + 1) c8)) (.slice A8 (I.length + 1) c8) (I ++ [⟨n, wa.heap.size, .slice none 0 0, [], false⟩]) := by
      have h0 : FR eWI 102 w8 (.slice A8 (I.length + 1) c8) (I ++ [⟨n, wa.heap.size, .slice none 0 0, [], false⟩]) := HO8.out
      exact h0.move (fun j hj => Below.heap_setCell _ _ _ _ (fun q => h0.ne HX8.out (by decide) (by rw [hj]; exact congrArg some q)))
    have hyk := hf8.at_ HY3.out (fun q => by
      rcases q with q | q
      · have := hwlt; omega
      · have := HA.out.wp.lt q; omega)
    have hfin := HA.out.addw (y := ⟨n, wa.heap.size, .slice none 0 0, [], false⟩) (hfw.mono (fun i hi => hi.imp id (fun q => .inr q))) (blk_set' HX8.out 4 (.slice A8 (I.length + 1) c8)) hi8 hq8 hyk (Nat.le_refl _) (FR.nil _ _ _) (fun k hk => by simp [Value.ownBlock] at hk) (fun j hj => by
      rcases HAT8.out with q | ⟨b', q, hb⟩
      · exact .inl (q ▸ hj)
      · rw [hj] at q; cases q; exact .inr (Nat.le_trans HW3.out.size hb))
    have hx9 : (w8.setCell ⟨b, 4, none⟩ (.slice A8 (I.length + 1) c8)).heap[bx]? = some (.cells #[.int .i64 c.kind, .int .i64 c.key, .int .u64 c.val] 90 (0, 0)) := hfw.at_ HX0.out (fun q => by
      rcases q with q | q
      · exact HBX.out (by rw [q]; exact HA.out.bF)
      · exact HBX.out (HA.out.qF _ q))
    have hfr9 : Fr F w (w8.setCell ⟨b, 4, none⟩ (.slice A8 (I.length + 1) c8)) := HFW0.out.trans hfw (fun j hj => .inl (by
      rcases hj with q | q
      · rw [q]; exact HA.out.bF
      · exact HA.out.qF _ q))
    have hgw9 := (grew_more F wa (w8.setCell ⟨b, 4, none⟩ (.slice A8 (I.length + 1) c8))).up HFW0.out.size
    obtain ⟨x, hxe⟩ : ∃ x : WI, x = ⟨n, wa.heap.size, .slice none 0 0, [], false⟩ := ⟨_, rfl⟩
    have hxw : wa.heap.size = x.wb := by rw [hxe]
    have hnw : ∀ v', noteW n c s.ws = wsOf (I ++ ⟨x.n, x.wb, v', x.l ++ [c], x.p⟩ :: []) := fun v' => by rw [hxe]; exact HNW0.out _ v'
    have hxle : x.l.length ≤ 1000 := by rw [hxe]; simp
    rw [← hxe] at hfin
    have HD := hid hfin
    have HX := hid hx9
    have HFW := hid hfr9
    have HGW := hid hgw9
    have HNW := hid hnw
    rw [hxw]
    generalize (more F wa (w8.setCell ⟨b, 4, none⟩ (.slice A8 (I.length + 1) c8))) = F2 at *
    clear hf8 hfw hi8 hq8 hyk hfin hx9 hfr9 hgw9 hnw HO8 HX8 HG8 HAT8 HA HR3 HY3 HW3 hc3 hz8 hc8 HX0 HFW0 HNW0 hxe hxw hwlt
    generalize (w8.setCell ⟨b, 4, none⟩ (.slice A8 (I.length + 1) c8)) = wr at *
    obtain ⟨A, cp, hv, hAc, hat⟩ := (HD.out.wk x (by simp)).2.2.1.at_
    have hx1 := (HD.out.wk x (by simp)).2.1
    rw [hv] at hx1
    have c1 : wr.cell? ⟨x.wb, 1, none⟩ = some (.slice A x.l.length cp) := by rw [cell_of_row _ _ 1 _ _ _ hx1]; rfl
    have e0 : wr.cell? ⟨bx, 0, none⟩ = some (.int .i64 c.kind) := by rw [cell_of_row _ _ 0 _ _ _ HX.out]; rfl
    have e1 : wr.cell? ⟨bx, 1, none⟩ = some (.int .i64 c.key) := by rw [cell_of_row _ _ 1 _ _ _ HX.out]; rfl
    have e2 : wr.cell? ⟨bx, 2, none⟩ = some (.int .u64 c.val) := by rw [cell_of_row _ _ 2 _ _ _ HX.out]; rfl
    have c1a : (wr.alloc (.cells #[.int .i64 c.kind, .int .i64 c.key, .int .u64 c.val] 90)).cell? ⟨x.wb, 1, none⟩ = some (.slice A x.l.length cp) := by rw [World.cell?_alloc_lt _ _ _ (World.block_lt_of_cell? _ _ c1)]; exact c1
    have hH3 := HD.out.below (bd1 wr)
    have hx3 := hH3.wk x (by simp)
    have hrow := hx3.2.2.1
    rw [hv] at hrow
    have H3 := hid hH3
    have HX3 := hid hx3
    have HROW := hid hrow
    have HV := hid hv
    have HB3 : Hid (Fr F w wr.drew) := hid HFW.out.drew
    clear hH3 hx3 hrow hat hx1 hv HD HX
    go_wp2_with fail
    go_region_law (refine Kd.R_append_step eCh.kd (w0 := wr.drew) 0 (by rfl) (.tmp 29) (.tmp 31) 40 90 _ 24 rfl Tryz.underlying40 info90 (by rfl) (by decide) (by decide) (.slice A x.l.length cp) x.l c (encCh c) (fun _ => True) (fun _ => False) (by simp [Act.eval, Act.put]) (by simp [Act.eval, Act.put]) rfl (fun _ q => q.elim) (fun _ _ => trivial) HROW.out (Below.refl _ _) (Nat.zero_le _) (by omega) ?_; intro v5 w5 ho5 hb5 hg5 hat5; have hb5' : w5.heap[x.wb]? = some (.cells #[.int .i64 x.n, .slice A x.l.length cp, .bool x.p] 125 (0, 0)) := (by have := (hg5.block _ (Array.getElem?_eq_some_iff.1 HX3.out.2.1).1 (fun q => types_ne (HROW.out.typed q.symm) ⟨_, HX3.out.2.1⟩ (by decide))).trans HX3.out.2.1; rw [HV.out] at this; exact this); have hc5 : w5.cell? ⟨x.wb, 1, none⟩ = some (.slice A x.l.length cp) := (by rw [cell_of_row w5 x.wb 1 _ _ _ hb5']; rfl); have hz5 : w5.frozen? ⟨x.wb, 1, none⟩ = false := (by simp [World.frozen?, hb5']); have HO5 := hid ho5; have HG5 := hid hg5; have HT5 := hid hat5; have HB5 := hid hb5'; clear ho5 hg5 hat5 hb5'; obtain ⟨A5, c5, hv5⟩ := Kd.R_slice HO5.out; rw [List.length_append, List.length_singleton] at hv5; subst hv5)
    all_goals
      have hs6 : Fr (fun j => j = x.wb ∨ x.v.ownBlock = some j) wr.drew (w5.setCell ⟨x.wb, 1, none⟩ (.slice A5 (x.l.length + 1) c5)) := Fr.setCell (p := ⟨x.wb, 1, none⟩) ((Fr.of_grown HG5.out).mono (fun j hj => .inr (by rw [HV.out]; exact hj))) (.inl (.inl rfl)) _
      have hb6 : (w5.setCell ⟨x.wb, 1, none⟩ (.slice A5 (x.l.length + 1) c5)).heap[x.wb]? = some (.cells #[.int .i64 x.n, .slice A5 (x.l.length + 1) c5, .bool x.p] 125 (0, 0)) := blk_set' HB5.out 1 _
      have hr6 : ChRow (w5.setCell ⟨x.wb, 1, none⟩ (.slice A5 (x.l.length + 1) c5)) (.slice A5 (x.l.length + 1) c5) (x.l ++ [c]) := FR.move HO5.out (fun k hk => Below.heap_setCell _ _ _ _ (fun q => by
        have q' : k = x.wb := q
        subst q'
        exact types_ne (FR.typed HO5.out hk) ⟨_, HB5.out⟩ (by decide)))
      have hfin := H3.out.work hs6 hb6 hr6 (by rw [HV.out]; exact HT5.out)
      have hfr : Fr F w (w5.setCell ⟨x.wb, 1, none⟩ (.slice A5 (x.l.length + 1) c5)) := HB3.out.trans hs6 (fun j hj => by
        rcases hj with q | q
        · exact HGW.out j (by rw [q]; exact HX3.out.1)
        · exact HGW.out j (HX3.out.2.2.2 j q))
      have hgr := HGW.out.trans (grew_more _ wr.drew (w5.setCell ⟨x.wb, 1, none⟩ (.slice A5 (x.l.length + 1) c5))) HB3.out.size
      have HFIN := hid hfin
      have HFR := hid hfr
      have HGR := hid hgr
      clear hfin hfr hgr hs6 hb6 hr6
      go_wp2_with fail
      go_end0
      exact ⟨rfl, ⟨_, ⟨_, _, _, HFIN.out, HNW.out _⟩, HGR.out⟩, HFR.out⟩
theorem dput_any {F : Nat → Prop} {w : World} {b : Nat} {s : QS} (h : DAt Zd F w b s) (hb : s.Bd) (n v : Int) :
    Calls Tryz.prog 67 #[.pointer (some ⟨b, 3, none⟩), .int .i64 n, .int .u64 v] w (DPost Zd F w b (.int .i64 (s.put n v).1) (s.put n v).2) := by
  have hf := dmay_any h (by have := hb.ws; omega) n
  have hr := droom_any h hb
  have HF := hid hf
  have HRM := hid hr
  have H := hid h
  have HB := hid hb
  clear hf hr h hb
  go_enter Tryz.func67, Tryz.ntmps67
  by_cases h1 : s.fit n = 0
  · by_cases h2 : s.room < 1
    · have HE := hid (show s.put n v = (5, s) from by unfold QS.put; rw [if_neg (by simp [h1]), if_pos h2])
      have h2' : s.room ≤ 0 := by omega
      clear h2
      go_wp2_with fail
      refine HF.out.mono ?_
      rintro e w1 ⟨rfl, rfl⟩
      rw [h1]
      go_wp2_with fail
      refine HRM.out.mono ?_
      rintro e w2 ⟨rfl, q2, rfl⟩
      go_wp2_with fail
      go_ret
      exact ⟨by rw [HE.out]; rfl, ⟨F, by rw [HE.out]; exact H.out.below (bdN _ _), Grew.refl _ _⟩, (Fr.refl _ _).drewN _⟩
    · have HE := hid (show s.put n v = (0, ⟨s.its, noteW n ⟨3, 0, v⟩ s.ws, s.gv⟩) from by unfold QS.put; rw [if_neg (by simp [h1]), if_neg h2])
      have h2' : 0 < s.room := by omega
      clear h2
      go_wp2_with fail
      refine HF.out.mono ?_
      rintro e w1 ⟨rfl, rfl⟩
      rw [h1]
      go_wp2_with fail
      refine HRM.out.mono ?_
      rintro e w2 ⟨rfl, q2, hw2⟩
      have f2 : Below w.heap.size w w2 := by rw [hw2]; exact bdN _ _
      clear hw2
      have HNT := hid (dnote_any (H.out.below f2) HB.out n ⟨3, 0, v⟩)
      go_wp2_with fail
      refine HNT.out.mono ?_
      rintro e w3 ⟨rfl, ⟨F3, h3, g3⟩, f3⟩
      go_wp2_with fail
      go_ret
      exact ⟨by rw [HE.out]; rfl, ⟨F3, by rw [HE.out]; exact h3, g3.up f2.size⟩, ((Fr.of_below f2 (Nat.le_refl _)).mono (fun _ q => q.elim)).trans f3 (fun i hi => .inl hi)⟩
  · have HE := hid (show s.put n v = (s.fit n, s) from by unfold QS.put; rw [if_pos h1])
    have hz : (s.fit n == 0) = false := by simpa using h1
    go_wp2_with fail
    refine HF.out.mono ?_
    rintro e w1 ⟨rfl, rfl⟩
    go_wp2_with fail
    go_ret
    exact ⟨by rw [HE.out]; rfl, ⟨F, by rw [HE.out]; exact H.out, Grew.refl _ _⟩, Fr.refl _ _⟩
theorem encD_free (n : Int) (L : List It) : L.map encD = (L.map (freeI n)).map encD := by
  rw [List.map_map]
  apply List.map_congr_left
  intro x _
  simp only [Function.comp_apply, freeI]
  split <;> rfl
theorem encD_set {L : List It} {i : Nat} {x : It} (hx : L[i]? = some x) (n : Int) : L.map encD = (L.set i ⟨x.num, x.val, n⟩).map encD := by
  apply List.ext_getElem?
  intro j
  rw [List.getElem?_map, List.getElem?_map, List.getElem?_set]
  by_cases h : i = j
  · subst h
    rw [if_pos rfl, if_pos (List.getElem?_eq_some_iff.1 hx).1, hx]
    rfl
  · rw [if_neg h]
theorem dbackout_any {F : Nat → Prop} {w : World} {b : Nat} {s : QS} (h : DAt Zd F w b s) (hb : s.Bd) (n : Int) :
    Calls Tryz.prog 74 #[.pointer (some ⟨b, 3, none⟩), .int .i64 n] w (DPost Zd F w b (.int .i64 (s.backout n).1) (s.backout n).2) := by
  have HD := hid (ddrop_any h hb.ws n)
  have H := hid h
  clear h hb
  go_enter Tryz.func74, Tryz.ntmps74
  by_cases h1 : n < 1
  · have HE := hid (show s.backout n = (1, s) from by unfold QS.backout; rw [if_pos h1])
    go_wp2_with fail
    go_ret
    exact ⟨by rw [HE.out]; rfl, ⟨F, by rw [HE.out]; exact H.out, Grew.refl _ _⟩, Fr.refl _ _⟩
  · have HE := hid (show s.backout n = (0, ⟨s.its.map (freeI n), adel n s.ws, s.gv⟩) from by unfold QS.backout; rw [if_neg h1])
    go_wp2_with fail
    refine HD.out.mono ?_
    rintro e w1 ⟨rfl, ⟨F1, h1, g1⟩, f1⟩
    go_wp2_with fail
    go_ret
    exact ⟨by rw [HE.out]; rfl, ⟨F1, by rw [HE.out]; exact h1.its (encD_free n s.its), g1⟩, f1⟩
set_option maxRecDepth 100000 in
set_option maxHeartbeats 4000000 in
theorem dtake_any {F : Nat → Prop} {w : World} {b : Nat} {s : QS} (h : DAt Zd F w b s) (hok : s.Ok) (n : Int) :
    Calls Tryz.prog 68 #[.pointer (some ⟨b, 3, none⟩), .int .i64 n] w (DPost Zd F w b (.tuple #[.int .u64 (s.take n).1.1, .int .i64 (s.take n).1.2]) (s.take n).2) := by
  have hb := hok.bd
  have HF := hid (dmay_any h (by have := hb.ws; omega) n)
  have H := hid h
  have HOK := hid hok
  have hil := hok.sz
  obtain ⟨I, iv, qv, hR, hws⟩ := h
  obtain ⟨A, c, hiv, hAc, hat⟩ := hR.it.at_
  have hc : w.cell? ⟨b, 3, none⟩ = some (.slice A s.its.length c) := by rw [cell_of_row w b 3 _ _ _ hR.blk, ← hiv]; rfl
  have HAT : Hid (RowAt encD 2 w w.heap.size A s.its) := hid hat
  have hlt := hR.fb
  have HLT := hid hlt
  have HBD := hid hb
  clear hat hR hws hiv hlt hok hb
  go_enter Tryz.func68, Tryz.ntmps68
  by_cases hf : s.fit n = 0
  · have hn := (fit_pos hf).1
    go_wp2_with fail
    refine HF.out.mono ?_
    rintro e w1 ⟨rfl, rfl⟩
    rw [hf]
    clear HF
    go_wp2_with fail
    go_loopg [7] (s.its.length + 1) (fun m v7 wr => ∃ i : Nat, v7 = .int .i64 i ∧ i ≤ s.its.length ∧ m = s.its.length + 1 - i ∧ (∀ j x, j < i → s.its[j]? = some x → x.by_ = n) ∧ Below w.heap.size w wr)
    case atStart => exact ⟨0, rfl, Nat.zero_le _, rfl, fun j x hj => by omega, Below.refl _ _⟩
    case round =>
      obtain ⟨i, rfl, hi, hm, hno, hbl⟩ := hrel
      have HN := hid hm
      have HNO := hid hno
      have hcr : wr.cell? ⟨b, 3, none⟩ = some (.slice A s.its.length c) := (hbl.cell (World.block_lt_of_cell? _ _ hc)).trans hc
      clear hm hno
      by_cases h1 : i < s.its.length
      · obtain ⟨x, hx⟩ : ∃ x, s.its[i]? = some x := ⟨_, List.getElem?_eq_getElem h1⟩
        obtain ⟨b', off, rfl, hbb, hcc⟩ := HAT.out i x hx
        have i0 : w.cell? ⟨b', off + i * 2, none⟩ = some (.int .i64 x.num) := hcc 0 _ rfl
        have i1 : w.cell? ⟨b', off + i * 2 + 1, none⟩ = some (.int .u64 x.val) := hcc 1 _ rfl
        have m0 := (hbl.cell (World.block_lt_of_cell? _ _ i0)).trans i0
        have m1 := (hbl.cell (World.block_lt_of_cell? _ _ i1)).trans i1
        have hba : Below w.heap.size w (wr.alloc (.cells #[.int .i64 x.num, .int .u64 x.val] 129)) := hbl.alloc hbl.size _
        have hx1 : (wr.alloc (.cells #[.int .i64 x.num, .int .u64 x.val] 129)).heap[wr.heap.size]? = some (.cells #[.int .i64 x.num, .int .u64 x.val] 129 (0, 0)) := (MapKept.heap_alloc wr _).1
        have htk := HOK.out.taker (List.mem_of_getElem? hx)
        have HT := hid (dtaker_any (H.out.below hba) HBD.out x.num)
        rw [htk] at HT
        have HX := hid hx
        have HX1 := hid hx1
        have HBA := hid hba
        have hbxF : ¬ F wr.heap.size := fun q => by have := HLT.out _ q; have := hbl.size; omega
        have HBXF := hid hbxF
        clear hcc hx i0 i1 hx1 hba htk hbxF
        go_wp2_with fail
        refine HT.out.mono ?_
        rintro e w2 ⟨rfl, f2⟩
        generalize wr.alloc (.cells #[.int .i64 x.num, .int .u64 x.val] 129) = wa at *
        have hb2 := HBA.out.trans (f2.mono HBA.out.size)
        have hx2 := (f2.block _ (Q.blk_lt HX1.out)).trans HX1.out
        have e0 := cell_of_row w2 wr.heap.size 0 _ _ _ hx2
        have e1 := cell_of_row w2 wr.heap.size 1 _ _ _ hx2
        have HX2 := hid hx2
        clear m0 m1 hcr HX1 HBA hx2 HT
        generalize wr.heap.size = bx at *
        cases q1 : (x.by_ == n)
        · have hby : x.by_ ≠ n := by simpa using q1
          have hidx : s.its.findIdx? (fun x => x.by_ != n) = some i := by
            obtain ⟨hi2, he⟩ := List.getElem?_eq_some_iff.1 HX.out
            rw [List.findIdx?_eq_some_iff_getElem]
            refine ⟨hi2, by rw [he]; simpa using hby, fun j hj => ?_⟩
            have := HNO.out j _ hj (List.getElem?_eq_getElem (by omega))
            simpa using this
          have hgd : s.its.getD i ⟨0, 0, 0⟩ = x := by rw [List.getD_eq_getElem?_getD, HX.out]; rfl
          by_cases h0 : x.by_ = 0
          · have HE := hid (show s.take n = ((x.val, 0), ⟨s.its.set i ⟨x.num, x.val, n⟩, noteW n ⟨4, x.num, x.val⟩ s.ws, s.gv⟩) from by
              unfold QS.take
              rw [if_neg (by simp [hf]), hidx]
              simp only [hgd]
              rw [if_neg (by simpa using h0)])
            have HNT := hid (dnote_any (H.out.below hb2) HBD.out n ⟨4, x.num, x.val⟩)
            have hn0 : ((0 : Int) == n) = false := by simp; omega
            have HB2 := hid hb2
            rw [h0] at q1 ⊢
            clear hby hidx hgd hb2 q1
            go_wp2_with fail
            refine HNT.out.mono ?_
            rintro e w3 ⟨rfl, ⟨F3, h3, g3⟩, f3⟩
            have e31 : w3.cell? ⟨bx, 1, none⟩ = some (.int .u64 x.val) := f3.cell e1 HBXF.out
            clear e0 e1
            go_wp2_with fail
            go_ret2
            rw [HE.out]
            exact ⟨rfl, ⟨F3, DAt.its (s := ⟨s.its, noteW n ⟨4, x.num, x.val⟩ s.ws, s.gv⟩) h3 (encD_set HX.out n), g3.up HB2.out.size⟩, ((Fr.of_below HB2.out (Nat.le_refl _)).mono (fun _ q => q.elim)).trans f3 (fun i hi => .inl hi)⟩
          · have HE := hid (show s.take n = ((0, 120), s) from by
              unfold QS.take
              rw [if_neg (by simp [hf]), hidx]
              simp only [hgd]
              rw [if_pos h0])
            have h0' : (x.by_ == 0) = false := by simpa using h0
            have HB2 := hid hb2
            clear hby hidx hgd hb2 h0
            go_wp2_with fail
            go_ret2
            rw [HE.out]
            exact ⟨rfl, ⟨F, H.out.below HB2.out, Grew.refl _ _⟩, (Fr.of_below HB2.out (Nat.le_refl _)).mono (fun _ q => q.elim)⟩
        · have hby : x.by_ = n := by simpa using q1
          have HBY := hid hby
          clear hby
          go_wp2_with fail
          go_roundg (s.its.length + 1 - (i + 1))
          case measure => rw [HN.out]; omega
          case rel =>
            refine ⟨i + 1, by go_num, by omega, rfl, fun j z hj hz => ?_, hb2⟩
            rcases Nat.lt_succ_iff_lt_or_eq.1 hj with hj | rfl
            · exact HNO.out j z hj hz
            · rw [HX.out] at hz; cases hz; exact HBY.out
      · have hidx : s.its.findIdx? (fun x => x.by_ != n) = none := by
          rw [List.findIdx?_eq_none_iff]
          intro x hx
          obtain ⟨j, hj, rfl⟩ := List.mem_iff_getElem.1 hx
          have := HNO.out j _ (by omega) (List.getElem?_eq_getElem hj)
          simpa using this
        have HE := hid (show s.take n = ((0, 140), s) from by unfold QS.take; rw [if_neg (by simp [hf]), hidx])
        clear hidx
        go_wp2_with fail
        go_ret2
        rw [HE.out]
        exact ⟨rfl, ⟨F, H.out.below hbl, Grew.refl _ _⟩, (Fr.of_below hbl (Nat.le_refl _)).mono (fun _ q => q.elim)⟩
  · have HE := hid (show s.take n = ((0, s.fit n), s) from by unfold QS.take; rw [if_pos hf])
    have hz : (s.fit n == 0) = false := by simpa using hf
    go_wp2_with fail
    refine HF.out.mono ?_
    rintro e w1 ⟨rfl, rfl⟩
    go_wp2_with fail
    go_ret2
    rw [HE.out]
    exact ⟨rfl, ⟨F, H.out, Grew.refl _ _⟩, Fr.refl _ _⟩
end Go.Proofs.YtdejbinmnoabeaaGreat.E
namespace Go.Proofs.YtdejbinmnoabeaaGreat.E
open Go.Proofs.YtdejbinmnoabeaaGreat.Q
variable {Zd : Z3}
open Go.RowKit Go.Mine Go.Proofs.YtdejbinmnoabeaaGreatW.PrintWords
set_option linter.unusedVariables false
set_option linter.unusedSimpArgs false
def DPrepPost (Zd : Z3) (F : Nat → Prop) (w : World) (b : Nat) (R : (List Ch × Int) × QS) (e : Ending) (w' : World) : Prop :=
  ∃ v, e = .returned (.tuple #[v, .int .i64 R.1.2]) ∧ (∃ F', DAt Zd F' w' b R.2 ∧ Grew F F' w ∧ (∀ k, v.ownBlock = some k → w.heap.size ≤ k ∧ ¬ F' k)) ∧ ChRow w' v R.1.1 ∧ Fr F w w'
set_option maxRecDepth 100000 in
set_option maxHeartbeats 4000000 in
theorem dprepare_any {F : Nat → Prop} {w : World} {b : Nat} {s : QS} (h : DAt Zd F w b s) (hb : s.Bd) (n : Int) :
    Calls Tryz.prog 70 #[.pointer (some ⟨b, 3, none⟩), .int .i64 n] w (DPrepPost Zd F w b (s.prepare n)) := by
  have hf := dmay_any h (by have := hb.ws; omega) n
  have HF := hid hf
  have H := hid h
  obtain ⟨I, iv, qv, hR, hws⟩ := h
  have hIl : I.length ≤ 1000 := by have := hb.ws; rw [hws] at this; simpa [wsOf] using this
  have hfd := dfind_any hR (by omega) n
  have hg := aget_ws n I
  rw [← hws] at hg
  unfold findB at hfd
  have HR := hid hR
  have HWS := hid hws
  have HB := hid hb
  clear hf hR hws hb
  go_enter Tryz.func70, Tryz.ntmps70
  by_cases h1 : s.fit n = 0
  · cases hq : I.find? (fun x => decide (x.n = n)) with
    | none =>
      rw [hq] at hfd hg
      simp only [Option.map_none] at hfd hg
      have HE := hid (show s.prepare n = (([], 0), s) from by unfold QS.prepare; rw [if_neg (by simp [h1]), hg])
      have HFD := hid hfd
      clear hfd hg hq
      go_wp2_with fail
      refine HF.out.mono ?_
      rintro e w1 ⟨rfl, rfl⟩
      rw [h1]
      go_wp2_with fail
      refine HFD.out.mono ?_
      rintro e w2 ⟨rfl, rfl⟩
      simp only [Option.map_none]
      go_wp2_with fail
      go_ret2
      unfold DPrepPost
      rw [HE.out]
      exact ⟨.slice none 0 0, rfl, ⟨F, H.out, Grew.refl _ _, fun k hk => by simp [Value.ownBlock] at hk⟩, FR.nil _ _ _, Fr.refl _ _⟩
    | some x =>
      obtain ⟨J1, J2, hJ, hxn, _⟩ := find_split hq
      have hxw := HR.out.wk x (List.mem_of_find?_eq_some hq)
      have hxle : x.l.length ≤ 1000 := HB.out.ls (x.n, ⟨x.l, x.p⟩) (by rw [HWS.out]; exact List.mem_map.2 ⟨x, List.mem_of_find?_eq_some hq, rfl⟩)
      obtain ⟨A, cp, hv, hAc, hat⟩ := hxw.2.2.1.at_
      have c2 : w.cell? ⟨x.wb, 2, none⟩ = some (.bool x.p) := by rw [cell_of_row _ _ 2 _ _ _ hxw.2.1]; rfl
      have hz1 : w.frozen? ⟨x.wb, 2, none⟩ = false := by simp [World.frozen?, hxw.2.1]
      rw [hq] at hfd hg
      simp only [Option.map_some] at hfd hg
      have HE := hid (show s.prepare n = ((x.l, 0), ⟨s.its, aput n ⟨x.l, true⟩ s.ws, s.gv⟩) from by unfold QS.prepare; rw [if_neg (by simp [h1]), hg])
      have HFD := hid hfd
      subst hJ
      have hf1 : Fr (fun i => i = x.wb ∨ x.v.ownBlock = some i) w (w.setCell ⟨x.wb, 2, none⟩ (.bool true)) := Fr.setCell (p := ⟨x.wb, 2, none⟩) (Fr.refl _ w) (.inl (.inl rfl)) _
      have hb1 : (w.setCell ⟨x.wb, 2, none⟩ (.bool true)).heap[x.wb]? = some (.cells #[.int .i64 x.n, x.v, .bool true] 125 (0, 0)) := blk_set' hxw.2.1 2 _
      have hr1 : ChRow (w.setCell ⟨x.wb, 2, none⟩ (.bool true)) x.v x.l := hxw.2.2.1.move (fun k hk => Below.heap_setCell _ _ _ _ (fun q => by
        have q' : k = x.wb := q
        subst q'
        exact types_ne (hxw.2.2.1.typed hk) ⟨_, hxw.2.1⟩ (by decide)))
      have hK := HR.out.work hf1 hb1 hr1 (.inl rfl)
      have hfr : Fr F w (w.setCell ⟨x.wb, 2, none⟩ (.bool true)) := hf1.mono (fun j hj => by
        rcases hj with q | q
        · rw [q]; exact hxw.1
        · exact hxw.2.2.2 j q)
      have hcl1 : (w.setCell ⟨x.wb, 2, none⟩ (.bool true)).cell? ⟨x.wb, 1, none⟩ = some (.slice A x.l.length cp) := by
        rw [cell_of_row _ _ 1 _ _ _ hb1, ← hv]; rfl
      have hrow := hr1
      rw [hv] at hrow
      have hC := (Kd.R_reads' hrow).2.2
      have HROW := hid hC
      have HK := hid hK
      have HFR := hid hfr
      clear hfd hg hq hat hxw hf1 hb1 hr1 hK hfr hv hrow hC
      go_wp2_with fail
      refine HF.out.mono ?_
      rintro e w1 ⟨rfl, rfl⟩
      rw [h1]
      go_wp2_with fail
      refine HFD.out.mono ?_
      rintro e w2 ⟨rfl, rfl⟩
      simp only [Option.map_some]
      go_wp2_with (at_builtin; go_loud (refine Kd.R_append_rows eCh.kd (Rr := fun x cs => cs = encCh x) (w0 := (w.setCell ⟨x.wb, 2, none⟩ (.bool true))) (w.setCell ⟨x.wb, 2, none⟩ (.bool true)).heap.size rfl (.tmp 23) (.tmp 27) 40 90 _ 24 rfl Tryz.underlying40 info90 (by rfl) (by decide) (by decide) (.slice none 0 0) [] x.l A x.l.length cp (fun _ => True) (fun _ => False) rfl rfl (Kd.R_nil _ _ _ _ _) HROW.out (fun _ _ h => h) (fun _ h => h.elim) (fun _ _ => trivial) (Below.refl _ _) (Nat.le_refl _) (by simp only [List.length_nil]; omega) ?_); intro v7 w7 ho7 hb7 hg7 hat7)
      go_ret2
      unfold DPrepPost
      rw [HE.out]
      have hfb := HK.out.fb
      have hro := Kd.R_base ho7
      refine ⟨v7, rfl, ⟨_, ⟨_, _, _, HK.out.below hb7, ?_⟩, grew_more _ _ _, fun k hk => ⟨Nat.le_trans HFR.out.size (hro k hk), fun q => ?_⟩⟩, by simpa using Kd.R_lower ho7 (Nat.zero_le _), HFR.out.trans ((Fr.of_below hb7 (Nat.le_refl _)).mono (fun _ q => q.elim)) (fun i hi => .inl hi)⟩
      · exact aput_ws HB.out.keys HWS.out hxn _ _ _
      · have := hro k hk; have := hfb k q; omega
  · have HE := hid (show s.prepare n = (([], s.fit n), s) from by unfold QS.prepare; rw [if_pos h1])
    have hz : (s.fit n == 0) = false := by simpa using h1
    clear hfd hg
    go_wp2_with fail
    refine HF.out.mono ?_
    rintro e w1 ⟨rfl, rfl⟩
    go_wp2_with fail
    go_ret2
    unfold DPrepPost
    rw [HE.out]
    exact ⟨.slice none 0 0, rfl, ⟨F, H.out, Grew.refl _ _, fun k hk => by simp [Value.ownBlock] at hk⟩, FR.nil _ _ _, Fr.refl _ _⟩
theorem QR.same {α : Type} {E : Enc α} {T : QT} {F : Nat → Prop} {w w' : World} {b : Nat} {L : List α} {I : List WI} {g : Int} {iv qv : Value} (h : QR Zd E T (more F w w') w' b L I g iv qv) (hs : w'.heap.size = w.heap.size) (hF : ∀ i, F i → i < w.heap.size) : QR Zd E T F w' b L I g iv qv :=
  h.sub (fun i hi => hi.elim id (fun q => by omega)) (fun i hi => by rw [hs]; exact hF i hi)
theorem own_len (A : Option Addr) (n m c : Nat) : (Value.slice A n c).ownBlock = (Value.slice A m c).ownBlock := by cases A <;> rfl
theorem FR.own {α : Type} {E : Enc α} {e n c b off : Nat} {w : World} {v : Value} {A : Option Addr} {l : List α} (h : FR E e w v l) (hv : v = .slice A n c) (hp : 0 < l.length) (ha : A = some ⟨b, off, none⟩) : v.ownBlock = some b := by
  subst hv
  obtain ⟨g, hg⟩ := FR.form h hp
  rw [hg] at ha
  cases ha
  rw [hg]
  rfl
set_option maxRecDepth 100000 in
set_option maxHeartbeats 8000000 in
theorem dcommit_any {F : Nat → Prop} {w : World} {b : Nat} {s : QS} (h : DAt Zd F w b s) (hok : s.Ok) (n : Int) :
    Calls Tryz.prog 72 #[.pointer (some ⟨b, 3, none⟩), .int .i64 n] w (DPost Zd F w b (.int .i64 (s.commit n).1) (s.commit n).2) := by
  have hb := hok.bd
  have H := hid h
  obtain ⟨I, iv, qv, hR, hws⟩ := h
  have hIl : I.length ≤ 1000 := by have := hb.ws; rw [hws] at this; simpa [wsOf] using this
  have hfd := dfind_any hR (by omega) n
  have hg := aget_ws n I
  rw [← hws] at hg
  unfold findB at hfd
  have hil := hok.sz
  have hg1 := hok.g1
  have hg0 := hok.g0
  obtain ⟨A, c, hiv, hAc, hat⟩ := hR.it.at_
  have hc : w.cell? ⟨b, 3, none⟩ = some (.slice A s.its.length c) := by rw [cell_of_row w b 3 _ _ _ hR.blk, ← hiv]; rfl
  have HAT : Hid (RowAt encD 2 w w.heap.size A s.its) := hid hat
  have hblt := hR.fb _ hR.bF
  have HR := hid hR
  have HWS := hid hws
  have HB := hid hb
  have HOK := hid hok
  clear hR hws hb hok hat hiv
  go_enter Tryz.func72, Tryz.ntmps72
  by_cases h1 : n < 1
  · have HE := hid (show s.commit n = (1, s) from by unfold QS.commit; rw [if_pos h1])
    clear hfd hg
    go_wp2_with fail
    go_ret
    exact ⟨by rw [HE.out]; rfl, ⟨F, by rw [HE.out]; exact H.out, Grew.refl _ _⟩, Fr.refl _ _⟩
  · have HC := hid (show s.commit n = (0, ⟨keptI n s.its ++ newI (listOfW n s.ws) s.gv, adel n s.ws, s.gv + putsL (listOfW n s.ws)⟩) from by unfold QS.commit; rw [if_neg h1])
    have hn1 : 1 ≤ n := by omega
    have HN1 := hid hn1
    cases hq : I.find? (fun x => decide (x.n = n)) with
    | none =>
      rw [hq] at hfd hg
      simp only [Option.map_none] at hfd hg
      have hkp : keptI n s.its = s.its := by
        have h2 := HOK.out.held n (by omega)
        rw [listOfW_free hg] at h2
        have h3 : (heldI n s.its).length = 0 := by
          have := congrArg List.length h2
          simpa [takesOf] using this
        unfold keptI
        refine List.filter_eq_self.2 (fun x hx => ?_)
        have h4 := List.filter_eq_nil_iff.1 (List.eq_nil_of_length_eq_zero h3) x hx
        simpa using h4
      have HE := hid (show s.commit n = (0, s) from by rw [HC.out, listOfW_free hg, hkp, adel_none hg]; simp [newI, putsL])
      have HFD := hid hfd
      clear hfd hg hq hkp hn1
      go_wp2_with fail
      refine HFD.out.mono ?_
      rintro e w1 ⟨rfl, rfl⟩
      simp only [Option.map_none]
      go_wp2_with fail
      go_ret
      exact ⟨by rw [HE.out]; rfl, ⟨F, by rw [HE.out]; exact H.out, Grew.refl _ _⟩, Fr.refl _ _⟩
    | some x =>
      have hxI := List.mem_of_find?_eq_some hq
      have hxle : x.l.length ≤ 1000 := HB.out.ls (x.n, ⟨x.l, x.p⟩) (by rw [HWS.out]; exact List.mem_map.2 ⟨x, hxI, rfl⟩)
      rw [hq] at hfd hg
      simp only [Option.map_some] at hfd hg
      have hl0 : listOfW n s.ws = x.l := by unfold listOfW; rw [hg]; rfl
      rw [hl0] at HC
      have hpx : putsL x.l ≤ putsW s.ws := putsW_mem (x := (n, ⟨x.l, x.p⟩)) (aget_mem hg)
      have HXI := hid hxI
      have HFD := hid hfd
      clear hfd hg hq hl0 hxI hn1
      go_wp2_with fail
      refine HFD.out.mono ?_
      rintro e w1 ⟨rfl, rfl⟩
      simp only [Option.map_some]
      go_wp2_with fail
      go_loopg [6, 7] (s.its.length + 1) (fun m v6 v7 wr => ∃ i : Nat, v7 = .int .i64 i ∧ i ≤ s.its.length ∧ m = s.its.length + 1 - i ∧ eD.kd.R 129 wr w.heap.size (fun _ => True) v6 (keptI n (s.its.take i)) ∧ Below w.heap.size w wr)
      case atStart => exact ⟨0, rfl, Nat.zero_le _, rfl, Kd.R_nil _ _ _ _ _, Below.refl _ _⟩
      case round =>
        obtain ⟨i, rfl, hi, hm, hv, hbl⟩ := hrel
        have HN := hid hm
        have HBL := hid hbl
        have hcr : wr.cell? ⟨b, 3, none⟩ = some (.slice A s.its.length c) := (hbl.cell (World.block_lt_of_cell? _ _ hc)).trans hc
        obtain ⟨A3, c3, hv3⟩ := Kd.R_slice hv
        subst hv3
        have HV := hid hv
        clear hm hv
        by_cases h2 : i < s.its.length
        · obtain ⟨z, hz⟩ : ∃ z, s.its[i]? = some z := ⟨_, List.getElem?_eq_getElem h2⟩
          obtain ⟨b', off, rfl, hbb, hcc⟩ := HAT.out i z hz
          have i0 : w.cell? ⟨b', off + i * 2, none⟩ = some (.int .i64 z.num) := hcc 0 _ rfl
          have i1 : w.cell? ⟨b', off + i * 2 + 1, none⟩ = some (.int .u64 z.val) := hcc 1 _ rfl
          have m0 := (hbl.cell (World.block_lt_of_cell? _ _ i0)).trans i0
          have m1 := (hbl.cell (World.block_lt_of_cell? _ _ i1)).trans i1
          have htk := HOK.out.taker (List.mem_of_getElem? hz)
          have HT := hid (dtaker_any (H.out.below hbl) HB.out z.num)
          rw [htk] at HT
          have hst : keptI n (s.its.take (i + 1)) = keptI n (s.its.take i) ++ (if z.by_ = n then [] else [z]) := by
            unfold keptI
            rw [List.take_succ_eq_append_getElem h2, List.filter_append, (List.getElem?_eq_some_iff.1 hz).2]
            congr 1
            by_cases q : z.by_ = n <;> simp [q]
          have hkl : (keptI n (s.its.take i)).length ≤ 1000 := by
            have := List.length_filter_le (fun x : It => !(x.by_ == n)) (s.its.take i)
            rw [List.length_take] at this
            unfold keptI
            omega
          have HST := hid hst
          clear hcc hz i0 i1 hst htk
          generalize keptI n (s.its.take i) = xs at *
          by_cases q : z.by_ = n
          · have q' : (z.by_ != n) = false := by simpa using q
            have HQ := hid q
            clear q
            go_wp2_with fail
            refine HT.out.mono ?_
            rintro e w2 ⟨rfl, f2⟩
            go_wp2_with fail
            go_roundg (s.its.length + 1 - (i + 1))
            case measure => rw [HN.out]; omega
            case rel => exact ⟨i + 1, by go_num, by omega, rfl, by rw [HST.out, if_pos HQ.out, List.append_nil]; exact Kd.R_below HV.out f2, HBL.out.trans (f2.mono HBL.out.size)⟩
          · have q' : (z.by_ != n) = true := by simpa using q
            have HQ := hid q
            clear q
            go_wp2_with fail
            refine HT.out.mono ?_
            rintro e w2 ⟨rfl, f2⟩
            have p0 := (f2.cell (World.block_lt_of_cell? _ _ m0)).trans m0
            have p1 := (f2.cell (World.block_lt_of_cell? _ _ m1)).trans m1
            have p2 := (f2.cell (World.block_lt_of_cell? _ _ hcr)).trans hcr
            have hb2 := HBL.out.trans (f2.mono HBL.out.size)
            have HB2 := hid hb2
            have hsz2 : w.heap.size ≤ w2.heap.size := hb2.size
            have HV2 := hid (Kd.R_below HV.out f2)
            clear m0 m1 hcr HV HBL hb2 HT
            go_wp2_with (at_builtin; go_loud (refine Kd.R_append eD.kd (w0 := w) w.heap.size rfl (.tmp 37) (.tmp 45) 33 129 _ 16 rfl Tryz.underlying33 info129 (by rfl) (by decide) (by decide) (.slice A3 xs.length c3) xs z (encD z) (fun _ => True) (fun _ => False) rfl (by first | rfl | (simp; rfl)) rfl (fun _ q => q.elim) (fun _ _ => trivial) HV2.out HB2.out hsz2 (by omega) ?_); intro v7 w7 ho7 hb7 hg7 hat7; have HO7 := hid ho7; have HB7 := hid hb7; clear ho7 hb7 hg7 hat7)
            go_roundg (s.its.length + 1 - (i + 1))
            case measure => rw [HN.out]; omega
            case rel => exact ⟨i + 1, by go_num, by omega, rfl, by rw [HST.out, if_neg HQ.out]; exact HO7.out, HB7.out⟩
        · have hie : i = s.its.length := by omega
          subst hie
          have ht : keptI n (s.its.take s.its.length) = keptI n s.its := by rw [List.take_length]
          rw [ht] at HV ⊢
          obtain ⟨KP, hKP⟩ : ∃ KP, KP = keptI n s.its := ⟨_, rfl⟩
          rw [← hKP] at HV HC ⊢
          have hkl : KP.length ≤ 16 := by
            have := List.length_filter_le (fun x : It => !(x.by_ == n)) s.its
            rw [hKP]; unfold keptI; omega
          have HVO := hid (Kd.R_base HV.out)
          have HVF := hid (Kd.R_lower HV.out (Nat.zero_le _))
          have HRW := hid (HR.out.below HBL.out)
          have hfw : Fr F w wr := (Fr.of_below HBL.out (Nat.le_refl _)).mono (fun _ q => q.elim)
          have HFW := hid hfw
          clear ht hKP hfw HV
          go_wp2_with fail
          have hvo0 := HVO.out
          have hblk0 : ∀ k, (Value.slice A3 KP.length c3).ownBlock = some k → w.heap.size ≤ k := HVO.out
          go_loopg [6, 8] (x.l.length + 1) (fun m v6 v8 wr => ∃ i : Nat, v8 = .int .i64 i ∧ i ≤ x.l.length ∧ m = x.l.length + 1 - i ∧ FR eD 129 wr v6 (KP ++ newI (x.l.take i) s.gv) ∧ (∀ k, v6.ownBlock = some k → w.heap.size ≤ k) ∧ QR Zd eD T1 F wr b s.its I (s.gv + putsL (x.l.take i)) iv qv ∧ Fr F w wr)
          case atStart => exact ⟨0, rfl, Nat.zero_le _, rfl, by simpa [newI] using HVF.out, HVO.out, by simpa [putsL] using HRW.out, HFW.out⟩
          case round =>
            obtain ⟨i, rfl, hi2, hm, hv, hvo, hQ, hfr⟩ := hrel
            clear HFW HRW HVF HVO hvo0 hblk0 HBL HN
            have HN := hid hm
            have HVO := hid hvo
            have HQ := hid hQ
            have HFR := hid hfr
            obtain ⟨A5, c5, hv5⟩ := Kd.R_slice hv
            subst hv5
            have HV := hid hv
            have hwk := hQ.wk x HXI.out
            obtain ⟨A4, c4, hv4, hc4, hat4⟩ := hwk.2.2.1.at_
            have kx : wr.cell? ⟨x.wb, 1, none⟩ = some (.slice A4 x.l.length c4) := by rw [cell_of_row _ _ 1 _ _ _ hwk.2.1, ← hv4]; rfl
            have HOWN := hid (fun (hp : 0 < x.l.length) (b' off : Nat) (e : A4 = some ⟨b', off, none⟩) => FR.own hwk.2.2.1 hv4 hp e)
            have hltr := hQ.fb
            have hbF := hQ.bF
            have HLT := hid HR.out.fb
            clear hm hvo hQ hfr hv hwk hv4
            by_cases h3 : i < x.l.length
            · obtain ⟨y, hy⟩ : ∃ y, x.l[i]? = some y := ⟨_, List.getElem?_eq_getElem h3⟩
              obtain ⟨b', off, rfl, hbb, hcc⟩ := hat4 i y hy
              have k0 : wr.cell? ⟨b', off + i * 3, none⟩ = some (.int .i64 y.kind) := hcc 0 _ rfl
              have k2 : wr.cell? ⟨b', off + i * 3 + 2, none⟩ = some (.int .u64 y.val) := hcc 2 _ rfl
              have hst : x.l.take (i + 1) = x.l.take i ++ [y] := by
                rw [List.take_succ_eq_append_getElem h3]
                congr 2
                exact (List.getElem?_eq_some_iff.1 hy).2
              have hns := newI_snoc (x.l.take i) y s.gv
              rw [← hst] at hns
              have hpt := putsL_take hy
              have hple : putsL (x.l.take i) ≤ putsL x.l := by
                have h4 := putsL_append (x.l.take i) (x.l.drop i)
                rw [List.take_append_drop] at h4
                omega
              have hnl := newI_len (x.l.take i) s.gv
              have HNS := hid hns
              have HPT := hid hpt
              have HNL := hid hnl
              have hlst : b' ≠ b := fun q => types_ne ((HQ.out.wk x HXI.out).2.2.1.typed (HOWN.out (by omega) b' off rfl)) ⟨_, by rw [q]; exact HQ.out.blk⟩ (by decide)
              clear hcc hy hat4 hst hns hpt hnl
              generalize putsL (x.l.take i) = P at *
              generalize newI (x.l.take i) s.gv = NI at *
              cases q : (y.kind == 3)
              · go_wp2_with fail
                go_roundg (x.l.length + 1 - (i + 1))
                case measure => rw [HN.out]; omega
                case rel => exact ⟨i + 1, by go_num, by omega, rfl, by rw [HNS.out, q]; simpa using HV.out, HVO.out, by rw [HPT.out, q]; simpa using HQ.out, HFR.out⟩
              · have kg : wr.cell? ⟨b, 5, none⟩ = some (.int .i64 (s.gv + P)) := by rw [cell_of_row _ b 5 _ _ _ HQ.out.blk]; rfl
                have hzg : wr.frozen? ⟨b, 5, none⟩ = false := by simp [World.frozen?, HQ.out.blk]
                have ww : IntKind.i64.wrap (s.gv + (P : Int) + 1) = s.gv + P + 1 := wr64 (by omega) (by omega)
                have hf1 : Fr (fun k => k = b) wr (wr.setCell ⟨b, 5, none⟩ (.int .i64 (s.gv + P + 1))) := Fr.setCell (S := fun k => k = b) (p := ⟨b, 5, none⟩) (Fr.refl _ _) (.inl rfl) _
                have hsz1 : (wr.setCell ⟨b, 5, none⟩ (.int .i64 (s.gv + P + 1))).heap.size = wr.heap.size := by simp [World.setCell]
                have hQ1 := (HQ.out.turn (hf1.mono (fun k hk => .inl hk)) (blk_set' HQ.out.blk 5 (.int .i64 (s.gv + P + 1))) (HQ.out.it.move (fun k hk => hf1.block k (HQ.out.it.lt hk) (fun q => HQ.out.iv_ne.1 (by rw [hk, q])))) (HQ.out.wp.move (fun k hk => hf1.block k (HQ.out.wp.lt hk) (fun q => HQ.out.iv_ne.2.1 (by rw [hk, q])))) (List.Sublist.refl _) (fun j hj => .inl hj) (fun j hj => .inl hj)).same hsz1 hltr
                have hV1 : FR eD 129 (wr.setCell ⟨b, 5, none⟩ (.int .i64 (s.gv + P + 1))) (.slice A5 (KP ++ NI).length c5) (KP ++ NI) := FR.move HV.out (fun k hk => hf1.block k (FR.lt HV.out hk) (fun q => by have := HVO.out k hk; omega))
                have hfz := HFR.out.trans hf1 (fun j hj => .inl (by rw [hj]; exact hbF))
                have kx1 : (wr.setCell ⟨b, 5, none⟩ (.int .i64 (s.gv + P + 1))).cell? ⟨x.wb, 1, none⟩ = some (.slice (some ⟨b', off, none⟩) x.l.length c4) := hf1.cell kx (HQ.out.wb_ne HXI.out).1
                have k21 : (wr.setCell ⟨b, 5, none⟩ (.int .i64 (s.gv + P + 1))).cell? ⟨b', off + i * 3 + 2, none⟩ = some (.int .u64 y.val) := hf1.cell k2 hlst
                have HQ1 := hid hQ1
                have HV1 := hid hV1
                have HFZ := hid hfz
                clear hf1 hQ1 hV1 hfz hsz1 HQ HV HFR
                go_wp2_with fail
                generalize (wr.setCell ⟨b, 5, none⟩ (.int .i64 (s.gv + P + 1))) = wz at *
                have hll : (KP ++ NI).length ≤ 2000 := by rw [List.length_append, HNL.out]; omega
                generalize hL : KP ++ NI = L at *
                have z2 : wz.cell? ⟨b, 5, none⟩ = some (.int .i64 (s.gv + P + 1)) := by rw [cell_of_row _ b 5 _ _ _ HQ1.out.blk]; rfl
                have HVD := hid (FR.below HV1.out (bd1 wz))
                go_region_law (refine Kd.R_append_step eD.kd (w0 := wz.drew) 0 (by rfl) (.tmp 73) (.tmp 87) 33 129 _ 16 rfl Tryz.underlying33 info129 (by rfl) (by decide) (by decide) (.slice A5 L.length c5) L ⟨s.gv + P + 1, y.val, 0⟩ (encD ⟨s.gv + P + 1, y.val, 0⟩) (fun _ => True) (fun _ => False) (by simp [Act.eval, Act.put]) (by simp [Act.eval, Act.put]) rfl (fun _ q => q.elim) (fun _ _ => trivial) HVD.out (Below.refl _ _) (Nat.zero_le _) (by omega) ?_; intro v5 w5 ho5 hb5 hg5 hat5; have HO5 := hid ho5; have HG5 := hid hg5; have HT5 := hid hat5; clear ho5 hg5 hat5)
                all_goals
                  have hgr5 : Fr (fun k => (Value.slice A5 L.length c5).ownBlock = some k) wz.drew w5 := (Fr.of_grown HG5.out).mono (fun k hk => hk)
                  have hq5 : QR Zd eD T1 F w5 b s.its I (s.gv + P + 1) iv qv := (HQ1.out.below (bd1 wz)).fr hgr5 (fun k hk q => by have h7 := HVO.out k q; have h8 := HLT.out k hk; omega)
                  have hfr5 : Fr F w w5 := HFZ.out.drew.trans hgr5 (fun j hj => .inr (HVO.out j hj))
                  have hvo5 : ∀ k, v5.ownBlock = some k → w.heap.size ≤ k := fun k hk => by
                    rcases HT5.out with q | ⟨b', q, hb⟩
                    · exact HVO.out k (q ▸ hk)
                    · rw [hk] at q; cases q; exact Nat.le_trans HFZ.out.size hb
                  have HQ5 := hid hq5
                  have HFR5 := hid hfr5
                  have HVO5 := hid hvo5
                  clear hgr5 hq5 hfr5 hvo5
                  go_wp2_with fail
                  go_roundg (x.l.length + 1 - (i + 1))
                  case measure => rw [HN.out]; omega
                  case rel => exact ⟨i + 1, by go_num, by omega, rfl, by
                    rw [HNS.out, q, ← List.append_assoc, hL]
                    exact HO5.out, HVO5.out, by
                    rw [HPT.out, q]
                    have h9 := HQ5.out
                    simpa [Int.add_assoc] using h9, HFR5.out⟩
            · have hil2 : i = x.l.length := by omega
              subst hil2
              have hQe := HQ.out
              have hVe := HV.out
              rw [List.take_length] at hQe hVe
              have e1 : (KP ++ newI (x.l.take x.l.length) s.gv).length = (KP ++ newI x.l s.gv).length := by rw [List.take_length]
              rw [e1]
              obtain ⟨L, hL⟩ : ∃ L, L = KP ++ newI x.l s.gv := ⟨_, rfl⟩
              rw [← hL] at hVe HC ⊢
              have k00 : wr.cell? ⟨b, 3, none⟩ = some iv := by rw [cell_of_row _ b 3 _ _ _ hQe.blk]; rfl
              have hz0 : wr.frozen? ⟨b, 3, none⟩ = false := by simp [World.frozen?, hQe.blk]
              have hf1 : Fr (fun k => k = b) wr (wr.setCell ⟨b, 3, none⟩ (.slice A5 L.length c5)) := Fr.setCell (S := fun k => k = b) (p := ⟨b, 3, none⟩) (Fr.refl _ _) (.inl rfl) _
              have hVO : ∀ k, (Value.slice A5 L.length c5).ownBlock = some k → w.heap.size ≤ k := fun k hk => HVO.out k ((own_len _ _ _ _).trans hk)
              have hi1 : FR eD 129 (wr.setCell ⟨b, 3, none⟩ (.slice A5 L.length c5)) (.slice A5 L.length c5) L := FR.move hVe (fun k hk => hf1.block k (FR.lt hVe hk) (fun q => by have := hVO k hk; omega))
              have hq1 : FR eWI 102 (wr.setCell ⟨b, 3, none⟩ (.slice A5 L.length c5)) qv I := hQe.wp.move (fun k hk => hf1.block k (hQe.wp.lt hk) (fun q => hQe.iv_ne.2.1 (by rw [hk, q])))
              have hfall : Fr F w (wr.setCell ⟨b, 3, none⟩ (.slice A5 L.length c5)) := HFR.out.trans hf1 (fun i hi => .inl (by rw [hi]; exact hbF))
              have hsz1 : (wr.setCell ⟨b, 3, none⟩ (.slice A5 L.length c5)).heap.size = wr.heap.size := by simp [World.setCell]
              have hQfin : QR Zd eD T1 (fun k => F k ∨ (w.heap.size ≤ k ∧ k < wr.heap.size)) (wr.setCell ⟨b, 3, none⟩ (.slice A5 L.length c5)) b L I (s.gv + putsL x.l) (.slice A5 L.length c5) qv := by
                have h0 : QR Zd eD T1 (fun k => F k ∨ (w.heap.size ≤ k ∧ k < wr.heap.size)) wr b s.its I (s.gv + putsL x.l) iv qv := hQe.sub (fun k hk => .inl hk) (fun k hk => hk.elim (hltr k) (fun q => q.2))
                have h1 := QR.mk (E := eD) (T := T1) (F := fun k => F k ∨ (w.heap.size ≤ k ∧ k < wr.heap.size)) (w := (wr.setCell ⟨b, 3, none⟩ (.slice A5 L.length c5))) (b := b) (L := L) (I := I) (g := s.gv + putsL x.l) (iv := .slice A5 L.length c5) (qv := qv) (fun k hk => by rw [hsz1]; exact h0.fb k hk) (.inl hbF) (blk_set' hQe.blk 3 _) hi1 hq1 (fun k hk => .inr ⟨hVO k hk, FR.lt hVe hk⟩) (fun k hk => .inl (hQe.qF k hk)) (fun y hy => ⟨h0.wk y hy |>.1, hf1.at_ (h0.wk y hy).2.1 (h0.wb_ne hy).1, (h0.wk y hy).2.2.1.move (fun k hk => hf1.block k ((h0.wk y hy).2.2.1.lt hk) (h0.row_ne hy hk).1), (h0.wk y hy).2.2.2⟩) h0.apart
                exact h1
              have hgrow : Grew F (fun k => F k ∨ (w.heap.size ≤ k ∧ k < wr.heap.size)) w := fun k hk => hk.imp id (fun q => q.1)
              have HDR := hid (ddrop_any (s := ⟨L, s.ws, s.gv + putsL x.l⟩) ⟨I, _, _, hQfin, HWS.out⟩ HB.out.ws n)
              have HFALL := hid hfall
              have HGR := hid hgrow
              clear hi1 hq1 hf1 hQfin hfall hVe hQe hVO hL e1 HV
              go_wp2_with fail
              refine HDR.out.mono ?_
              rintro e w5 ⟨rfl, ⟨F5, h5, g5⟩, f5⟩
              go_wp2_with fail
              go_ret
              exact ⟨by rw [HC.out]; rfl, ⟨F5, by rw [HC.out]; exact h5, HGR.out.trans g5 HFALL.out.size⟩, HFALL.out.trans f5 (fun j hj => HGR.out j hj)⟩
end Go.Proofs.YtdejbinmnoabeaaGreat.E

/- Walks of the queue: note, gone. Conditions: the queue reads as QAt Zz says. -/
import Derived.Test.YtdejbinmnoabeaaQuG
namespace Go.Proofs.Ytdejbinmnoabeaa.Q
variable {Zz : QZ}
open Go.RowKit Go.Mine Go.Proofs.YtdejbinmnoabeaaW.PrintWords
set_option linter.unusedVariables false
set_option linter.unusedSimpArgs false
def NotePost (Zz : QZ) (F : Nat → Prop) (w : World) (b : Nat) (s' : QS) (e : Ending) (w' : World) : Prop :=
  e = .returned (.tuple #[]) ∧ (∃ F', QAt Zz F' w' b s' ∧ Grew F F' w) ∧ Fr F w w'
theorem Grew.up {F F' : Nat → Prop} {w w' : World} (h : Grew F F' w') (hs : w.heap.size ≤ w'.heap.size) : Grew F F' w := fun i hi => (h i hi).imp id (fun q => Nat.le_trans hs q)
set_option maxRecDepth 100000 in
set_option maxHeartbeats 8000000 in
theorem note_any {F : Nat → Prop} {w : World} {b : Nat} {s : QS} (h : QAt Zz F w b s) (hb : s.Bd) (n : Int) (c : Ch) :
    Calls Try.prog 61 #[.pointer (some ⟨b, 34, none⟩), .int .i64 n, ChV c] w (NotePost Zz F w b ⟨s.its, noteW n c s.ws, s.gv⟩) := by
  have hb0 : Below w.heap.size w (w.alloc (.cells #[.int .i64 c.kind, .int .i64 c.key, .int .u64 c.val] 62)) := (Below.refl _ _).alloc (Nat.le_refl _) _
  have hx0 : (w.alloc (.cells #[.int .i64 c.kind, .int .i64 c.key, .int .u64 c.val] 62)).heap[w.heap.size]? = some (.cells #[.int .i64 c.kind, .int .i64 c.key, .int .u64 c.val] 62 (0, 0)) := (MapKept.heap_alloc w _).1
  obtain ⟨I, iv, qv, hR, hws⟩ := h
  obtain ⟨hb1, hb2, hb3, hb4, hb5, hb6, hb7⟩ := hb
  have hIl : I.length ≤ 1000 := by rw [hws] at hb3; simpa [wsOf] using hb3
  have ha := hR.below hb0
  have hfd := find_any ha (by omega) n
  have hbx : ¬ F w.heap.size := fun q => by have := hR.fb _ q; omega
  have hg := aget_ws n I
  rw [← hws] at hg
  have hfw : Fr F w (w.alloc (.cells #[.int .i64 c.kind, .int .i64 c.key, .int .u64 c.val] 62)) := (Fr.refl _ w).alloc _
  have hlsI : ∀ x ∈ I, x.l.length ≤ 1000 := fun x hx => hb4 (x.n, ⟨x.l, x.p⟩) (by rw [hws]; exact List.mem_map.2 ⟨x, hx, rfl⟩)
  have hsz : (w.alloc (.cells #[.int .i64 c.kind, .int .i64 c.key, .int .u64 c.val] 62)).heap.size = w.heap.size + 1 := by simp
  unfold findB at hfd
  have HWS := hid hws
  have HX0 := hid hx0
  have HBX := hid hbx
  have HFW0 := hid hfw
  have HLS := hid hlsI
  have HKEYS := hid hb1
  have HA := hid ha
  have HSZ := hid hsz
  clear hx0 hbx hfw hlsI hb4 hws hR hb1 hb0 ha hsz
  go_enter Try.func61, Try.ntmps61
  cases hf : I.find? (fun x => decide (x.n = n)) with
  | some x =>
    obtain ⟨J1, J2, hJ, hxn, _⟩ := find_split hf
    rw [hf] at hfd hg
    simp only [Option.map_some] at hfd hg
    have hnw : ∀ v', noteW n c s.ws = wsOf (J1 ++ ⟨x.n, x.wb, v', x.l ++ [c], x.p⟩ :: J2) := fun v' => by
      unfold noteW
      rw [hg]
      exact aput_ws HKEYS.out (by rw [HWS.out, hJ]) hxn _ _ _
    have HNW := hid hnw
    have HFD := hid hfd
    have hxI : x ∈ I := List.mem_of_find?_eq_some hf
    have hxle := HLS.out x hxI
    subst hJ
    clear hfd hg hf hnw hxI
    go_wp2_with fail
    generalize (w.alloc (.cells #[.int .i64 c.kind, .int .i64 c.key, .int .u64 c.val] 62)) = wr at *
    generalize w.heap.size = bx at *
    refine HFD.out.mono ?_
    rintro e w1 ⟨rfl, rfl⟩
    simp only [Option.map_some]
    have HGW : Hid (Grew F F w) := hid (Grew.refl _ _)
    have HD := HA
    have HX := HX0
    have HFW := HFW0
    obtain ⟨A, cp, hv, hAc, hat⟩ := (HD.out.wk x (by simp)).2.2.1.at_
    have hx1 := (HD.out.wk x (by simp)).2.1
    rw [hv] at hx1
    have c1 : wr.cell? ⟨x.wb, 1, none⟩ = some (.slice A x.l.length cp) := by rw [cell_of_row _ _ 1 _ _ _ hx1]; rfl
    have e0 : wr.cell? ⟨bx, 0, none⟩ = some (.int .i64 c.kind) := by rw [cell_of_row _ _ 0 _ _ _ HX.out]; rfl
    have e1 : wr.cell? ⟨bx, 1, none⟩ = some (.int .i64 c.key) := by rw [cell_of_row _ _ 1 _ _ _ HX.out]; rfl
    have e2 : wr.cell? ⟨bx, 2, none⟩ = some (.int .u64 c.val) := by rw [cell_of_row _ _ 2 _ _ _ HX.out]; rfl
    have c1a : (wr.alloc (.cells #[.int .i64 c.kind, .int .i64 c.key, .int .u64 c.val] 62)).cell? ⟨x.wb, 1, none⟩ = some (.slice A x.l.length cp) := by rw [World.cell?_alloc_lt _ _ _ (World.block_lt_of_cell? _ _ c1)]; exact c1
    have hH3 := HD.out.below (bd1 wr)
    have hx3 := hH3.wk x (by simp)
    have hrow := hx3.2.2.1
    rw [hv] at hrow
    have H3 := hid hH3
    have HX3 := hid hx3
    have HROW := hid hrow
    have HV := hid hv
    have HB3 : Hid (Fr F w wr.drew) := hid HFW.out.drew
    clear hH3 hx3 hrow hat hx1 hv HD HX
    go_wp2_with fail
    go_region_law (refine Kd.R_append_step eCh.kd (w0 := wr.drew) 0 (by rfl) (.tmp 29) (.tmp 31) 22 62 _ 24 rfl Try.underlying22 info62 (by rfl) (by decide) (by decide) (.slice A x.l.length cp) x.l c (encCh c) (fun _ => True) (fun _ => False) (by simp [Act.eval, Act.put]) (by simp [Act.eval, Act.put]) rfl (fun _ q => q.elim) (fun _ _ => trivial) HROW.out (Below.refl _ _) (Nat.zero_le _) (by omega) ?_; intro v5 w5 ho5 hb5 hg5 hat5; have hb5' : w5.heap[x.wb]? = some (.cells #[.int .i64 x.n, .slice A x.l.length cp, .bool x.p] 118 (0, 0)) := (by have := (hg5.block _ (Array.getElem?_eq_some_iff.1 HX3.out.2.1).1 (fun q => types_ne (HROW.out.typed q.symm) ⟨_, HX3.out.2.1⟩ (by decide))).trans HX3.out.2.1; rw [HV.out] at this; exact this); have hc5 : w5.cell? ⟨x.wb, 1, none⟩ = some (.slice A x.l.length cp) := (by rw [cell_of_row w5 x.wb 1 _ _ _ hb5']; rfl); have hz5 : w5.frozen? ⟨x.wb, 1, none⟩ = false := (by simp [World.frozen?, hb5']); have HO5 := hid ho5; have HG5 := hid hg5; have HT5 := hid hat5; have HB5 := hid hb5'; clear ho5 hg5 hat5 hb5'; obtain ⟨A5, c5, hv5⟩ := Kd.R_slice HO5.out; rw [List.length_append, List.length_singleton] at hv5; subst hv5)
    all_goals
      have hs6 : Fr (fun j => j = x.wb ∨ x.v.ownBlock = some j) wr.drew (w5.setCell ⟨x.wb, 1, none⟩ (.slice A5 (x.l.length + 1) c5)) := Fr.setCell (p := ⟨x.wb, 1, none⟩) ((Fr.of_grown HG5.out).mono (fun j hj => .inr (by rw [HV.out]; exact hj))) (.inl (.inl rfl)) _
      have hb6 : (w5.setCell ⟨x.wb, 1, none⟩ (.slice A5 (x.l.length + 1) c5)).heap[x.wb]? = some (.cells #[.int .i64 x.n, .slice A5 (x.l.length + 1) c5, .bool x.p] 118 (0, 0)) := blk_set' HB5.out 1 _
      have hr6 : ChRow (w5.setCell ⟨x.wb, 1, none⟩ (.slice A5 (x.l.length + 1) c5)) (.slice A5 (x.l.length + 1) c5) (x.l ++ [c]) := FR.move HO5.out (fun k hk => Below.heap_setCell _ _ _ _ (fun q => by
        have q' : k = x.wb := q
        subst q'
        exact types_ne (FR.typed HO5.out hk) ⟨_, HB5.out⟩ (by decide)))
      have hfin := H3.out.work hs6 hb6 hr6 (by rw [HV.out]; exact HT5.out)
      have hfr : Fr F w (w5.setCell ⟨x.wb, 1, none⟩ (.slice A5 (x.l.length + 1) c5)) := HB3.out.trans hs6 (fun j hj => by
        rcases hj with q | q
        · exact HGW.out j (by rw [q]; exact HX3.out.1)
        · exact HGW.out j (HX3.out.2.2.2 j q))
      have hgr := HGW.out.trans (grew_more _ wr.drew (w5.setCell ⟨x.wb, 1, none⟩ (.slice A5 (x.l.length + 1) c5))) HB3.out.size
      have HFIN := hid hfin
      have HFR := hid hfr
      have HGR := hid hgr
      clear hfin hfr hgr hs6 hb6 hr6
      go_wp2_with fail
      go_end0
      exact ⟨rfl, ⟨_, ⟨_, _, _, HFIN.out, HNW.out _⟩, HGR.out⟩, HFR.out⟩
  | none =>
    rw [hf] at hfd hg
    simp only [Option.map_none] at hfd hg
    have HFD := hid hfd
    have hnw : ∀ wb v', noteW n c s.ws = wsOf (I ++ ⟨n, wb, v', [] ++ [c], false⟩ :: []) := fun wb v' => by
      unfold noteW
      rw [hg, HWS.out]
      simp [wsOf]
    have HNW0 := hid hnw
    clear hfd hg hf hnw
    go_wp2_with fail
    generalize (w.alloc (.cells #[.int .i64 c.kind, .int .i64 c.key, .int .u64 c.val] 62)) = wa at *
    obtain ⟨bx, hbxe⟩ : ∃ bx, bx = w.heap.size := ⟨_, rfl⟩
    rw [← hbxe] at HX0 HBX HSZ ⊢
    refine HFD.out.mono ?_
    rintro e w1 ⟨rfl, rfl⟩
    simp only [Option.map_none]
    obtain ⟨Aq, cq, rfl, hAq, _⟩ := HA.out.wp.at_
    have hb3 : Below wa.heap.size wa (wa.alloc (.cells #[.int .i64 n, .slice none 0 0, .bool false] 118)) := (Below.refl _ _).alloc (Nat.le_refl _) _
    have hy3 : (wa.alloc (.cells #[.int .i64 n, .slice none 0 0, .bool false] 118)).heap[wa.heap.size]? = some (.cells #[.int .i64 n, .slice none 0 0, .bool false] 118 (0, 0)) := (MapKept.heap_alloc wa _).1
    have hR3 := HA.out.below hb3
    have hw3 : Fr (fun _ => False) wa (wa.alloc (.cells #[.int .i64 n, .slice none 0 0, .bool false] 118)) := (Fr.refl _ wa).alloc _
    have hc3 : (wa.alloc (.cells #[.int .i64 n, .slice none 0 0, .bool false] 118)).cell? ⟨b, 35, none⟩ = some (.slice Aq I.length cq) := by rw [cell_of_row _ b 35 _ _ _ hR3.blk]; exact qget1 _ _ _ _
    have HY3 := hid hy3
    have HR3 := hid hR3
    have HW3 := hid hw3
    have hwlt := HA.out.fb _ HA.out.bF
    clear hb3 hy3 hR3 hw3 HFD hbxe
    go_wp2_with (at_builtin; go_loud (refine Kd.R_append eWI.kd (w0 := (wa.alloc (.cells #[.int .i64 n, .slice none 0 0, .bool false] 118))) 0 rfl (.tmp 19) (.tmp 21) 85 105 _ 8 rfl Try.underlying85 info105 (by rfl) (by decide) (by decide) (.slice Aq I.length cq) I ⟨n, wa.heap.size, .slice none 0 0, [], false⟩ [ptrV wa.heap.size] (fun _ => True) (fun _ => False) rfl (by first | rfl | (simp; rfl)) rfl (fun _ q => q.elim) (fun _ _ => trivial) HR3.out.wp (Below.refl _ _) (Nat.zero_le _) (by omega) ?_); intro v8 w8 ho8 hb8 hg8 hat8; have hx8 : w8.heap[b]? = some (.cells (qCells Zz (iv) (.slice Aq I.length cq) (s.gv)) 91 (0, 0)) := (hg8.block _ (HR3.out.fb _ HR3.out.bF) (fun q => HR3.out.iv_ne.2.1 q.symm)).trans HR3.out.blk; have hz8 : w8.frozen? ⟨b, 35, none⟩ = false := (by simp [World.frozen?, hx8]); have hc8 : w8.cell? ⟨b, 35, none⟩ = some (.slice Aq I.length cq) := (by rw [cell_of_row w8 _ 35 _ _ _ hx8]; exact qget1 _ _ _ _); have HO8 := hid ho8; have HX8 := hid hx8; have HG8 := hid hg8; have HAT8 := hid hat8; clear ho8 hb8 hg8 hat8 hx8; obtain ⟨A8, c8, hv8⟩ := Kd.R_slice HO8.out; rw [List.length_append, List.length_singleton] at hv8; subst hv8)
    have hf8 : Fr (fun i => i = b ∨ (Value.slice Aq I.length cq).ownBlock = some i) (wa.alloc (.cells #[.int .i64 n, .slice none 0 0, .bool false] 118)) (w8.setCell ⟨b, 35, none⟩ (.slice A8 (I.length + 1) c8)) := Fr.setCell (p := ⟨b, 35, none⟩) ((Fr.of_grown HG8.out).mono (fun j hj => .inr hj)) (.inl (.inl rfl)) _
    have hfw : Fr (fun i => i = b ∨ (Value.slice Aq I.length cq).ownBlock = some i) wa (w8.setCell ⟨b, 35, none⟩ (.slice A8 (I.length + 1) c8)) := (HW3.out.mono (fun i hi => hi.elim)).trans hf8 (fun i hi => .inl hi)
    have hi8 : FR eIt 108 (w8.setCell ⟨b, 35, none⟩ (.slice A8 (I.length + 1) c8)) iv s.its := HA.out.it.move (fun k hk => hfw.block k (HA.out.it.lt hk) (fun q => by
      rcases q with q | q
      · exact HA.out.iv_ne.1 (by rw [hk, q])
      · exact HA.out.iv_ne.2.2 k hk q))
    have hq8 : FR eWI 105 (w8.setCell ⟨b, 35, none⟩ (.slice A8 (I.length + 1) c8)) (.slice A8 (I.length + 1) c8) (I ++ [⟨n, wa.heap.size, .slice none 0 0, [], false⟩]) := by
      have h0 : FR eWI 105 w8 (.slice A8 (I.length + 1) c8) (I ++ [⟨n, wa.heap.size, .slice none 0 0, [], false⟩]) := HO8.out
      exact h0.move (fun j hj => Below.heap_setCell _ _ _ _ (fun q => h0.ne HX8.out (by decide) (by rw [hj]; exact congrArg some q)))
    have hyk := hf8.at_ HY3.out (fun q => by
      rcases q with q | q
      · have := hwlt; omega
      · have := HA.out.wp.lt q; omega)
    have hfin := HA.out.addw (y := ⟨n, wa.heap.size, .slice none 0 0, [], false⟩) (hfw.mono (fun i hi => hi.imp id (fun q => .inr q))) (blk_q1 HX8.out (.slice A8 (I.length + 1) c8)) hi8 hq8 hyk (Nat.le_refl _) (FR.nil _ _ _) (fun k hk => by simp [Value.ownBlock] at hk) (fun j hj => by
      rcases HAT8.out with q | ⟨b', q, hb⟩
      · exact .inl (q ▸ hj)
      · rw [hj] at q; cases q; exact .inr (Nat.le_trans HW3.out.size hb))
    have hx9 : (w8.setCell ⟨b, 35, none⟩ (.slice A8 (I.length + 1) c8)).heap[bx]? = some (.cells #[.int .i64 c.kind, .int .i64 c.key, .int .u64 c.val] 62 (0, 0)) := hfw.at_ HX0.out (fun q => by
      rcases q with q | q
      · exact HBX.out (by rw [q]; exact HA.out.bF)
      · exact HBX.out (HA.out.qF _ q))
    have hfr9 : Fr F w (w8.setCell ⟨b, 35, none⟩ (.slice A8 (I.length + 1) c8)) := HFW0.out.trans hfw (fun j hj => .inl (by
      rcases hj with q | q
      · rw [q]; exact HA.out.bF
      · exact HA.out.qF _ q))
    have hgw9 := (grew_more F wa (w8.setCell ⟨b, 35, none⟩ (.slice A8 (I.length + 1) c8))).up HFW0.out.size
    obtain ⟨x, hxe⟩ : ∃ x : WI, x = ⟨n, wa.heap.size, .slice none 0 0, [], false⟩ := ⟨_, rfl⟩
    have hxw : wa.heap.size = x.wb := by rw [hxe]
    have hnw : ∀ v', noteW n c s.ws = wsOf (I ++ ⟨x.n, x.wb, v', x.l ++ [c], x.p⟩ :: []) := fun v' => by rw [hxe]; exact HNW0.out _ v'
    have hxle : x.l.length ≤ 1000 := by rw [hxe]; simp
    rw [← hxe] at hfin
    have HD := hid hfin
    have HX := hid hx9
    have HFW := hid hfr9
    have HGW := hid hgw9
    have HNW := hid hnw
    rw [hxw]
    generalize (more F wa (w8.setCell ⟨b, 35, none⟩ (.slice A8 (I.length + 1) c8))) = F2 at *
    clear hf8 hfw hi8 hq8 hyk hfin hx9 hfr9 hgw9 hnw HO8 HX8 HG8 HAT8 HA HR3 HY3 HW3 hc3 hz8 hc8 HX0 HFW0 HNW0 hxe hxw hwlt
    generalize (w8.setCell ⟨b, 35, none⟩ (.slice A8 (I.length + 1) c8)) = wr at *
    obtain ⟨A, cp, hv, hAc, hat⟩ := (HD.out.wk x (by simp)).2.2.1.at_
    have hx1 := (HD.out.wk x (by simp)).2.1
    rw [hv] at hx1
    have c1 : wr.cell? ⟨x.wb, 1, none⟩ = some (.slice A x.l.length cp) := by rw [cell_of_row _ _ 1 _ _ _ hx1]; rfl
    have e0 : wr.cell? ⟨bx, 0, none⟩ = some (.int .i64 c.kind) := by rw [cell_of_row _ _ 0 _ _ _ HX.out]; rfl
    have e1 : wr.cell? ⟨bx, 1, none⟩ = some (.int .i64 c.key) := by rw [cell_of_row _ _ 1 _ _ _ HX.out]; rfl
    have e2 : wr.cell? ⟨bx, 2, none⟩ = some (.int .u64 c.val) := by rw [cell_of_row _ _ 2 _ _ _ HX.out]; rfl
    have c1a : (wr.alloc (.cells #[.int .i64 c.kind, .int .i64 c.key, .int .u64 c.val] 62)).cell? ⟨x.wb, 1, none⟩ = some (.slice A x.l.length cp) := by rw [World.cell?_alloc_lt _ _ _ (World.block_lt_of_cell? _ _ c1)]; exact c1
    have hH3 := HD.out.below (bd1 wr)
    have hx3 := hH3.wk x (by simp)
    have hrow := hx3.2.2.1
    rw [hv] at hrow
    have H3 := hid hH3
    have HX3 := hid hx3
    have HROW := hid hrow
    have HV := hid hv
    have HB3 : Hid (Fr F w wr.drew) := hid HFW.out.drew
    clear hH3 hx3 hrow hat hx1 hv HD HX
    go_wp2_with fail
    go_region_law (refine Kd.R_append_step eCh.kd (w0 := wr.drew) 0 (by rfl) (.tmp 29) (.tmp 31) 22 62 _ 24 rfl Try.underlying22 info62 (by rfl) (by decide) (by decide) (.slice A x.l.length cp) x.l c (encCh c) (fun _ => True) (fun _ => False) (by simp [Act.eval, Act.put]) (by simp [Act.eval, Act.put]) rfl (fun _ q => q.elim) (fun _ _ => trivial) HROW.out (Below.refl _ _) (Nat.zero_le _) (by omega) ?_; intro v5 w5 ho5 hb5 hg5 hat5; have hb5' : w5.heap[x.wb]? = some (.cells #[.int .i64 x.n, .slice A x.l.length cp, .bool x.p] 118 (0, 0)) := (by have := (hg5.block _ (Array.getElem?_eq_some_iff.1 HX3.out.2.1).1 (fun q => types_ne (HROW.out.typed q.symm) ⟨_, HX3.out.2.1⟩ (by decide))).trans HX3.out.2.1; rw [HV.out] at this; exact this); have hc5 : w5.cell? ⟨x.wb, 1, none⟩ = some (.slice A x.l.length cp) := (by rw [cell_of_row w5 x.wb 1 _ _ _ hb5']; rfl); have hz5 : w5.frozen? ⟨x.wb, 1, none⟩ = false := (by simp [World.frozen?, hb5']); have HO5 := hid ho5; have HG5 := hid hg5; have HT5 := hid hat5; have HB5 := hid hb5'; clear ho5 hg5 hat5 hb5'; obtain ⟨A5, c5, hv5⟩ := Kd.R_slice HO5.out; rw [List.length_append, List.length_singleton] at hv5; subst hv5)
    all_goals
      have hs6 : Fr (fun j => j = x.wb ∨ x.v.ownBlock = some j) wr.drew (w5.setCell ⟨x.wb, 1, none⟩ (.slice A5 (x.l.length + 1) c5)) := Fr.setCell (p := ⟨x.wb, 1, none⟩) ((Fr.of_grown HG5.out).mono (fun j hj => .inr (by rw [HV.out]; exact hj))) (.inl (.inl rfl)) _
      have hb6 : (w5.setCell ⟨x.wb, 1, none⟩ (.slice A5 (x.l.length + 1) c5)).heap[x.wb]? = some (.cells #[.int .i64 x.n, .slice A5 (x.l.length + 1) c5, .bool x.p] 118 (0, 0)) := blk_set' HB5.out 1 _
      have hr6 : ChRow (w5.setCell ⟨x.wb, 1, none⟩ (.slice A5 (x.l.length + 1) c5)) (.slice A5 (x.l.length + 1) c5) (x.l ++ [c]) := FR.move HO5.out (fun k hk => Below.heap_setCell _ _ _ _ (fun q => by
        have q' : k = x.wb := q
        subst q'
        exact types_ne (FR.typed HO5.out hk) ⟨_, HB5.out⟩ (by decide)))
      have hfin := H3.out.work hs6 hb6 hr6 (by rw [HV.out]; exact HT5.out)
      have hfr : Fr F w (w5.setCell ⟨x.wb, 1, none⟩ (.slice A5 (x.l.length + 1) c5)) := HB3.out.trans hs6 (fun j hj => by
        rcases hj with q | q
        · exact HGW.out j (by rw [q]; exact HX3.out.1)
        · exact HGW.out j (HX3.out.2.2.2 j q))
      have hgr := HGW.out.trans (grew_more _ wr.drew (w5.setCell ⟨x.wb, 1, none⟩ (.slice A5 (x.l.length + 1) c5))) HB3.out.size
      have HFIN := hid hfin
      have HFR := hid hfr
      have HGR := hid hgr
      clear hfin hfr hgr hs6 hb6 hr6
      go_wp2_with fail
      go_end0
      exact ⟨rfl, ⟨_, ⟨_, _, _, HFIN.out, HNW.out _⟩, HGR.out⟩, HFR.out⟩
end Go.Proofs.Ytdejbinmnoabeaa.Q

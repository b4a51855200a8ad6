/- Walks of the document's store: drop. Conditions: the store reads as DsR says. -/
import Derived.Test.YtekebjcknhjceaaKvD0
namespace Go.Proofs.Ytekebjcknhjceaa
open Go.RowKit Go.Mine Go.Proofs.YtekebjcknhjceaaW.PrintWords
set_option linter.unusedVariables false
set_option linter.unusedSimpArgs false
theorem info57 : (Try.prog.info? 57).map (fun i => (i.zero, i.size, i.bytes)) = some (some (.pointer none), 1, 8) := by kernel_rfl
section
variable {F F' : Nat → Prop} {w w' : World} {b1 : Nat} {L L' : List (Int × Int)} {I I' : List WI} {lk lk' : LTab} {pv qv tv pv' qv' tv' : Value}
theorem PrRow.ne (h : PrRow w pv L) {cs : Array Value} {t : Nat} (hb : w.heap[b1]? = some (.cells cs t (0, 0))) (ht : 90 ≠ t) : pv.ownBlock ≠ some b1 := by
  intro hk
  obtain ⟨h0, inner, ho, hr⟩ := h
  obtain ⟨cells, hc⟩ := own_typed ho b1 hk
  rw [hb] at hc
  simp at hc
  exact ht hc.2.symm
theorem WpRow.ne {l : List Nat} (h : WpRow w qv l) {cs : Array Value} {t : Nat} (hb : w.heap[b1]? = some (.cells cs t (0, 0))) (ht : 57 ≠ t) : qv.ownBlock ≠ some b1 := by
  intro hk
  obtain ⟨h0, inner, ho, hr⟩ := h
  obtain ⟨cells, hc⟩ := own_typed ho b1 hk
  rw [hb] at hc
  simp at hc
  exact ht hc.2.symm
theorem ChRow.ne {v : Value} {l : List Ch} (h : ChRow w v l) {cs : Array Value} {t : Nat} (hb : w.heap[b1]? = some (.cells cs t (0, 0))) (ht : 60 ≠ t) : v.ownBlock ≠ some b1 := by
  intro hk
  obtain ⟨cells, hc⟩ := h.typed b1 hk
  rw [hb] at hc
  simp at hc
  exact ht hc.2.symm
theorem DsR.wb_ne (h : DsR F w b1 L I lk pv qv tv) {x : WI} (hx : x ∈ I) : x.wb ≠ b1 := by
  intro e
  have h1 := (h.wk x hx).2.1
  rw [e, h.blk] at h1
  simp at h1
/-- The store's own block is turned, and blocks are new: the works stand. -/
theorem DsR.turn (h : DsR F w b1 L I lk pv qv tv) (hf : Fr (fun i => i = b1) w w') (hb : w'.heap[b1]? = some (.cells #[pv', qv', tv'] 49 (0, 0)))
    (hp : PrRow w' pv' L') (hq : WpRow w' qv' (I'.map (·.wb))) (ht : LkRow w' tv' lk') (hI : I'.Sublist I)
    (op : ∀ j, pv'.ownBlock = some j → pv.ownBlock = some j ∨ w.heap.size ≤ j) (oq : ∀ j, qv'.ownBlock = some j → qv.ownBlock = some j ∨ w.heap.size ≤ j) (ot : ∀ j, tv'.ownBlock = some j → tv.ownBlock = some j ∨ w.heap.size ≤ j) :
    DsR (more F w w') w' b1 L' I' lk' pv' qv' tv' where
  fb := more_lt h.fb hf.size
  b := .inl h.b
  blk := hb
  pr := hp
  wp := hq
  lr := ht
  pF k hk := (op k hk).elim (fun q => .inl (h.pF k q)) (fun q => .inr ⟨q, row_lt hp k hk⟩)
  qF k hk := (oq k hk).elim (fun q => .inl (h.qF k q)) (fun q => .inr ⟨q, row_lt hq k hk⟩)
  tF k hk := (ot k hk).elim (fun q => .inl (h.tF k q)) (fun q => .inr ⟨q, row_lt ht k hk⟩)
  wk x hx := by
    have hxI := hI.subset hx
    have h1 := h.wk x hxI
    have h2 : x.wb ≠ b1 := h.wb_ne hxI
    exact ⟨.inl h1.1, hf.at_ h1.2.1 (fun q => h2 q), h1.2.2.1.move (fun k hk => hf.block k (h1.2.2.1.lt k hk) (fun q => h1.2.2.1.ne h.blk (by decide) (by rw [hk, q]))), fun k hk => .inl (h1.2.2.2 k hk)⟩
  apart := h.apart.sublist hI
end
set_option maxRecDepth 100000 in
set_option maxHeartbeats 4000000 in
theorem ddrop_any {F : Nat → Prop} {w : World} {b1 : Nat} {L : List (Int × Int)} {I : List WI} {lk : LTab} {pv qv tv : Value} (h : DsR F w b1 L I lk pv qv tv) (hn : I.length ≤ 1000) (hl : lk.length ≤ 1000) (n : Int) :
    Calls Try.prog 48 #[.pointer (some ⟨b1, 0, none⟩), .int .i64 n] w fun e w' => e = .returned (.tuple #[]) ∧ ∃ qv' tv', DsR (more F w w') w' b1 L (I.filter (fun x => x.n != n)) (dropA n lk) pv qv' tv' ∧ Fr (fun i => i = b1) w w' := by
  have H := hid h
  have hd := ref_drop (⟨h.blk, h.lr⟩ : RS w b1 pv qv tv lk) hl n
  clear h
  go_enter Try.func48, Try.ntmps48
  go_wp2_with fail
  refine hd.mono ?_
  rintro e w1 ⟨rfl, tv1, hr1, ho1, hf1⟩
  have hqr : WpRow w1 qv (I.map (·.wb)) := H.out.wp.move (fun k hk => hf1.block k (row_lt H.out.wp k hk) (fun q => H.out.wp.ne H.out.blk (by decide) (by rw [hk, q])))
  have hpr : PrRow w1 pv L := H.out.pr.move (fun k hk => hf1.block k (row_lt H.out.pr k hk) (fun q => H.out.pr.ne H.out.blk (by decide) (by rw [hk, q])))
  have hwk : ∀ x ∈ I, w1.heap[x.wb]? = some (.cells #[.int .i64 x.n, x.v, .bool x.p] 88 (0, 0)) := fun x hx => hf1.at_ (H.out.wk x hx).2.1 (fun q => H.out.wb_ne hx q)
  have hc : w1.cell? ⟨b1, 1, none⟩ = some qv := by rw [cell_of_row w1 b1 1 _ _ _ hr1.1]; rfl
  have HQ := hid hqr
  have HP := hid hpr
  have HW := hid hwk
  have HR1 := hid hr1
  have HO1 := hid ho1
  have HF1 := hid hf1
  have hlt := hr1.lt
  obtain ⟨A, c, rfl, hAc, hat⟩ := wp_at hqr
  have HAT := hid hat
  rw [List.length_map] at hc hAc
  clear hat hqr hpr hwk hr1 ho1 hf1 hd
  go_wp2_with fail
  go_loopg [4, 5] (I.length + 1) (fun m v4 v5 wr => ∃ i : Nat, v5 = .int .i64 i ∧ i ≤ I.length ∧ m = I.length + 1 - i ∧ kwp.R 57 wr w1.heap.size (fun _ => True) v4 (((I.take i).filter (fun x => x.n != n)).map (·.wb)) ∧ Below w1.heap.size w1 wr)
  case atStart => exact ⟨0, rfl, Nat.zero_le _, rfl, Kd.R_nil _ _ _ _ _, Below.refl _ _⟩
  case round =>
    obtain ⟨i, rfl, hi, hm, hR, hb⟩ := hrel
    have HN := hid hm
    have HR := hid hR
    have HB := hid hb
    have hcr : wr.cell? ⟨b1, 1, none⟩ = some (.slice A I.length c) := (hb.cell (World.block_lt_of_cell? _ _ hc)).trans hc
    clear hm hR
    by_cases h1 : i < I.length
    · obtain ⟨x, hx⟩ : ∃ x, I[i]? = some x := ⟨_, List.getElem?_eq_getElem h1⟩
      obtain ⟨b, off, rfl, hbb, hcc⟩ := HAT.out i x.wb (by rw [List.getElem?_map, hx]; rfl)
      have k0 : wr.cell? ⟨b, off + i, none⟩ = some (ptrV x.wb) := (hb.cell hbb).trans (by have := hcc 0 _ rfl; simpa using this)
      have hw1 := HW.out x (List.mem_of_getElem? hx)
      have hw2 : w1.cell? ⟨x.wb, 0, none⟩ = some (.int .i64 x.n) := by rw [cell_of_row _ _ 0 _ _ _ hw1]; rfl
      have k1 : wr.cell? ⟨x.wb, 0, none⟩ = some (.int .i64 x.n) := (hb.cell (World.block_lt_of_cell? _ _ hw2)).trans hw2
      have htk : I.take (i + 1) = I.take i ++ [x] := by
        rw [List.take_succ_eq_append_getElem h1]
        have : I[i] = x := by rw [List.getElem?_eq_getElem h1] at hx; exact Option.some.inj hx
        rw [this]
      have HTK := hid htk
      have hdl : (((I.take i).filter (fun x => x.n != n)).map (·.wb)).length ≤ 1000 := by
        rw [List.length_map]
        have := List.length_filter_le (fun x : WI => x.n != n) (I.take i)
        rw [List.length_take] at this
        omega
      have HDL := hid hdl
      clear hcc hx hb htk hdl hw1 hw2
      cases qe : (x.n != n)
      · have hd : (I.take (i + 1)).filter (fun x => x.n != n) = (I.take i).filter (fun x => x.n != n) := by
          rw [HTK.out, List.filter_append]
          simp [qe]
        have HD := hid hd
        clear hd
        go_wp2_with fail
        go_roundg (I.length + 1 - (i + 1))
        case measure => rw [HN.out]; omega
        case rel => exact ⟨i + 1, by go_num, by omega, rfl, by rw [HD.out]; exact HR.out, HB.out⟩
      · have hd : (I.take (i + 1)).filter (fun x => x.n != n) = (I.take i).filter (fun x => x.n != n) ++ [x] := by
          rw [HTK.out, List.filter_append]
          simp [qe]
        have HD := hid hd
        clear hd
        go_wp2_with (at_builtin; go_loud (refine Kd.R_append kwp (w0 := w1) w1.heap.size rfl (.tmp 32) (.tmp 40) 44 57 _ 8 rfl Try.underlying44 info57 (by rfl) (by decide) (by decide) u4 (((I.take i).filter (fun x => x.n != n)).map (·.wb)) x.wb [ptrV x.wb] (fun _ => True) (fun _ => False) rfl rfl rfl (fun _ q => q.elim) (fun _ _ => trivial) HR.out HB.out HB.out.size (by have := HDL.out; omega) ?_); intro v7 w7 ho7 hb7 hg7 hat7)
        go_roundg (I.length + 1 - (i + 1))
        case measure => rw [HN.out]; omega
        case rel => exact ⟨i + 1, by go_num, by omega, rfl, by rw [HD.out, List.map_append]; exact ho7, hb7⟩
    · have hi2 : i = I.length := by omega
      subst hi2
      have hr2 := HR.out
      rw [List.take_length] at hr2
      obtain ⟨A5, c5, hv5⟩ := Kd.R_slice hr2
      have hnb : ∀ k, u4.ownBlock = some k → w1.heap.size ≤ k := fun k hk => (Kd.R_bound hr2).1 k hk |>.2.1
      subst hv5
      have HR2 := hid hr2
      have HNB := hid hnb
      have hb1 : wr.heap[b1]? = some (.cells #[pv, .slice A I.length c, tv1] 49 (0, 0)) := by
        have := (hb.block _ hlt).trans HR1.out.1
        rwa [List.length_map] at this
      have hz : wr.frozen? ⟨b1, 1, none⟩ = false := by simp [World.frozen?, hb1]
      have HB1 := hid hb1
      clear hr2 hnb hb1
      go_wp2_with fail
      have hbw : Fr (fun i => i = b1) w1 (wr.setCell ⟨b1, 1, none⟩ (.slice A5 (((I.filter (fun x => x.n != n)).map (·.wb))).length c5)) := Fr.setCell (S := fun i => i = b1) (p := ⟨b1, 1, none⟩) ((Fr.of_below HB.out (Nat.le_refl _)).mono (fun _ q => q.elim)) (.inl rfl) _
      have hb2 := blk_set' HB1.out 1 (.slice A5 (((I.filter (fun x => x.n != n)).map (·.wb))).length c5)
      have hq2 : WpRow (wr.setCell ⟨b1, 1, none⟩ (.slice A5 (((I.filter (fun x => x.n != n)).map (·.wb))).length c5)) (.slice A5 (((I.filter (fun x => x.n != n)).map (·.wb))).length c5) ((I.filter (fun x => x.n != n)).map (·.wb)) := by
        have h0 : WpRow wr (.slice A5 (((I.filter (fun x => x.n != n)).map (·.wb))).length c5) ((I.filter (fun x => x.n != n)).map (·.wb)) := Kd.R_lower HR2.out (Nat.zero_le _)
        exact h0.move (fun k hk => Below.heap_setCell _ _ _ _ (fun q => h0.ne HB1.out (by decide) (by rw [hk]; exact congrArg some q)))
      have hp2 := HP.out.move (fun k hk => hbw.block k (row_lt HP.out k hk) (fun q => HP.out.ne HR1.out.1 (by decide) (by rw [hk, q])))
      have ht2 := HR1.out.2.move (fun k hk => hbw.block k (HR1.out.2.lt k hk) (fun q => HR1.out.2.ne49 HR1.out.1 (by rw [hk, q])))
      have hfr := HF1.out.trans hbw (fun i hi => .inl hi)
      have hfin := H.out.turn hfr hb2 hp2 hq2 ht2 List.filter_sublist (fun j hj => .inl hj) (fun j hj => .inr (Nat.le_trans HF1.out.size (HNB.out j hj))) (fun j hj => .inr (HO1.out j hj))
      simp only [List.length_map] at hfr hfin ⊢
      go_end0
      exact ⟨rfl, _, _, hfin, hfr⟩
end Go.Proofs.Ytekebjcknhjceaa

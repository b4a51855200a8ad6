/- Walk of the document's store: Restore. Conditions: the store reads as DsR says; the list is none of the store's blocks. -/
import Derived.Test.YtekebjcknhjceaaKvDb
namespace Go.Proofs.Ytekebjcknhjceaa
open Go.RowKit Go.Mine Go.Proofs.YtekebjcknhjceaaW.PrintWords
set_option linter.unusedVariables false
set_option linter.unusedSimpArgs false
theorem ChAt.fr2 {F : Nat → Prop} {w w' : World} {B : Nat} {A : Option Addr} {l : List Ch} (h : ChAt w B A l) (hf : Fr F w w') (hA : l ≠ [] → Beside F w A) : ChAt w' B A l := by
  intro i x hx
  have hne : l ≠ [] := by rintro rfl; simp at hx
  obtain ⟨b, off, e, hlt, hc⟩ := h i x hx
  exact ⟨b, off, e, hlt, fun j v hv => hf.cell (hc j v hv) (hA hne b off e).1⟩

set_option maxRecDepth 100000 in
set_option maxHeartbeats 4000000 in
theorem drestore_any {F : Nat → Prop} {w : World} {b1 : Nat} {L : List (Int × Int)} {I : List WI} {pv qv tv : Value} {s : KS} (h : DsR F w b1 L I s.lk pv qv tv) (hws : s.ws = wsOf I) (hI : I.length ≤ 900) (hok : s.Ok) (n : Int) (A : Option Addr) (l : List Ch) (c : Nat) (hl : ChAt w w.heap.size A l) (hA : l ≠ [] → Beside F w A) (hn : l.length ≤ 100000) (hc : l.length ≤ c) :
    Calls Try.prog 40 #[.pointer (some ⟨b1, 0, none⟩), .int .i64 n, .slice A l.length c] w (DPost F w b1 L (s.restore n l).1 (s.restore n l).2) := by
  have hright := drright_any A l c _ w hl (Nat.le_refl _) (by omega)
  have HRI := hid hright
  have H := hid h
  clear hright
  go_enter Try.func40, Try.ntmps40
  by_cases hn1 : n < 1
  · have HE := hid (rest_low (s := s) (l := l) hn1)
    go_wp2_with fail
    go_ret
    unfold DPost
    rw [HE.out]
    exact ⟨rfl, F, I, pv, qv, tv, H.out, Grew.refl _ _, hws, Fr.refl _ _⟩
  · have HN1 := hid hn1
    clear hn1
    have hn2 : decide (n < 1) = false := by have := HN1.out; simpa using this
    go_wp2_with fail
    refine HRI.out.mono ?_
    rintro e w1 ⟨rfl, f1⟩
    have f1r : Fr (fun _ => False) w w1 := Fr.of_below f1 (Nat.le_refl _)
    have h1 := h.below f1
    have hl1 := (hl.below f1).up f1.size
    have hA1 : l ≠ [] → Beside F w1 A := fun hne b off e => ⟨(hA hne b off e).1, Nat.lt_of_lt_of_le (hA hne b off e).2 f1.size⟩
    have fr1 : Fr F w w1 := f1r.mono (fun _ q => q.elim)
    clear HRI hl hA h f1r
    cases hr : rightL l []
    · have HE := hid (rest_bad (s := s) (n := n) (by have := HN1.out; omega) hr)
      go_wp2_with fail
      go_ret
      unfold DPost
      rw [HE.out]
      exact ⟨rfl, F, I, pv, qv, tv, h1, Grew.refl _ _, hws, fr1⟩
    · have HRT := hid hr
      clear hr
      have hfd := dfind_any h1 (by omega) n
      unfold findB at hfd
      have hg := aget_ws n I
      rw [← hws] at hg
      have HW := hid hws
      have HR := hid h1
      clear hws h1
      cases hf : I.find? (fun x => decide (x.n = n)) with
      | some x =>
        rw [hf] at hfd hg
        simp only [Option.map_some] at hfd hg
        have HE := hid (rest_there (n := n) (by have := HN1.out; omega) HRT.out (by rw [hg]; rfl))
        have HFD := hid hfd
        clear hf hg hfd
        go_wp2_with fail
        refine HFD.out.mono ?_
        rintro e w2 ⟨rfl, rfl⟩
        go_wp2_with fail
        go_ret
        unfold DPost
        rw [HE.out]
        exact ⟨rfl, F, I, pv, qv, tv, HR.out, Grew.refl _ _, HW.out, fr1⟩
      | none =>
        rw [hf] at hfd hg
        simp only [Option.map_none] at hfd hg
        have HG := hid hg
        have HF := hid hf
        have HFD := hid hfd
        have HOK := hid hok
        clear hg hf hfd hok
        go_wp2_with fail
        refine HFD.out.mono ?_
        rintro e w2 ⟨rfl, rfl⟩
        go_wp2_with fail
        go_loopg [7] (l.length + 1) (fun m v wr => ∃ (i : Nat) (Ai : LTab) (tv' : Value) (F' : Nat → Prop), v = .int .i64 i ∧ i ≤ l.length ∧ m = l.length + 1 - i ∧ takeAll n l s.lk = takeAll n (l.drop i) Ai ∧ Right Ai ∧ DsR F' wr b1 L I Ai pv qv tv' ∧ Grew F F' w1 ∧ Fr F w1 wr)
        case atStart => exact ⟨0, s.lk, tv, F, rfl, Nat.zero_le _, rfl, rfl, HOK.out.rk, HR.out, Grew.refl _ _, Fr.refl _ _⟩
        case round =>
          obtain ⟨i, Ai, tvi, F', rfl, hi, hm, hta, hri, hRi, hgr, hfr⟩ := hrel
          have HN := hid hm
          have HTA := hid hta
          have HRI := hid hri
          have HRi := hid hRi
          clear hm hta hri hRi
          by_cases hil : i < l.length
          · obtain ⟨y, hy⟩ : ∃ y, l[i]? = some y := ⟨_, List.getElem?_eq_getElem hil⟩
            obtain ⟨b, off, rfl, hbb, hcc⟩ := (hl1.fr2 hfr hA1) i y hy
            have k1 : wr.cell? ⟨b, off + i * 3 + 1, none⟩ = some (.int .i64 y.key) := hcc 1 _ rfl
            have HST := hid (HTA.out.trans (takeAll_step (A := Ai) hy))
            clear hcc hy
            go_wp2_with fail
            go_still_tail 9, (by kernel_rfl)
            change wpList _ _ _ _ _ wr.drew
            have fz : Fr (fun _ => False) wr wr.drew := (Fr.refl _ wr).drew
            have HRz := hid (HRi.out.fr fz (fun _ _ => id))
            have hfz := hfr.trans fz (fun _ q => q.elim)
            clear k1 HRi fz
            generalize wr.drew = wz at *
            have HT := hid (ref_take (⟨HRz.out.blk, HRz.out.lr⟩ : RS wz b1 pv qv tvi Ai) HRI.out n y.key true)
            go_wp2_with fail
            refine HT.out.mono ?_
            rintro e w2 ⟨rfl, tv2, ht2, ho2, hf2⟩
            have h2 := HRz.out.lock ht2 hf2 ho2
            have hfF : Fr F' wz w2 := hf2.mono (fun j hj => hj ▸ HRz.out.b)
            have hfr2 : Fr F w1 w2 := hfz.trans hfF (fun j hj => hgr j hj)
            have hgr2 : Grew F (more F' wz w2) w1 := hgr.trans (grew_more F' wz w2) hfz.size
            cases hz : ((takeA Ai n y.key true).1 != 0)
            · have h0 : (takeA Ai n y.key true).1 = 0 := by simpa using hz
              have hst := HST.out
              rw [if_neg (by simp [h0])] at hst
              have HS2 := hid hst
              have HRk := hid (HRI.out.take n y.key true)
              have H2 := hid h2
              clear h0 hst h2 ht2 hf2 hfF hfz HRz HT
              go_wp2_with fail
              go_roundg (l.length + 1 - (i + 1))
              case measure => rw [HN.out]; omega
              case rel => exact ⟨i + 1, _, tv2, _, by go_num, by omega, rfl, HS2.out, HRk.out, H2.out, hgr2, hfr2⟩
            · have hne : (takeA Ai n y.key true).1 ≠ 0 := by simpa using hz
              have hst := HST.out
              rw [if_pos hne] at hst
              have htn : (takeAll n l s.lk).1 ≠ 0 := by rw [hst]; exact hne
              have HE := hid (rest_lock (n := n) (by have := HN1.out; omega) HRT.out HG.out htn)
              have HS2 := hid hst
              rw [takeA_keep hne] at h2 ht2
              have H2 := hid h2
              have HD := hid (ref_drop (⟨h2.blk, h2.lr⟩ : RS w2 b1 pv qv tv2 Ai) (by have := HRI.out.len; omega) n)
              clear hne hst htn h2 ht2 hf2 hfF hfz HRz HT
              go_wp2_with fail
              refine HD.out.mono ?_
              rintro e w3 ⟨rfl, tv3, ht3, ho3, hf3⟩
              have h3 := H2.out.lock ht3 hf3 (fun j hj => .inr (ho3 j hj))
              have hfr3 : Fr F w w3 := fr1.trans (hfr2.trans (hf3.mono (fun j hj => hj ▸ H2.out.b)) (fun j hj => hgr2 j hj)) (fun j hj => .inl hj)
              have H3 := hid h3
              clear h3 ht3
              go_wp2_with fail
              go_ret
              unfold DPost
              rw [HE.out, HS2.out]
              exact ⟨rfl, _, I, pv, qv, tv3, H3.out, fun j hj => ((hgr2.trans (grew_more _ w2 w3) hfr2.size) j hj).imp id (fun q => Nat.le_trans fr1.size q), HW.out, hfr3⟩
          · have : i = l.length := by omega
            subst this
            have hta := HTA.out
            rw [List.drop_length] at hta
            have hz : (takeAll n l s.lk).1 = 0 := by rw [hta]; rfl
            have HE := hid (rest_do (n := n) (by have := HN1.out; omega) HRT.out HG.out hz)
            have HTT := hid hta
            clear hta hz
            have hfrw : Fr F w wr := fr1.trans hfr (fun j hj => .inl hj)
            by_cases hl0 : l = []
            · have hll : (l.length : Int) = 0 := by simp [hl0]
              have HL0 := hid hl0
              clear hl0
              go_wp2_with fail
              go_ret
              unfold DPost
              rw [HE.out, HTT.out]
              refine ⟨rfl, F', I, pv, qv, tvi, HRi.out, fun j hj => (hgr j hj).imp id (fun q => Nat.le_trans fr1.size q), ?_, hfrw⟩
              simp only [HL0.out, if_true]; exact HW.out
            · have hlp : (0 : Int) < l.length := by
                have : l.length ≠ 0 := fun q => hl0 (List.eq_nil_of_length_eq_zero q)
                omega
              have HL0 := hid hl0
              clear hl0
              obtain ⟨Aq, cq, rfl, hAq, _⟩ := wp_at HRi.out.wp
              rw [List.length_map] at hAq HRi
              have hlw := HRi.out.fb _ HRi.out.b
              have hchr := hl1.fr2 hfr hA1
              have hb3 : Below wr.heap.size wr (wr.alloc (.cells #[.int .i64 n, .slice none 0 0, .bool true] 88)) := (Below.refl _ _).alloc (Nat.le_refl _) _
              have hy3 : (wr.alloc (.cells #[.int .i64 n, .slice none 0 0, .bool true] 88)).heap[wr.heap.size]? = some (.cells #[.int .i64 n, .slice none 0 0, .bool true] 88 (0, 0)) := (MapKept.heap_alloc wr _).1
              have hy31 : (wr.alloc (.cells #[.int .i64 n, .slice none 0 0, .bool true] 88)).cell? ⟨wr.heap.size, 1, none⟩ = some (.slice none 0 0) := by rw [cell_of_row _ _ 1 _ _ _ hy3]; rfl
              have hH3 := HRi.out.below hb3
              have hch3 := (hchr.below (hb3.mono hfr.size)).row (by omega)
              have hs3 : (wr.alloc (.cells #[.int .i64 n, .slice none 0 0, .bool true] 88)).heap.size = wr.heap.size + 1 := by simp
              have hw3 : Fr (fun _ => False) wr (wr.alloc (.cells #[.int .i64 n, .slice none 0 0, .bool true] 88)) := (Fr.refl _ wr).alloc _
              have HH3 := hid hH3
              have HCH3 := hid hch3
              have HY3 := hid hy3
              have HW3 := hid hw3
              have HB3 := hid hb3
              have HS3 := hid hs3
              clear hH3 hch3 hchr hy3 hw3 hb3 hs3
              go_wp2_with (first | (at_builtin; go_loud (refine Kd.R_append_rows kch (Rr := fun x cs => cs = encCh x) (w0 := (wr.alloc (.cells #[.int .i64 n, .slice none 0 0, .bool true] 88))) (wr.alloc (.cells #[.int .i64 n, .slice none 0 0, .bool true] 88)).heap.size rfl (.tmp 55) (.tmp 56) 32 60 _ 24 rfl Try.underlying32 info60 (by rfl) (by decide) (by decide) (.slice none 0 0) [] l A l.length c (fun _ => True) (fun _ => False) rfl rfl (Kd.R_nil _ _ _ _ _) HCH3.out (fun _ _ h => h) (fun _ h => h.elim) (fun _ _ => trivial) (Below.refl _ _) (Nat.le_refl _) (by simp only [List.length_nil]; omega) ?_); intro v7 w7 ho7 hb7 hg7 hat7; clear hg7 hat7; obtain ⟨A7, c7, hv7⟩ := Kd.R_slice ho7; rw [List.nil_append] at hv7; subst hv7; have hx7 : w7.heap[wr.heap.size]? = some (.cells #[.int .i64 n, .slice none 0 0, .bool true] 88 (0, 0)) := (hb7.block _ (by rw [HS3.out]; omega)).trans HY3.out; have hy7 : w7.cell? ⟨wr.heap.size, 1, none⟩ = some (.slice none 0 0) := (by rw [cell_of_row w7 _ 1 _ _ _ hx7]; rfl); have hz7 : w7.frozen? ⟨wr.heap.size, 1, none⟩ = false := (by simp [World.frozen?, hx7]); have hf8 : Fr (fun i => i = wr.heap.size) (wr.alloc (.cells #[.int .i64 n, .slice none 0 0, .bool true] 88)) (w7.setCell ⟨wr.heap.size, 1, none⟩ (.slice A7 l.length c7)) := Fr.setCell (S := fun i => i = wr.heap.size) (p := ⟨wr.heap.size, 1, none⟩) ((Fr.of_below hb7 (Nat.le_refl _)).mono (fun _ q => q.elim)) (.inl rfl) _; have hH8 := HH3.out.fr hf8 (fun i hi q => (by have := HRi.out.fb i hi; omega)); have hc8 : (w7.setCell ⟨wr.heap.size, 1, none⟩ (.slice A7 l.length c7)).cell? ⟨b1, 1, none⟩ = some (.slice Aq I.length cq) := (by rw [cell_of_row _ b1 1 _ _ _ hH8.blk]; rfl); have hb8 := blk_set' hx7 1 (.slice A7 l.length c7); have ho8 : ∀ k, (Value.slice A7 l.length c7).ownBlock = some k → wr.heap.size + 1 ≤ k := (fun k hk => HS3.out ▸ Kd.R_base ho7 k hk); have hr8 : ChRow (w7.setCell ⟨wr.heap.size, 1, none⟩ (.slice A7 l.length c7)) (.slice A7 l.length c7) l := ChRow.move (Kd.R_lower ho7 (Nat.zero_le _)) (fun k hk => Below.heap_setCell _ _ _ _ (fun q => (by have h0 := ho8 k hk; have q' : k = wr.heap.size := q; omega))); have HF8 := hid hf8; have HH8 := hid hH8; have HB8 := hid hb8; have HO8 := hid ho8; have HR8 := hid hr8; clear ho7 hb7 hx7 hf8 hH8 hb8 ho8 hr8) | (at_builtin; go_loud (refine Kd.R_append kwp (w0 := (w7.setCell ⟨wr.heap.size, 1, none⟩ (.slice A7 l.length c7))) 0 rfl (.tmp 64) (.tmp 66) 44 57 _ 8 rfl Try.underlying44 info57 (by rfl) (by decide) (by decide) (.slice Aq I.length cq) (I.map (·.wb)) wr.heap.size [ptrV wr.heap.size] (fun _ => True) (fun _ => False) rfl (by first | rfl | (simp [World.setCell]; rfl)) rfl (fun _ q => q.elim) (fun _ _ => trivial) HH8.out.wp (Below.refl _ _) (Nat.zero_le _) (by rw [List.length_map]; omega) ?_); intro v9 w9 ho9 hb9 hg9 hat9; have hx9 : w9.heap[b1]? = some (.cells #[pv, .slice Aq I.length cq, tvi] 49 (0, 0)) := (hg9.block _ (HH8.out.fb _ HH8.out.b) (fun q => HH8.out.wp.ne HH8.out.blk (by decide) q.symm)).trans HH8.out.blk; have hz9 : w9.frozen? ⟨b1, 1, none⟩ = false := (by simp [World.frozen?, hx9]); have hc9 : w9.cell? ⟨b1, 1, none⟩ = some (.slice Aq I.length cq) := (by rw [cell_of_row w9 _ 1 _ _ _ hx9]; rfl); have HO9 := hid ho9; have HX9 := hid hx9; have HG9 := hid hg9; have HAT9 := hid hat9; clear ho9 hb9 hg9 hat9 hx9; obtain ⟨A9, c9, hv9⟩ := Kd.R_slice HO9.out; rw [List.length_append, List.length_singleton, List.length_map] at hv9; subst hv9))
              have hw8 : Fr (fun _ => False) wr (w7.setCell ⟨wr.heap.size, 1, none⟩ (.slice A7 l.length c7)) := HW3.out.trans HF8.out (fun i hi => .inr (by rw [hi]; exact Nat.le_refl _))
              generalize (w7.setCell ⟨wr.heap.size, 1, none⟩ (.slice A7 l.length c7)) = w8 at *
              have hf10 : Fr (fun i => i = b1 ∨ (Value.slice Aq I.length cq).ownBlock = some i) w8 (w9.setCell ⟨b1, 1, none⟩ (.slice A9 (I.length + 1) c9)) := Fr.setCell (p := ⟨b1, 1, none⟩) ((Fr.of_grown HG9.out).mono (fun j hj => .inr hj)) (.inl (.inl rfl)) _
              have hfw : Fr (fun i => i = b1 ∨ (Value.slice Aq I.length cq).ownBlock = some i) wr (w9.setCell ⟨b1, 1, none⟩ (.slice A9 (I.length + 1) c9)) := (hw8.mono (fun i hi => hi.elim)).trans hf10 (fun i hi => .inl hi)
              have hqlt : ∀ k, (Value.slice Aq I.length cq).ownBlock = some k → k < wr.heap.size := fun k hk => row_lt HRi.out.wp k hk
              have hpr : PrRow (w9.setCell ⟨b1, 1, none⟩ (.slice A9 (I.length + 1) c9)) pv L := HRi.out.pr.move (fun j hj => hfw.block j (row_lt HRi.out.pr j hj) (fun q => by
                rcases q with q | q
                · exact HRi.out.pr.ne HRi.out.blk (by decide) (by rw [hj, q])
                · exact types_ne (HRi.out.wp.typed q) (HRi.out.pr.typed hj) (by decide)))
              have htr : LkRow (w9.setCell ⟨b1, 1, none⟩ (.slice A9 (I.length + 1) c9)) tvi Ai := HRi.out.lr.move (fun j hj => hfw.block j (HRi.out.lr.lt j hj) (fun q => by
                rcases q with q | q
                · exact HRi.out.lr.ne49 HRi.out.blk (by rw [hj, q])
                · exact types_ne (HRi.out.wp.typed q) (HRi.out.lr.typed hj) (by decide)))
              have hqr : WpRow (w9.setCell ⟨b1, 1, none⟩ (.slice A9 (I.length + 1) c9)) (.slice A9 (I.length + 1) c9) (I.map (·.wb) ++ [wr.heap.size]) := by
                have h0 : WpRow w9 (.slice A9 (I.length + 1) c9) (I.map (·.wb) ++ [wr.heap.size]) := HO9.out
                exact h0.move (fun j hj => Below.heap_setCell _ _ _ _ (fun q => h0.ne HX9.out (by decide) (by rw [hj]; exact congrArg some q)))
              have hb10 := blk_set' HX9.out 1 (.slice A9 (I.length + 1) c9)
              have hyk := hf10.at_ HB8.out (fun q => by
                rcases q with q | q
                · have := hlw; omega
                · have := hqlt _ q; omega)
              have hyr := HR8.out.move (fun k hk => hf10.block k (HR8.out.lt k hk) (fun q => by
                have h8 := HO8.out k hk
                rcases q with q | q
                · have := hlw; omega
                · have := hqlt _ q; omega))
              have hfin := HRi.out.addw (y := ⟨n, wr.heap.size, .slice A7 l.length c7, l, true⟩) hfw hb10 hpr (by rw [List.map_append]; exact hqr) htr hyk (Nat.le_refl _) hyr (fun j hj => by have := HO8.out j hj; show wr.heap.size ≤ j; omega) (fun j hj => by
                rcases HAT9.out with q | ⟨b, q, hb⟩
                · exact .inl (q ▸ hj)
                · rw [hj] at q; cases q; exact .inr (Nat.le_trans hw8.size hb)) (fun j hj => .inl hj)
              go_ret
              unfold DPost
              rw [HE.out, HTT.out]
              refine ⟨rfl, _, _, pv, _, tvi, hfin, fun j hj => ((hgr.trans (grew_more _ wr (w9.setCell ⟨b1, 1, none⟩ (.slice A9 (I.length + 1) c9))) hfr.size) j hj).imp id (fun q => Nat.le_trans fr1.size q), ?_, hfrw.trans hfw (fun i hi => ?_)⟩
              · simp only [HL0.out, if_false]
                rw [HW.out]
                simp [wsOf]
              · have hq : F' i := by
                  rcases hi with q | q
                  · rw [q]; exact HRi.out.b
                  · exact HRi.out.qF i q
                exact (hgr i hq).imp id (fun q => Nat.le_trans fr1.size q)
end Go.Proofs.Ytekebjcknhjceaa

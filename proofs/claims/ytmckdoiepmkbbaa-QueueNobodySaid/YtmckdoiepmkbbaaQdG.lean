/- Walks of the document's queue: Restore, Load. Conditions: the queue reads as DAt says; the lists lie beside it. -/
import Derived.Test.YtmckdoiepmkbbaaQdF
namespace Go.Proofs.Ytmckdoiepmkbbaa
open Go.RowKit Go.Mine Go.Proofs.YtmckdoiepmkbbaaW.PrintWords
set_option linter.unusedVariables false
set_option linter.unusedSimpArgs false
set_option maxRecDepth 100000 in
set_option maxHeartbeats 8000000 in
theorem drestore_any {F : Nat → Prop} {w : World} {b : Nat} {s : QS} (h : DAt F w b s) (hok : s.Ok) (n : Int) (A : Option Addr) (l : List Ch) (c : Nat) (hl : ChAt w w.heap.size A l) (hA : l ≠ [] → Beside F A) (hn : l.length ≤ 1000) :
    Calls Try.prog 45 #[.pointer (some ⟨b, 0, none⟩), .int .i64 n, .slice A l.length c] w (DPost F w b (.int .i64 (s.restore n l).1) (s.restore n l).2) := by
  have HRI := hid (dright_any h hok A l c _ hl (Nat.le_refl _) (by omega))
  have H := hid h
  have HOK := hid hok
  have hbd := hok.bd
  go_enter Try.func45, Try.ntmps45
  by_cases hn1 : n < 1
  · have HE := hid (rest_low (s := s) (l := l) hn1)
    go_wp2_with fail
    go_ret
    exact ⟨by rw [HE.out]; rfl, ⟨F, by rw [HE.out]; exact H.out, Grew.refl _ _⟩, Fr.refl _ _⟩
  · have HN1 := hid hn1
    go_wp2_with fail
    refine HRI.out.mono ?_
    rintro e w1 ⟨rfl, f1⟩
    have h1 := h.below f1
    have hl1 := (hl.below f1).up f1.size
    have fr1 : Fr F w w1 := (Fr.of_below f1 (Nat.le_refl _)).mono (fun _ q => q.elim)
    clear HRI hl h hok
    cases hr : s.right l
    · have HE := hid (rest_bad (s := s) (n := n) (by have := HN1.out; omega) hr)
      go_wp2_with fail
      go_ret
      exact ⟨by rw [HE.out]; rfl, ⟨F, by rw [HE.out]; exact h1, Grew.refl _ _⟩, fr1⟩
    · have HRT := hid hr
      clear hr
      have hat := h1
      obtain ⟨I, iv, qv, hR, hwsI⟩ := h1
      have hIl : I.length ≤ 1000 := by have := hbd.ws; rw [hwsI] at this; simpa [wsOf] using this
      have hfd := dfind_any hR (by omega) n
      have hg := aget_ws n I
      rw [← hwsI] at hg
      unfold findB at hfd
      have HAT := hid hat
      have HR := hid hR
      have HWS := hid hwsI
      clear hat hR hwsI hbd
      cases hf : I.find? (fun x => decide (x.n = n)) with
      | some x =>
        rw [hf] at hfd hg
        simp only [Option.map_some] at hfd hg
        have HE := hid (rest_there (n := n) (by have := HN1.out; omega) HRT.out (by unfold QS.busy; rw [hg]; rfl))
        have HFD := hid hfd
        clear hf hg hfd
        go_wp2_with fail
        refine HFD.out.mono ?_
        rintro e w2 ⟨rfl, rfl⟩
        go_wp2_with fail
        go_ret
        exact ⟨by rw [HE.out]; rfl, ⟨F, by rw [HE.out]; exact HAT.out, Grew.refl _ _⟩, fr1⟩
      | none =>
        rw [hf] at hfd hg
        simp only [Option.map_none] at hfd hg
        have HE := hid (rest_do (n := n) (by have := HN1.out; omega) HRT.out (by unfold QS.busy; rw [hg]; rfl))
        have HFD := hid hfd
        have HG := hid hg
        clear hf hg hfd
        have henc : s.its.map encD = (mixI (tkI n) s.its (takesL l)).map encD := by
          unfold mixI
          rw [List.map_append, List.map_map]
          have : (s.its.take (takesL l)).map (encD ∘ tkI n) = (s.its.take (takesL l)).map encD := List.map_congr_left (fun x _ => rfl)
          rw [this, ← List.map_append, List.take_append_drop]
        have HENC := hid henc
        clear henc
        by_cases hl0 : l = []
        · have hw0 : addW n true l s.ws = s.ws := by rw [addW, if_pos hl0]
          have HW0 := hid hw0
          have hlen0 : (l.length : Int) = 0 := by rw [hl0]; rfl
          have hlen1 : l.length = 0 := by rw [hl0]; rfl
          clear hw0 hl0 hA
          go_wp2_with fail
          refine HFD.out.mono ?_
          rintro e w2 ⟨rfl, rfl⟩
          go_wp2_with fail
          go_ret
          exact ⟨by rw [HE.out]; rfl, ⟨F, by rw [HE.out, HW0.out]; exact HAT.out.its HENC.out, Grew.refl _ _⟩, fr1⟩
        · have hlp : 0 < l.length := List.length_pos_iff.2 hl0
          have hlp' : 0 < (l.length : Int) := by omega
          have HL0 := hid hl0
          have HA := hid (hA hl0)
          clear hl0 hA
          have hba : Below w1.heap.size w1 (w1.alloc (.cells #[.int .i64 n, .slice none 0 0, .bool true] 87)) := (Below.refl _ _).alloc (Nat.le_refl _) _
          have hya : (w1.alloc (.cells #[.int .i64 n, .slice none 0 0, .bool true] 87)).heap[w1.heap.size]? = some (.cells #[.int .i64 n, .slice none 0 0, .bool true] 87 (0, 0)) := (MapKept.heap_alloc w1 _).1
          have ya1 : (w1.alloc (.cells #[.int .i64 n, .slice none 0 0, .bool true] 87)).cell? ⟨w1.heap.size, 1, none⟩ = some (.slice none 0 0) := by rw [cell_of_row _ _ 1 _ _ _ hya]; rfl
          have hrow := ChAt.row ((hl1.below hba).up hba.size) (by omega)
          have HROW := hid hrow
          have HYA := hid hya
          obtain ⟨Aq, cq, rfl, hAq, _⟩ := HR.out.wp.at_
          have HBA := hid hba
          have hwlt := HR.out.fb _ HR.out.bF
          clear hrow hya hba hl1
          go_wp2_with fail
          refine HFD.out.mono ?_
          rintro e w2 ⟨rfl, rfl⟩
          obtain ⟨yb, hyb⟩ : ∃ yb, yb = w1.heap.size := ⟨_, rfl⟩
          have hyF : ¬ F yb := fun q => by have := HR.out.fb _ q; omega
          have HYF := hid hyF
          clear hyF HFD
          go_wp2_with (at_builtin; first
            | (go_loud (refine Kd.R_append_rows eCh.kd (Rr := fun x cs => cs = encCh x) (w0 := (w1.alloc (.cells #[.int .i64 n, .slice none 0 0, .bool true] 87))) (w1.alloc (.cells #[.int .i64 n, .slice none 0 0, .bool true] 87)).heap.size rfl (.tmp 30) (.tmp 31) 38 43 _ 24 rfl Try.underlying38 info43 (by rfl) (by decide) (by decide) (.slice none 0 0) [] l A l.length c (fun _ => True) (fun _ => False) rfl rfl (Kd.R_nil _ _ _ _ _) HROW.out (fun _ _ h => h) (fun _ h => h.elim) (fun _ _ => trivial) (Below.refl _ _) (Nat.le_refl _) (by simp only [List.length_nil]; omega) ?_); intro v5 w5 ho5 hb5 hg5 hat5; have hy5 := (hb5.block _ (blk_lt HYA.out)).trans HYA.out; have hc5 : w5.cell? ⟨w1.heap.size, 1, none⟩ = some (.slice none 0 0) := (by rw [cell_of_row _ _ 1 _ _ _ hy5]; rfl); have hz5 : w5.frozen? ⟨w1.heap.size, 1, none⟩ = false := (by simp [World.frozen?, hy5]); rw [List.nil_append] at ho5; have HO5 := hid ho5; have HB5 := hid hb5; have HY5 := hid hy5; clear ho5 hb5 hg5 hat5 hy5; obtain ⟨A5, c5, hv5⟩ := Kd.R_slice HO5.out; subst hv5; have hfc : Fr (fun k => k = w1.heap.size) w5 (w5.setCell ⟨w1.heap.size, 1, none⟩ (.slice A5 l.length c5)) := Fr.setCell (S := fun k => k = w1.heap.size) (p := ⟨w1.heap.size, 1, none⟩) (Fr.refl _ _) (.inl rfl) _; have hRC := ((HR.out.below HBA.out).below HB5.out).fr hfc (fun k hk q => by have := HR.out.fb k hk; omega); have hc1 : (w5.setCell ⟨w1.heap.size, 1, none⟩ (.slice A5 l.length c5)).cell? ⟨b, 1, none⟩ = some (.slice Aq I.length cq) := (by rw [cell_of_row _ _ 1 _ _ _ hRC.blk]; rfl); have HRC := hid hRC; have HFC := hid hfc; have hyc := blk_set' HY5.out 1 (.slice A5 l.length c5); have HYC := hid hyc; clear hfc hRC hyc)
            | (go_loud (refine Kd.R_append eWI.kd (w0 := (w5.setCell ⟨w1.heap.size, 1, none⟩ (.slice A5 l.length c5))) 0 rfl (.tmp 39) (.tmp 41) 53 59 _ 8 rfl Try.underlying53 info59 (by rfl) (by decide) (by decide) (.slice Aq I.length cq) I ⟨n, w1.heap.size, .slice A5 l.length c5, l, true⟩ [ptrV w1.heap.size] (fun _ => True) (fun _ => False) rfl (by first | rfl | (simp; rfl)) rfl (fun _ q => q.elim) (fun _ _ => trivial) HRC.out.wp (Below.refl _ _) (Nat.zero_le _) (by omega) ?_); intro v8 w8 ho8 hb8 hg8 hat8; have hx8 : w8.heap[b]? = some (.cells #[iv, .slice Aq I.length cq, .int .i64 s.gv] 55 (0, 0)) := (hg8.block _ (HRC.out.fb _ HRC.out.bF) (fun q => HRC.out.iv_ne.2.1 q.symm)).trans HRC.out.blk; have hz8 : w8.frozen? ⟨b, 1, none⟩ = false := (by simp [World.frozen?, hx8]); have hc8 : w8.cell? ⟨b, 1, none⟩ = some (.slice Aq I.length cq) := (by rw [cell_of_row w8 _ 1 _ _ _ hx8]; rfl); have HO8 := hid ho8; have HX8 := hid hx8; have HG8 := hid hg8; have HAT8 := hid hat8; clear ho8 hb8 hg8 hat8 hx8; obtain ⟨A8, c8, hv8⟩ := Kd.R_slice HO8.out; rw [List.length_append, List.length_singleton] at hv8; subst hv8))
          have hfr8 : Fr (fun k => k = b ∨ (Value.slice Aq I.length cq).ownBlock = some k) (w5.setCell ⟨w1.heap.size, 1, none⟩ (.slice A5 l.length c5)) (w8.setCell ⟨b, 1, none⟩ (.slice A8 (I.length + 1) c8)) := Fr.setCell (p := ⟨b, 1, none⟩) ((Fr.of_grown HG8.out).mono (fun j hj => .inr hj)) (.inl (.inl rfl)) _
          have hfw5 : Fr (fun _ => False) w1 w5 := ((Fr.refl _ w1).alloc _).trans (Fr.of_below HB5.out (Nat.le_refl _)) (fun _ q => q.elim)
          have hszw : w1.heap.size ≤ (w1.alloc (.cells #[.int .i64 n, .slice none 0 0, .bool true] 87)).heap.size := HBA.out.size
          have hfwc : Fr (fun _ => False) w1 (w5.setCell ⟨w1.heap.size, 1, none⟩ (.slice A5 l.length c5)) := Fr.setCell hfw5 (.inr (Nat.le_refl _)) _
          have hfall : Fr (fun k => k = b ∨ (Value.slice Aq I.length cq).ownBlock = some k) w1 (w8.setCell ⟨b, 1, none⟩ (.slice A8 (I.length + 1) c8)) := (hfwc.mono (fun _ q => q.elim)).trans hfr8 (fun i hi => .inl hi)
          have hi8 : FR eD 85 (w8.setCell ⟨b, 1, none⟩ (.slice A8 (I.length + 1) c8)) iv s.its := HR.out.it.move (fun k hk => hfall.block k (HR.out.it.lt hk) (fun q => by
            rcases q with q | q
            · exact HR.out.iv_ne.1 (by rw [hk, q])
            · exact HR.out.iv_ne.2.2 k hk q))
          have h08 : FR eWI 59 w8 (.slice A8 (I.length + 1) c8) (I ++ [⟨n, w1.heap.size, .slice A5 l.length c5, l, true⟩]) := HO8.out
          have hq8 : FR eWI 59 (w8.setCell ⟨b, 1, none⟩ (.slice A8 (I.length + 1) c8)) (.slice A8 (I.length + 1) c8) (I ++ [⟨n, w1.heap.size, .slice A5 l.length c5, l, true⟩]) := h08.move (fun j hj => Below.heap_setCell _ _ _ _ (fun q => h08.ne HX8.out (by decide) (by rw [hj]; exact congrArg some q)))
          have hyk := hfr8.at_ HYC.out (fun q => by
            rcases q with q | q
            · have := hwlt; omega
            · have := HR.out.wp.lt q; omega)
          have hro5 := Kd.R_base HO5.out
          have hr5 : ChRow w5 (.slice A5 l.length c5) l := Kd.R_lower HO5.out (Nat.zero_le _)
          have hrc : ChRow (w5.setCell ⟨w1.heap.size, 1, none⟩ (.slice A5 l.length c5)) (.slice A5 l.length c5) l := hr5.move (fun k hk => HFC.out.block k (hr5.lt hk) (fun q => by have := hro5 k hk; have h3 : (w1.alloc (.cells #[.int .i64 n, .slice none 0 0, .bool true] 87)).heap.size = w1.heap.size + 1 := (by simp); omega))
          have hr8 : ChRow (w8.setCell ⟨b, 1, none⟩ (.slice A8 (I.length + 1) c8)) (.slice A5 l.length c5) l := hrc.move (fun k hk => hfr8.block k (hrc.lt hk) (fun q => by
            have h3 := hro5 k hk
            rcases q with q | q
            · omega
            · have := HR.out.wp.lt q; omega))
          have hfin := HR.out.addw (y := ⟨n, w1.heap.size, .slice A5 l.length c5, l, true⟩) (hfall.mono (fun i hi => hi.imp id (fun q => .inr q))) (blk_set' HX8.out 1 (.slice A8 (I.length + 1) c8)) hi8 hq8 hyk (Nat.le_refl _) hr8 (fun k hk => Nat.le_trans hszw (hro5 k hk)) (fun j hj => by
            rcases HAT8.out with q | ⟨b', q, hb⟩
            · exact .inl (q ▸ hj)
            · rw [hj] at q; cases q; exact .inr (Nat.le_trans hfwc.size hb))
          have hwsn : addW n true l s.ws = wsOf (I ++ [⟨n, w1.heap.size, .slice A5 l.length c5, l, true⟩]) := by
            rw [addW, if_neg HL0.out, HWS.out]
            simp [wsOf]
          have hfrF : Fr F w1 (w8.setCell ⟨b, 1, none⟩ (.slice A8 (I.length + 1) c8)) := hfall.mono (fun j hj => by
            rcases hj with q | q
            · rw [q]; exact HR.out.bF
            · exact HR.out.qF _ q)
          have hdat : DAt (more F w1 (w8.setCell ⟨b, 1, none⟩ (.slice A8 (I.length + 1) c8))) (w8.setCell ⟨b, 1, none⟩ (.slice A8 (I.length + 1) c8)) b ⟨s.its, addW n true l s.ws, s.gv⟩ := ⟨_, _, _, hfin, hwsn⟩
          have HDAT := hid (hdat.its HENC.out)
          have HFRF := hid hfrF
          have HGRW := hid ((grew_more F w1 (w8.setCell ⟨b, 1, none⟩ (.slice A8 (I.length + 1) c8))).up f1.size)
          clear hfr8 hfw5 hszw hfwc hfall hi8 h08 hq8 hyk hro5 hr5 hrc hr8 hfin hwsn hfrF hdat
          go_wp2_with fail
          go_ret
          exact ⟨by rw [HE.out]; rfl, ⟨_, by rw [HE.out]; exact HDAT.out, HGRW.out⟩, fr1.trans HFRF.out (fun j hj => .inl hj)⟩
end Go.Proofs.Ytmckdoiepmkbbaa

/- Walk of the document's store: Prepare. Conditions: the store reads as DsR says. -/
import Derived.Test.YtekebjcknhjceaaKvD9
namespace Go.Proofs.Ytekebjcknhjceaa
open Go.RowKit Go.Mine Go.Proofs.YtekebjcknhjceaaW.PrintWords
set_option linter.unusedVariables false
set_option linter.unusedSimpArgs false
def DPrep (F : Nat → Prop) (w : World) (b1 : Nat) (L : List (Int × Int)) (pv : Value) (R : (List Ch × Int) × KS) (e : Ending) (w' : World) : Prop :=
  ∃ v, e = .returned (.tuple #[v, .int .i64 R.1.2]) ∧ (∃ F' I' qv' tv', DsR F' w' b1 L I' R.2.lk pv qv' tv' ∧ Grew F F' w ∧ R.2.ws = wsOf I' ∧ (∀ k, v.ownBlock = some k → w.heap.size ≤ k ∧ ¬ F' k)) ∧ ChRow w' v R.1.1 ∧ Fr F w w'
set_option maxRecDepth 100000 in
set_option maxHeartbeats 4000000 in
theorem dprepare_any {F : Nat → Prop} {w : World} {b1 : Nat} {L : List (Int × Int)} {I : List WI} {pv qv tv : Value} {s : KS} (h : DsR F w b1 L I s.lk pv qv tv) (hws : s.ws = wsOf I) (hn : I.length ≤ 900) (hok : s.Ok) (n : Int) :
    Calls Try.prog 37 #[.pointer (some ⟨b1, 0, none⟩), .int .i64 n] w (DPrep F w b1 L pv (s.prepare n)) := by
  have H := hid h
  have HWS := hid hws
  have hfd := dfind_any h (by omega) n
  have hrl := hok.rk.len
  have hdr := ddrop_any h (by omega) (by omega) n
  have HDR := hid hdr
  go_enter Try.func37, Try.ntmps37
  by_cases h1 : n < 1
  · have HE := hid (prep_low (s := s) h1)
    clear h hws hfd hdr
    go_wp2_with fail
    go_ret2
    unfold DPrep
    rw [HE.out]
    exact ⟨.slice none 0 0, rfl, ⟨F, I, qv, tv, H.out, Grew.refl _ _, HWS.out, fun k hk => by simp [Value.ownBlock] at hk⟩, ChRow.none_ _, Fr.refl _ _⟩
  · have HN1 := hid h1
    have hg := aget_ws n I
    rw [← hws] at hg
    unfold findB at hfd
    clear h hws hdr
    cases hf : I.find? (fun x => decide (x.n = n)) with
    | none =>
      rw [hf] at hfd hg
      simp only [Option.map_none] at hfd hg
      have HE := hid (prep_none HN1.out hg)
      have HFD := hid hfd
      clear hfd hf hg
      go_wp2_with fail
      refine HFD.out.mono ?_
      rintro e w1 ⟨rfl, rfl⟩
      simp only [Option.map_none]
      go_wp2_with fail
      refine HDR.out.mono ?_
      rintro e w2 ⟨rfl, qv', tv', h2, f2⟩
      go_wp2_with fail
      go_ret2
      unfold DPrep
      rw [HE.out]
      exact ⟨.slice none 0 0, rfl, ⟨_, _, qv', tv', h2, grew_more _ _ _, by show adel n s.ws = _; rw [HWS.out, adel_wsOf], fun k hk => by simp [Value.ownBlock] at hk⟩, ChRow.none_ _, f2.mono (fun i hi => by rw [hi]; exact H.out.b)⟩
    | some x =>
      obtain ⟨J1, J2, hJ, hxn⟩ := find_split hf
      have hxI := List.mem_of_find?_eq_some hf
      rw [hf] at hfd hg
      simp only [Option.map_some] at hfd hg
      have hrw : RW x.l := hok.chs _ (aget_mem hg)
      have hxle := hrw.len
      have hxw := H.out.wk x hxI
      obtain ⟨A, cp, hv, hAc, hat⟩ := hxw.2.2.1.at_
      have c1 : w.cell? ⟨x.wb, 1, none⟩ = some (.slice A x.l.length cp) := by rw [cell_of_row _ _ 1 _ _ _ hxw.2.1, ← hv]; rfl
      have c2 : w.cell? ⟨x.wb, 2, none⟩ = some (.bool x.p) := by rw [cell_of_row _ _ 2 _ _ _ hxw.2.1]; rfl
      have HFD := hid hfd
      have HG := hid hg
      have HV := hid hv
      have HXW := hid hxw
      clear hfd hf hg hrw hxw hv hat
      cases hxp : x.p
      · rw [hxp] at c2
        by_cases hl0 : x.l = []
        · have HE := hid (prep_empty HN1.out HG.out hxp hl0)
          have hll : (x.l.length : Int) = 0 := by simp [hl0]
          rw [hl0] at c1
          simp only [List.length_nil] at c1
          clear hl0
          go_wp2_with fail
          refine HFD.out.mono ?_
          rintro e w1 ⟨rfl, rfl⟩
          simp only [Option.map_some]
          go_wp2_with fail
          refine HDR.out.mono ?_
          rintro e w2 ⟨rfl, qv', tv', h2, f2⟩
          go_wp2_with fail
          go_ret2
          unfold DPrep
          rw [HE.out]
          exact ⟨.slice none 0 0, rfl, ⟨_, _, qv', tv', h2, grew_more _ _ _, by show adel n s.ws = _; rw [HWS.out, adel_wsOf], fun k hk => by simp [Value.ownBlock] at hk⟩, ChRow.none_ _, f2.mono (fun i hi => by rw [hi]; exact H.out.b)⟩
        · have HE := hid (prep_done HN1.out HG.out hxp hl0)
          have hll : ((x.l.length : Int) == 0) = false := by
            have : x.l.length ≠ 0 := fun q => hl0 (List.eq_nil_of_length_eq_zero q)
            simpa using this
          subst hJ
          have hz1 : w.frozen? ⟨x.wb, 2, none⟩ = false := by simp [World.frozen?, HXW.out.2.1]
          have hcl1 : (w.setCell ⟨x.wb, 2, none⟩ (.bool true)).cell? ⟨x.wb, 1, none⟩ = some (.slice A x.l.length cp) := by
            rw [World.cell?_setCell_other _ _ _ _ (by simp)]; exact c1
          have hf1 : Fr (fun i => i = x.wb ∨ x.v.ownBlock = some i) w (w.setCell ⟨x.wb, 2, none⟩ (.bool true)) := (Fr.refl _ w).setCell (.inl (.inl rfl)) _
          have hb1 : (w.setCell ⟨x.wb, 2, none⟩ (.bool true)).heap[x.wb]? = some (.cells #[.int .i64 x.n, x.v, .bool true] 88 (0, 0)) := blk_set' HXW.out.2.1 2 _
          have hr1 : ChRow (w.setCell ⟨x.wb, 2, none⟩ (.bool true)) x.v x.l := HXW.out.2.2.1.move (fun k hk => Below.heap_setCell _ _ _ _ (fun q => by
            have q' : k = x.wb := q
            subst q'
            exact types_ne (HXW.out.2.2.1.typed _ hk) ⟨_, HXW.out.2.1⟩ (by decide)))
          have hK := H.out.work hf1 hb1 hr1 (.inl rfl)
          have hfr : Fr F w (w.setCell ⟨x.wb, 2, none⟩ (.bool true)) := hf1.mono (fun j hj => by
            rcases hj with q | q
            · rw [q]; exact HXW.out.1
            · exact HXW.out.2.2.2 j q)
          have hrow := hr1
          rw [HV.out] at hrow
          have hC := (Kd.R_reads' hrow).2.2
          have HK := hid hK
          have HFR := hid hfr
          have HROW := hid hC
          clear hf1 hb1 hr1 hK hfr hrow hC hl0
          go_wp2_with fail
          refine HFD.out.mono ?_
          rintro e w1 ⟨rfl, rfl⟩
          simp only [Option.map_some]
          go_wp2_with (at_builtin; go_loud (refine Kd.R_append_rows kch (Rr := fun x cs => cs = encCh x) (w0 := (w.setCell ⟨x.wb, 2, none⟩ (.bool true))) (w.setCell ⟨x.wb, 2, none⟩ (.bool true)).heap.size rfl (.tmp 37) (.tmp 41) 32 60 _ 24 rfl Try.underlying32 info60 (by rfl) (by decide) (by decide) (.slice none 0 0) [] x.l A x.l.length cp (fun _ => True) (fun _ => False) rfl rfl (Kd.R_nil _ _ _ _ _) HROW.out (fun _ _ h => h) (fun _ h => h.elim) (fun _ _ => trivial) (Below.refl _ _) (Nat.le_refl _) (by simp only [List.length_nil]; omega) ?_); intro v7 w7 ho7 hb7 hg7 hat7)
          go_ret2
          unfold DPrep
          rw [HE.out]
          have hfb := HK.out.fb
          have hsz : (w.setCell ⟨x.wb, 2, none⟩ (.bool true)).heap.size = w.heap.size := by simp [World.setCell]
          have hv7 : ∀ k, v7.ownBlock = some k → (w.setCell ⟨x.wb, 2, none⟩ (.bool true)).heap.size ≤ k := fun k hk => (Kd.R_bound ho7).1 k hk |>.2.1
          refine ⟨v7, rfl, ⟨_, _, qv, tv, HK.out.below hb7, grew_more _ _ _, ?_, fun k hk => ⟨?_, fun q => ?_⟩⟩, Kd.R_lower ho7 (Nat.zero_le _), HFR.out.trans ((Fr.of_below hb7 (Nat.le_refl _)).mono (fun _ q => q.elim)) (fun i hi => .inl hi)⟩
          · show aput n ⟨x.l, true⟩ s.ws = _
            exact aput_ws hok.keys HWS.out hxn _ _ _
          · have := hv7 k hk; omega
          · have := hv7 k hk; have := hfb k q; omega
      · rw [hxp] at c2
        have HE := hid (prep_again HN1.out HG.out hxp)
        go_wp2_with fail
        refine HFD.out.mono ?_
        rintro e w1 ⟨rfl, rfl⟩
        simp only [Option.map_some]
        go_wp2_with fail
        go_ret2
        unfold DPrep
        rw [HE.out]
        exact ⟨.slice none 0 0, rfl, ⟨F, I, qv, tv, H.out, Grew.refl _ _, HWS.out, fun k hk => by simp [Value.ownBlock] at hk⟩, ChRow.none_ _, Fr.refl _ _⟩
end Go.Proofs.Ytekebjcknhjceaa

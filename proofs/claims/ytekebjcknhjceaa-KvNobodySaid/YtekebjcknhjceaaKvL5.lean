/- Walk of trothlaw13.KvAgain: it answers true. Condition: the calls' slices read as their lists. -/
import Derived.Test.YtekebjcknhjceaaKvP
namespace Go.Proofs.Ytekebjcknhjceaa
open Go.RowKit Go.Mine Go.Proofs.YtekebjcknhjceaaW.PrintWords
set_option linter.unusedVariables false
set_option linter.unusedSimpArgs false

theorem gone_busy (s : KS) (n : Int) : (s.gone n).busy n = false := by
  show (aget n (adel n s.ws)).isSome = false
  have : aget n (adel n s.ws) = none := by
    rw [aget_none]
    intro e he
    have := (List.mem_filter.1 he).2
    simpa using this
  rw [this]
  rfl
set_option maxRecDepth 100000 in
set_option maxHeartbeats 8000000 in
theorem again_any (A A1 : Option Addr) (l more : List KOp) (c c1 : Nat) (work : Int) (w : World) (hl : OpsAt w w.heap.size A l) (hm : OpsAt w w.heap.size A1 more) :
    Calls Try.prog 8 #[.slice A l.length c, .slice A1 more.length c1, .int .i64 work] w fun e w' => e = .returned (.bool true) ∧ Below w.heap.size w w' := by
  go_enter Try.func8, Try.ntmps8
  go_wp2_with fail
  refine (played_any A l c _ w (Nat.le_refl _) hl).mono ?_
  rintro e w1 ⟨b0, rfl, t1, f1⟩
  go_wp2_with fail
  refine (new_st w1).mono ?_
  rintro e w2 ⟨b1, rfl, t2, f2⟩
  have g2 := f1.trans (f2.mono f1.size)
  obtain ⟨F0, G0, h2⟩ := Two.mk_ t1 t2 f2
  have hok0 := playK_ok l
  generalize playK l = s0 at *
  clear t1 t2 hl f1 f2
  go_wp2_with fail
  go_loopg [9] 17 (fun m v wr => ∃ (i : Nat) (G : Nat → Prop) (t : KS), v = .int .i64 i ∧ i ≤ 16 ∧ m = 17 - i ∧ Two w.heap.size wr F0 G b0 b1 s0 t ∧ Filled s0.vs s0.th i t ∧ Below w.heap.size w wr)
  case atStart => exact ⟨0, G0, KS.new, rfl, Nat.zero_le _, rfl, h2, Filled.start _ _, g2⟩
  case round =>
    obtain ⟨i, G, t, rfl, hi, hmm, ht, hfi, hf⟩ := hrel
    have HN := hid hmm
    have HFI := hid hfi
    have HOK := hid hok0
    clear hmm hfi hok0 h2 g2
    by_cases h1 : (i : Int) < 16
    · have c3 := value_any ht.1 i
      have hv1 : s0.value i = (s0.vs.getD i 0, s0.th.getD i false) := by
        unfold KS.value
        rw [if_neg (by omega)]
        rfl
      rw [hv1] at c3
      cases htb : s0.th.getD i false
      · have hsk := HFI.out.skip htb
        have HSK := hid hsk
        rw [htb] at c3
        simp only at c3
        clear hsk hv1 htb
        generalize s0.vs.getD i 0 = vv at *
        go_wp2_with fail
        refine c3.mono ?_
        rintro e w3 ⟨rfl, m3, hw3⟩
        subst hw3
        have HT3 := hid (ht.below (bdN wr m3))
        have hf3 := hf.trans ((bdN wr m3).mono hf.size)
        clear ht c3
        go_wp2_with fail
        go_roundg (17 - (i + 1))
        case measure => rw [HN.out]; omega
        case rel => exact ⟨i + 1, G, t, by go_num, by omega, rfl, HT3.out, HSK.out, hf3⟩
      · obtain ⟨hp0, hpf⟩ := HFI.out.put (by omega) htb
        have HPF := hid hpf
        have HP0 := hid hp0
        rw [htb] at c3
        simp only at c3
        clear hpf hp0 hv1 htb
        generalize s0.vs.getD i 0 = vv at *
        go_wp2_with fail
        refine c3.mono ?_
        rintro e w3 ⟨rfl, m3, hw3⟩
        subst hw3
        have ht3 := ht.below (bdN wr m3)
        have hf3 := hf.trans ((bdN wr m3).mono hf.size)
        have c4 := put_any ht3.2.1 1 i vv
        unfold ChangePost at c4
        rw [HP0.out] at c4
        have HT3 := hid ht3
        clear ht c3 ht3
        generalize wr.drewN m3 = w3 at *
        go_wp2_with fail
        refine c4.mono ?_
        rintro e w4 ⟨G4, rfl, hk4, hg4, hf4⟩
        obtain ⟨ht4, hb4⟩ := HT3.out.swap.one hk4 hg4 hf4
        have HT4 := hid ht4.swap
        have hff := hf3.trans hb4
        clear hk4 hg4 hf4 ht4 hb4 HT3 c4
        go_wp2_with fail
        go_roundg (17 - (i + 1))
        case measure => rw [HN.out]; omega
        case rel => exact ⟨i + 1, G4, _, by go_num, by omega, rfl, HT4.out, HPF.out, hff⟩
    · have hi16 : i = 16 := by omega
      subst hi16
      have hcm := HFI.out.commit HOK.out
      have c3 := commit_any ht.2.1 1
      rw [hcm] at c3
      have HT := hid ht
      clear HFI hcm ht
      go_wp2_with fail
      refine c3.mono ?_
      rintro e w3 ⟨rfl, ⟨G3, hk3, hg3⟩, hf3⟩
      obtain ⟨ht3, hb3⟩ := HT.out.swap.one hk3 hg3 hf3
      have ht3 := ht3.swap
      have hff3 := hf.trans hb3
      clear hk3 hg3 hf3 hb3 HT c3 hf
      have HS3 := hid (same_any ht3.1 ht3.2.1 rfl rfl)
      have HBZ := hid (busy_any ht3.1 work)
      have HT3 := hid ht3
      clear ht3
      by_cases hw : work < 1
      · go_wp2_with fail
        refine (alive_any _).mono ?_
        rintro e w5 ⟨rfl, f5⟩
        have ht5 := HT3.out.below f5
        have hf5 := hff3.trans (f5.mono hff3.size)
        have HS5 := hid (same_any ht5.1 ht5.2.1 rfl rfl)
        clear ht5 HS3 HBZ
        go_wp2_with fail
        refine HS5.out.mono ?_
        rintro e w6 ⟨rfl, m6, hw6⟩
        subst hw6
        go_wp2_with fail
        go_ret
        exact ⟨rfl, hf5.trans ((bdN w5 m6).mono hf5.size)⟩
      · have HW := hid (show 1 ≤ work by omega)
        cases hbz : s0.busy work
        · have hun : unprep work s0 := by
            unfold unprep
            unfold KS.busy at hbz
            cases hq : aget work s0.ws with
            | none => rfl
            | some v => rw [hq] at hbz; cases hbz
          have HUN := hid hun
          clear hun
          have c4 := HBZ.out
          rw [hbz] at c4
          clear HBZ hbz
          go_wp2_with fail
          refine c4.mono ?_
          rintro e w4 ⟨rfl, rfl⟩
          go_wp2_with fail
          refine HS3.out.mono ?_
          rintro e w5 ⟨rfl, m5, hw5⟩
          subst hw5
          have HT5 := hid (HT3.out.below (bdN w3 m5))
          have hf5 := hff3.trans ((bdN w3 m5).mono hff3.size)
          clear HS3 c4 HT3 hff3
          generalize w3.drewN m5 = w5 at *
          go_wp2_with fail
          go_loopg [12] 31 (fun m v wq => ∃ (j : Nat) (F : Nat → Prop) (s : KS), v = .int .i64 j ∧ j ≤ more.length ∧ j ≤ 30 ∧ m = 31 - j ∧ Two w.heap.size wq F G3 b0 b1 s ⟨s0.vs, s0.th, [], []⟩ ∧ s.Ok ∧ unprep work s ∧ s.vs = s0.vs ∧ s.th = s0.th ∧ Below w.heap.size w wq)
          case atStart => exact ⟨0, F0, s0, rfl, Nat.zero_le _, Nat.zero_le _, rfl, HT5.out, HOK.out, HUN.out, rfl, rfl, hf5⟩
          case round =>
            obtain ⟨i, F, s, rfl, hi1, hi2, hmm, ht, hsok, hun2, hv, hth, hf⟩ := hrel
            have HN := hid hmm
            have HV := hid hv
            have HTH := hid hth
            have HSK := hid hsok
            have HU2 := hid hun2
            clear hmm hv hth hsok hun2 hf5
            by_cases h1 : i < more.length ∧ (i : Int) < 30
            · obtain ⟨h1, h2'⟩ := h1
              obtain ⟨x, hx⟩ : ∃ x, more[i]? = some x := ⟨_, List.getElem?_eq_getElem h1⟩
              obtain ⟨b, off, rfl, hb, hc, hch, hlc⟩ := (hm.below hf) i x hx
              have k0 : wr.cell? ⟨b, off + i * 5, none⟩ = some (.int .i64 x.kind) := hc 0 _ rfl
              have k1 := hc 1 _ rfl
              have k2 := hc 2 _ rfl
              have k3 := hc 3 _ rfl
              have k4 : wr.cell? ⟨b, off + i * 5 + 4, none⟩ = some (.slice x.la x.l.length x.lc) := hc 4 _ rfl
              have HCH := hid hch
              have hBr : w.heap.size ≤ wr.heap.size := hf.size
              have ba : Below wr.heap.size wr (wr.alloc (.cells #[.int .i64 x.kind, .int .i64 x.work, .int .i64 x.key, .int .u64 x.val, .slice x.la x.l.length x.lc] 51)) := (Below.refl _ _).alloc (Nat.le_refl _) _
              have hta := ht.below ba
              have hfa := hf.trans (ba.mono hf.size)
              have HTA := hid hta
              clear hc hx hch hta
              by_cases q0 : x.kind < 0
              · go_wp2_with fail
                go_roundg (31 - (i + 1))
                case measure => rw [HN.out]; omega
                case rel => exact ⟨i + 1, F, s, by go_num, by omega, by omega, rfl, HTA.out, HSK.out, HU2.out, HV.out, HTH.out, hfa⟩
              · by_cases q3 : 2 < x.kind
                · go_wp2_with fail
                  go_roundg (31 - (i + 1))
                  case measure => rw [HN.out]; omega
                  case rel => exact ⟨i + 1, F, s, by go_num, by omega, by omega, rfl, HTA.out, HSK.out, HU2.out, HV.out, HTH.out, hfa⟩
                · have hv6 := call_vals s { x with work := work } q0 (fun q => q3 (Int.lt_trans (by decide) q))
                  have hu6 := unprep_call HSK.out HU2.out { x with work := work } rfl q0 q3
                  have hk6 := HSK.out.call { x with work := work }
                  have ba2 : Below wr.heap.size wr (wr.alloc (.cells #[.int .i64 x.kind, .int .i64 work, .int .i64 x.key, .int .u64 x.val, .slice x.la x.l.length x.lc] 51)) := (Below.refl _ _).alloc (Nat.le_refl _) _
                  have htb := ht.below ba2
                  have hfb := hf.trans (ba2.mono hf.size)
                  have HC := hid (call_any htb.1 { x with work := work } ((HCH.out.below (ba2.mono hBr)).up (Nat.le_trans hBr ba2.size)) (fun q => by simp at q; omega) hlc)
                  have HTB := hid htb
                  have HV6 := hid hv6
                  have HU6 := hid hu6
                  have HK6 := hid hk6
                  clear HTA hfa ba ba2 htb hv6 ht hu6 hk6
                  go_wp2_with fail
                  refine HC.out.mono ?_
                  rintro e w3 ⟨v3, F3, rfl, hk3, hg3, hf3, _, _⟩
                  obtain ⟨ht3, hb3⟩ := HTB.out.one hk3 hg3 hf3
                  have hff := hfb.trans hb3
                  have HT3 := hid ht3
                  clear hk3 hg3 hf3 hb3 ht3 HTB hfb HC
                  go_wp2_with fail
                  go_roundg (31 - (i + 1))
                  case measure => rw [HN.out]; omega
                  case rel => exact ⟨i + 1, F3, _, by go_num, by omega, by omega, rfl, HT3.out, HK6.out, HU6.out, HV6.out.1.trans HV.out, HV6.out.2.trans HTH.out, hff⟩
            · have hp := prepare_any ht.1 work
              obtain ⟨hp0, hprw, hpl⟩ := prep_facts HSK.out (by have := HW.out; omega) HU2.out
              obtain ⟨hpv, hpt⟩ := prepare_vals s work
              unfold PrepPost at hp
              generalize s.prepare work = pr at *
              obtain ⟨⟨pl, pe⟩, s1⟩ := pr
              simp only at hp hp0 hprw hpl hpv hpt
              subst hp0
              have HP := hid hp
              have HRW := hid hprw
              have HPL := hid hpl
              have HPV := hid (hpv.trans HV.out)
              have HPT := hid (hpt.trans HTH.out)
              have HTT := hid ht
              clear hp hprw hpl hpv hpt ht
              go_wp2_with fail
              all_goals
                refine HP.out.mono ?_
                rintro e w3 ⟨v3, rfl, ⟨F3, hk3, hg3, ho3⟩, hr3, hf3⟩
                obtain ⟨ht3, hb3⟩ := HTT.out.one hk3 hg3 hf3
                have hG := HTT.out.2.1.fb
                obtain ⟨A3, c3, hv3, hc3, hch3⟩ := hr3.at_
                subst hv3
                have hbes : Beside G3 w3 A3 := by
                  intro b off e
                  have h5 : (Value.slice A3 pl.length c3).ownBlock = some b := by rw [e]; rfl
                  refine ⟨fun q => ?_, hr3.lt b h5⟩
                  have := hG b q
                  have := (ho3 b h5).1
                  omega
                have hle := HRW.out.len
                obtain ⟨lk, hrf⟩ := restore_free (n := work) (vs := s0.vs) (th := s0.th) (by have := HW.out; omega) HRW.out
                have hch3' : ChAt w3 w3.heap.size A3 pl := hch3
                have hr := restore_any ht3.2.1 work A3 pl c3 hch3' hbes (by omega) hc3
                rw [hrf] at hr
                have HR := hid hr
                have HT3 := hid ht3
                have HF3 := hid (hf.trans hb3)
                clear hk3 hg3 ho3 hr3 hf3 ht3 hb3 hG hch3 hch3' hbes hrf hr HTT HP
                go_wp2_with fail
                refine HR.out.mono ?_
                rintro e w4 ⟨rfl, ⟨G4, hk4, hg4⟩, hf4⟩
                obtain ⟨ht4, hb4⟩ := HT3.out.swap.one hk4 hg4 hf4
                have hff4 := HF3.out.trans hb4
                have HT4 := hid ht4.swap
                have hcm := commit_do (s := s1) (n := work) (by have := HW.out; omega)
                rw [HPL.out] at hcm
                have HB4 := hid (busy_any ht4.1 work)
                have hcm2 := commit_do (s := ⟨s0.vs, s0.th, if pl = [] then [] else [(work, ⟨pl, true⟩)], lk⟩) (n := work) (by have := HW.out; omega)
                have hl2 : KS.listOf ⟨s0.vs, s0.th, if pl = [] then [] else [(work, ⟨pl, true⟩)], lk⟩ work = pl := by
                  by_cases q : pl = []
                  · rw [if_pos q, q]; rfl
                  · rw [if_neg q]
                    simp [KS.listOf, aget]
                rw [hl2] at hcm2
                have HEQ := hid (setVs_congr pl (s := s1) (t := ⟨s0.vs, s0.th, if pl = [] then [] else [(work, ⟨pl, true⟩)], lk⟩) HPV.out HPT.out)
                have hbv : KS.busy ⟨s0.vs, s0.th, if pl = [] then [] else [(work, ⟨pl, true⟩)], lk⟩ work = decide (0 < (pl.length : Int)) := by
                  by_cases q : pl = []
                  · rw [if_pos q, q]; rfl
                  · have h0 : 0 < pl.length := List.length_pos_iff.2 q
                    rw [if_neg q]
                    have : decide (0 < (pl.length : Int)) = true := by simpa using h0
                    rw [this]
                    simp [KS.busy, aget]
                rw [hbv] at HB4
                have HC1 := hid hcm
                have HC2 := hid hcm2
                clear ht4 hb4 hk4 hg4 hf4 hcm hcm2 hl2 hbv HR HT3
                have HCA := hid (commit_any HT4.out.1 work)
                rw [HC1.out] at HCA
                by_cases hlz : (0 : Int) < pl.length
                · have hlt : decide (0 < (pl.length : Int)) = true := by simpa using hlz
                  rw [hlt] at HB4
                  have hld : decide (0 < pl.length) = true := by rw [← hlt]; apply decide_eq_decide.2; omega
                  go_wp2_with fail
                  refine HB4.out.mono ?_
                  rintro e w5 ⟨rfl, rfl⟩
                  go_wp2_with fail
                  all_goals
                    refine HCA.out.mono ?_
                    rintro e w6 ⟨rfl, ⟨F6, hk6, hg6⟩, hf6⟩
                    obtain ⟨ht6, hb6⟩ := HT4.out.one hk6 hg6 hf6
                    have hff6 := hff4.trans hb6
                    have HCB := hid (commit_any ht6.2.1 work)
                    rw [HC2.out] at HCB
                    have HT6 := hid ht6
                    clear hk6 hg6 hf6 ht6 hb6 HCA
                    go_wp2_with fail
                    refine HCB.out.mono ?_
                    rintro e w7 ⟨rfl, ⟨G7, hk7, hg7⟩, hf7⟩
                    obtain ⟨ht7, hb7⟩ := HT6.out.swap.one hk7 hg7 hf7
                    have hff7 := hff6.trans hb7
                    have HT7 := hid ht7.swap
                    clear hk7 hg7 hf7 ht7 hb7 HCB
                    go_wp2_with fail
                    refine (alive_any _).mono ?_
                    rintro e w8 ⟨rfl, f8⟩
                    have HT8 := hid (HT7.out.below f8)
                    have hf8 := hff7.trans (f8.mono hff7.size)
                    have HS8 := hid (same_any HT8.out.1 HT8.out.2.1 HEQ.out.1 HEQ.out.2)
                    go_wp2_with fail
                    refine HS8.out.mono ?_
                    rintro e w9 ⟨rfl, m9, hw9⟩
                    subst hw9
                    have hf9 := hf8.trans ((bdN w8 m9).mono hf8.size)
                    have HB9 := hid (busy_any (HT8.out.below (bdN w8 m9)).2.1 work)
                    rw [gone_busy] at HB9
                    go_wp2_with fail
                    refine HB9.out.mono ?_
                    rintro e w10 ⟨rfl, rfl⟩
                    go_wp2_with fail
                    go_ret
                    exact ⟨rfl, hf9⟩
                · have hlt : decide (0 < (pl.length : Int)) = false := by simpa using hlz
                  rw [hlt] at HB4
                  have hld : decide (0 < pl.length) = false := by rw [← hlt]; apply decide_eq_decide.2; omega
                  go_wp2_with fail
                  refine HB4.out.mono ?_
                  rintro e w5 ⟨rfl, rfl⟩
                  go_wp2_with fail
                  all_goals
                    refine HCA.out.mono ?_
                    rintro e w6 ⟨rfl, ⟨F6, hk6, hg6⟩, hf6⟩
                    obtain ⟨ht6, hb6⟩ := HT4.out.one hk6 hg6 hf6
                    have hff6 := hff4.trans hb6
                    have HCB := hid (commit_any ht6.2.1 work)
                    rw [HC2.out] at HCB
                    have HT6 := hid ht6
                    clear hk6 hg6 hf6 ht6 hb6 HCA
                    go_wp2_with fail
                    refine HCB.out.mono ?_
                    rintro e w7 ⟨rfl, ⟨G7, hk7, hg7⟩, hf7⟩
                    obtain ⟨ht7, hb7⟩ := HT6.out.swap.one hk7 hg7 hf7
                    have hff7 := hff6.trans hb7
                    have HT7 := hid ht7.swap
                    clear hk7 hg7 hf7 ht7 hb7 HCB
                    go_wp2_with fail
                    refine (alive_any _).mono ?_
                    rintro e w8 ⟨rfl, f8⟩
                    have HT8 := hid (HT7.out.below f8)
                    have hf8 := hff7.trans (f8.mono hff7.size)
                    have HS8 := hid (same_any HT8.out.1 HT8.out.2.1 HEQ.out.1 HEQ.out.2)
                    go_wp2_with fail
                    refine HS8.out.mono ?_
                    rintro e w9 ⟨rfl, m9, hw9⟩
                    subst hw9
                    have hf9 := hf8.trans ((bdN w8 m9).mono hf8.size)
                    have HB9 := hid (busy_any (HT8.out.below (bdN w8 m9)).2.1 work)
                    rw [gone_busy] at HB9
                    go_wp2_with fail
                    refine HB9.out.mono ?_
                    rintro e w10 ⟨rfl, rfl⟩
                    go_wp2_with fail
                    go_ret
                    exact ⟨rfl, hf9⟩
        · have c4 := HBZ.out
          rw [hbz] at c4
          clear HBZ hbz
          go_wp2_with fail
          refine c4.mono ?_
          rintro e w4 ⟨rfl, rfl⟩
          go_wp2_with fail
          refine (alive_any _).mono ?_
          rintro e w5 ⟨rfl, f5⟩
          have ht5 := HT3.out.below f5
          have hf5 := hff3.trans (f5.mono hff3.size)
          have HS5 := hid (same_any ht5.1 ht5.2.1 rfl rfl)
          clear ht5 HS3
          go_wp2_with fail
          refine HS5.out.mono ?_
          rintro e w6 ⟨rfl, m6, hw6⟩
          subst hw6
          go_wp2_with fail
          go_ret
          exact ⟨rfl, hf5.trans ((bdN w5 m6).mono hf5.size)⟩
end Go.Proofs.Ytekebjcknhjceaa

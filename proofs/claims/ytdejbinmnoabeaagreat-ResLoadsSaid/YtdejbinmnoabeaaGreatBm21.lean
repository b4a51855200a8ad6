/- Texts of this seat, put together: RzF. -/
import Derived.Test.YtdejbinmnoabeaaGreatBm20
namespace Go.Proofs.YtdejbinmnoabeaaGreat
open Go.RowKit Go.Mine Go.Proofs.YtdejbinmnoabeaaGreatW.PrintWords
set_option linter.unusedVariables false
set_option linter.unusedSimpArgs false
theorem marks_back {m n : Int} {ws : List (Int × KW)} {z : Bool} (h : prepd n ws = false) : prepd m ws = ((prepd m ws || (m == n && z)) && !(m == n)) := by
  by_cases q : m = n
  · subst q; rw [h]; simp
  · have : (m == n) = false := by simpa using q
    rw [this]; simp
set_option maxRecDepth 100000 in
set_option maxHeartbeats 3000000 in
theorem restore_any {F : Nat → Prop} {w : World} {b : Nat} {s : RM} (h : RAt F w b s) (n : Int) (A : Option Addr) (l : List Ch) (c : Nat) (hl : ChAt w w.heap.size A l) (hA : l ≠ [] → Q.Beside F A) (hn : l.length ≤ 900) (hc : l.length ≤ c) :
    Calls Tryz.prog 28 #[.pointer (some ⟨b, 0, none⟩), .int .i64 n, .slice A l.length c] w (RPost F w b (.int .i64 (s.restore n l).1) (s.restore n l).2) := by
  have H := hid h
  have HL := hid hl
  have HA := hid hA
  clear h hl hA
  by_cases h1 : n < 1
  · have HM := hid (show s.restore n l = (1, s) from by unfold RM.restore; rw [if_pos h1])
    go_enter Tryz.func28, Tryz.ntmps28
    go_wp2_with fail
    go_ret
    rw [HM.out]
    exact RPost.same H.out _
  · have HN1 := hid (show s.restore n l = _ from by unfold RM.restore; rw [if_neg h1])
    go_enter Tryz.func28, Tryz.ntmps28
    go_upto_block 0 with (fail)
    go_cut [7] (fun v wc => v = .int .i64 (cutN l) ∧ wc = w)
    case first =>
      go_wp2_with fail
      go_loopg [7] (l.length + 1) (fun m v wr => ∃ i : Nat, v = .int .i64 i ∧ i ≤ l.length ∧ m = l.length + 1 - i ∧ wr = w ∧ ∀ j y, j < i → l[j]? = some y → kvKind y = true)
      case atStart => exact ⟨0, rfl, Nat.zero_le _, rfl, rfl, fun j y hj => by omega⟩
      case round =>
        obtain ⟨i, rfl, hi, hm, hw, hall⟩ := hrel
        subst hw
        have HM := hid hm
        have HALL := hid hall
        clear hm hall
        by_cases h2 : i < l.length
        · obtain ⟨y, hy⟩ : ∃ y, l[i]? = some y := ⟨_, List.getElem?_eq_getElem h2⟩
          obtain ⟨b', off, rfl, hb, hcc⟩ := HL.out i y hy
          have k0 : wr.cell? ⟨b', off + i * 3, none⟩ = some (.int .i64 y.kind) := hcc 0 _ rfl
          have HY := hid hy
          clear hcc hy
          cases q1 : (y.kind == 1)
          · cases q2 : (y.kind == 2)
            · have HCUT := hid (show i = cutN l from cutN_eq HALL.out (by omega) (fun z hz => by rw [HY.out] at hz; cases hz; unfold kvKind; rw [q1, q2]; rfl))
              go_wp2_with fail
              go_meet
              case rel => exact ⟨by rw [HCUT.out], rfl⟩
            · go_wp2_with fail
              go_roundg (l.length + 1 - (i + 1))
              case measure => rw [HM.out]; omega
              case rel => exact ⟨i + 1, by go_num, by omega, rfl, rfl, fun j z hj hz => by
                rcases Nat.lt_succ_iff_lt_or_eq.1 hj with r | r
                · exact HALL.out j z r hz
                · rw [r, HY.out] at hz; cases hz; unfold kvKind; rw [q2]; simp⟩
          · go_wp2_with fail
            go_roundg (l.length + 1 - (i + 1))
            case measure => rw [HM.out]; omega
            case rel => exact ⟨i + 1, by go_num, by omega, rfl, rfl, fun j z hj hz => by
                rcases Nat.lt_succ_iff_lt_or_eq.1 hj with r | r
                · exact HALL.out j z r hz
                · rw [r, HY.out] at hz; cases hz; unfold kvKind; rw [q1]; rfl⟩
        · have HCUT := hid (show i = cutN l from cutN_eq HALL.out (by omega) (fun z hz => by rw [List.getElem?_eq_none (by omega)] at hz; cases hz))
          go_wp2_with fail
          go_meet
          case rel => exact ⟨by rw [HCUT.out], rfl⟩
    case rest =>
      obtain ⟨rfl, hw⟩ := hcut
      subst hw
      have hcl := cutN_le l
      generalize hcn : cutN l = i at *
      by_cases hci : c = i
      · have hil : l.length = i := by omega
        have hc' := hci.symm
        subst hc'
        rw [hil]
        have hat2 : ChAt wc wc.heap.size A (l.drop i) := fun k x hx => by rw [List.drop_eq_nil_of_le (by omega)] at hx; simp at hx
        have HB2 := hid hil
        have hdl : (l.drop i).length = 0 := by rw [List.length_drop]; omega
        have htl : (l.take i).length = i := by rw [List.length_take]; omega
        have hat1 : ChAt wc wc.heap.size A (l.take i) := fun k x hx => HL.out k x (by rw [List.getElem?_take] at hx; split at hx; exact hx; cases hx)
        have hlt : ∀ k x, (l.drop i)[k]? = some x → ∀ b0 off, A = some ⟨b0, off, none⟩ → b0 < wc.heap.size := fun k x hx b0 off e => by
          obtain ⟨b1, o1, e1, h, _⟩ := hat2 k x hx
          rw [e] at e1; cases e1; exact h
        have hA2 : l.drop i ≠ [] → ∀ b0 off, A = some ⟨b0, off, none⟩ → ¬ F b0 ∧ b0 < wc.heap.size := fun hne b0 off e => by
          obtain ⟨x, hx⟩ : ∃ x, (l.drop i)[0]? = some x := ⟨_, List.getElem?_eq_getElem (List.length_pos_iff.2 hne)⟩
          exact ⟨fun _ => hne (List.drop_eq_nil_of_le (by omega)), hlt 0 x hx b0 off e⟩
        have hA1 : l.take i ≠ [] → ∀ b0 off, A = some ⟨b0, off, none⟩ → ¬ F b0 ∧ b0 < wc.heap.size := fun hne b0 off e => by
          have hl0 : l ≠ [] := fun q => hne (by rw [q]; simp)
          obtain ⟨x, hx⟩ : ∃ x, (l.take i)[0]? = some x := ⟨_, List.getElem?_eq_getElem (List.length_pos_iff.2 hne)⟩
          obtain ⟨b1, o1, e1, h, _⟩ := hat1 0 x hx
          rw [e] at e1; cases e1
          exact ⟨HA.out hl0 _ _ e, h⟩
        have HAT1 := hid hat1
        have HAT2 := hid hat2
        have HA1 := hid hA1
        have HA2 := hid hA2
        have HDL := hid hdl
        have HTL := hid htl
        generalize hlb : l.drop i = lb at *
        generalize hla : l.take i = la at *
        clear hat1 hat2 hlt hA2 hA1 HL HA hdl htl hlb hla hcn HB2 hil hci
        go_wp2_with fail
        go_loopg [42] (0 + 1) (fun m v wr => ∃ j : Nat, v = .int .i64 j ∧ j ≤ 0 ∧ m = 0 + 1 - j ∧ Below wc.heap.size wc wr ∧ ∀ k y, k < j → lb[k]? = some y → kvKind y = false)
        case atStart => exact ⟨0, rfl, Nat.zero_le _, rfl, Below.refl _ _, fun k y hk => by omega⟩
        case round =>
          obtain ⟨j, rfl, hj, hm, hbw, hall⟩ := hrel
          have HM := hid hm
          have HALL := hid hall
          have HBW := hid hbw
          clear hm hall hbw
          by_cases h2 : j < 0
          · obtain ⟨y, hy⟩ : ∃ y, lb[j]? = some y := ⟨_, List.getElem?_eq_getElem (by rw [HDL.out]; exact h2)⟩
            obtain ⟨b', off, hA2e, hb, hcc⟩ := (HAT2.out.below HBW.out) j y hy
            have hba : Below wr.heap.size wr (wr.alloc (.cells #[.int .i64 y.kind, .int .i64 y.key, .int .u64 y.val] 90)) := (Below.refl _ _).alloc (Nat.le_refl _) _
            have HBW2 := hid (HBW.out.trans (hba.mono HBW.out.size))
            have k0 : wr.cell? ⟨b', off + j * 3, none⟩ = some (.int .i64 y.kind) := hcc 0 _ rfl
            have k1 := hcc 1 _ rfl
            have k2 := hcc 2 _ rfl
            have HY := hid hy
            have HA2E := hid hA2e
            have h2' : (j : Int) < ((0 : Nat) : Int) := by omega
            clear hcc hy hba
            exfalso
            omega
          · have h2' : ¬ (j : Int) < ((0 : Nat) : Int) := by omega
            have hnone : lb.any kvKind = false := by
              rw [List.any_eq_false]
              intro y hy
              obtain ⟨k, hk, e⟩ := List.mem_iff_getElem.1 hy
              have := HALL.out k y (by rw [HDL.out] at hk; omega) (by rw [List.getElem?_eq_getElem hk, e])
              rw [this]; simp
            have HN2 := hid (HN1.out.trans (by rw [if_neg (by rw [hnone]; simp)]))
            clear hnone HALL
            go_wp2_with fail
            go_still_tail 7, (by kernel_rfl)
            change wpList _ _ _ _ _ wr.drew
            have hbz : Below wc.heap.size wc wr.drew := HBW.out.trans ((Q.bd1 wr).mono HBW.out.size)
            generalize wr.drew = wz at *
            have hxz : RAt F wz b s := H.out.below hbz
            have hfz : Fr F wc wz := (Fr.of_below hbz (Nat.le_refl _)).mono (fun _ q => q.elim)
            have hqok := hxz.qok
            obtain ⟨FK, Pz, hsub, hk, hst⟩ := hxz.kv
            have hc1 := K.restore_any hk n A la i (ChAt.toK ((HAT1.out.below hbz).up hbz.size)) (fun hne b0 off e => ⟨fun q => (HA1.out hne b0 off e).1 (hsub _ q), Nat.lt_of_lt_of_le (HA1.out hne b0 off e).2 hbz.size⟩) (by rw [HTL.out]; omega) (by rw [HTL.out]; omega)
            rw [HTL.out] at hc1
            have HC := hid hc1
            have HST := hid hst
            have HSUB := hid hsub
            have HQOK := hid hqok
            have HFZ := hid hfz
            have HXZ := hid hxz
            have HZS := hid hbz.size
            have HAT2Z := hid (HAT2.out.below hbz)
            clear hc1 hst hsub hqok hfz hxz hk hbz HBW HAT1 HAT2 HM
            go_wp2_with fail
            refine HC.out.mono ?_
            rintro e w1 ⟨rfl, ⟨FK', hk', hg1⟩, hf1⟩
            have hx1 := HST.out w1 FK' _ hk' hg1 hf1
            have hg01 : ∀ i, (F i ∨ FK' i) → F i ∨ wz.heap.size ≤ i := fun i hi => hi.elim .inl (fun q => (hg1 i q).imp (HSUB.out i) id)
            have hf01 : Fr F wc w1 := HFZ.out.trans (hf1.mono HSUB.out) (fun i hi => .inl hi)
            by_cases he1 : (s.k.restore n la).1 = 0
            · have HN3 := hid (HN2.out.trans (by rw [if_neg (by rw [he1]; simp)]))
              have HPK := hid (fun m => prepd_krest (m := m) he1)
              have HPN := hid (prepd_none (krest_free he1))
              rw [he1]
              clear he1
              obtain ⟨FQ, Z, hsq, hq, hqt⟩ := hx1.qu
              have hA2' : lb ≠ [] → ∀ b0 off, A = some ⟨b0, off, none⟩ → ¬ (F b0 ∨ FK' b0) ∧ b0 < w1.heap.size := fun hne b0 off e => by
                have h1 := HA2.out hne b0 off e
                have h2 := HZS.out
                refine ⟨fun q => (hg01 b0 q).elim h1.1 (fun r => by omega), by have := hf1.size; omega⟩
              have hat2' : ChAt w1 w1.heap.size A lb := ((Q.RowAt.fr HAT2Z.out hf1 (fun hne b0 off e q => (HA2.out hne b0 off e).1 (HSUB.out _ q))).up (Nat.le_trans HZS.out hf1.size))
              have HX1 := hid hx1
              have HG1 := hid hg01
              have HF1 := hid hf01
              have HQT := hid hqt
              have HSQ := hid hsq
              have HQ := hid hq
              have HA2 := hid hA2'
              have HAT2 := hid hat2'
              clear hx1 hg01 hf01 hqt hsq hq hA2' hat2' hk' hg1 hf1 HC HST HAT2Z
              go_wp2_with fail
              go_still_tail 7, (by kernel_rfl)
              change wpList _ _ _ _ _ w1.drew
              have hd1 := Q.bd1 w1
              have HX1d := hid (HX1.out.below hd1)
              have HF1d := hid (HF1.out.trans (Fr.of_below hd1 (Nat.le_refl _)) (fun _ q => q.elim))
              have hqd := HQ.out.below hd1
              have hatd := HAT2.out.below hd1
              have hc2 := Q.restore_any hqd HQOK.out.bd n A lb 0 hatd (fun hne b0 off e q => (HA2.out hne b0 off e).1 (HSQ.out _ q)) (by rw [HDL.out]; omega) (by have := HQOK.out.ws_le; omega) (by have := HQOK.out.sz; omega)
              rw [HDL.out] at hc2
              have HQT2 := hid (fun w' FQ' q' (h1 : Q.QAt Z FQ' w' b q') (h2 : q'.Ok) (h3 : Q.Grew FQ FQ' w1.drew) (h4 : Fr FQ w1.drew w') => HQT.out w' FQ' q' h1 h2 h3 ((Fr.refl FQ w1).drew.trans h4 (fun i hi => .inl hi)))
              have HC2 := hid hc2
              have HATD := hid hatd
              have HSZ1 : Hid (w1.drew.heap.size = w1.heap.size) := hid rfl
              clear hc2 hqd hatd hd1 HAT2 HX1 HF1 HQT HQ
              generalize w1.drew = w2 at *
              go_wp2_with fail
              refine HC2.out.mono ?_
              rintro e w3 ⟨rfl, ⟨FQ', hq', hg3⟩, hf3⟩
              have hx3 := HQT2.out w3 FQ' _ hq' (HQOK.out.restore n lb) hg3 hf3
              have hg03 : ∀ i, ((F i ∨ FK' i) ∨ FQ' i) → F i ∨ wc.heap.size ≤ i := fun i hi => by
                have hz := HZS.out
                rcases hi with r | r
                · exact (HG1.out i r).imp id (fun q => Nat.le_trans hz q)
                · rcases hg3 i r with r | r
                  · exact (HG1.out i (HSQ.out i r)).imp id (fun q => Nat.le_trans hz q)
                  · exact .inr (Nat.le_trans HF1d.out.size r)
              have hf03 : Fr F wc w3 := HF1d.out.trans hf3 (fun i hi => (HG1.out i (HSQ.out i hi)).imp id (fun q => Nat.le_trans HZS.out q))
              by_cases he2 : (s.q.restore n lb).1 = 0
              · have HN4 := hid (HN3.out.trans (by rw [if_neg (by rw [he2]; simp)]))
                have HPQ := hid (fun m => prepd_qrest (m := m) he2)
                rw [he2]
                have HC5 := hid (mark0_any hx3 n A la i i HTL.out)
                have HG3 := hid hg03
                have HF3 := hid hf03
                clear hx3 hg03 hf03 hq' hg3 hf3 he2 HC2 HQT2 HPN
                go_wp2_with fail
                refine HC5.out.mono ?_
                rintro e w4 ⟨rfl, ⟨F4, hx4, hg4, hs4⟩, hf4⟩
                have hg04 : ∀ i, F4 i → F i ∨ wc.heap.size ≤ i := fun i hi => (hs4 i hi).elim (HG3.out i) (fun r => .inr (Nat.le_trans HF3.out.size r))
                have hf04 : Fr F wc w4 := HF3.out.trans hf4 HG3.out
                have HC6 := hid (mark1_any hx4 n A lb (0) 0 HDL.out)
                have HG4 := hid hg04
                have HF4 := hid hf04
                clear hx4 hg4 hs4 hf4 hg04 hf04 HC5
                go_wp2_with fail
                refine HC6.out.mono ?_
                rintro e w5 ⟨rfl, ⟨F5, hx5, hg5, hs5⟩, hf5⟩
                have hg05 : ∀ i, F5 i → F i ∨ wc.heap.size ≤ i := fun i hi => (hs5 i hi).elim (HG4.out i) (fun r => .inr (Nat.le_trans HF4.out.size r))
                have hf05 : Fr F wc w5 := HF4.out.trans hf5 HG4.out
                have HX5 := hid (hx5.marks (fun m => (HPK.out m).symm) (fun m => (HPQ.out m).symm))
                have HG5 := hid hg05
                have HF5 := hid hf05
                clear hx5 hg5 hs5 hf5 hg05 hf05 HC6
                go_wp2_with fail
                go_ret
                rw [HN4.out]
                exact ⟨rfl, ⟨F5, HX5.out, HG5.out⟩, HF5.out⟩
              · have he2' : ((s.q.restore n lb).1 != 0) = true := by simpa using he2
                have hqe := qrest_err he2
                by_cases hi0 : 0 < i
                · have hi0' : (0 : Int) < i := by omega
                  have HN4 := hid (HN3.out.trans (by rw [if_pos he2, if_pos hi0]))
                  obtain ⟨FK2, Pz2, hsub2, hk2, hst2⟩ := hx3.kv
                  have HC5 := hid (K.backout_any hk2 n)
                  have HST2 := hid hst2
                  have HSUB2 := hid hsub2
                  have HG3 := hid hg03
                  have HF3 := hid hf03
                  have HQE := hid hqe
                  clear hx3 hg03 hf03 hq' hg3 hf3 hk2 hst2 hsub2 HC2 HQT2 hqe
                  go_wp2_with fail
                  refine HC5.out.mono ?_
                  rintro e w4 ⟨rfl, ⟨FK3, hk4, hg4⟩, hf4⟩
                  have hx4 := HST2.out w4 FK3 _ hk4 hg4 hf4
                  have hg04 : ∀ i, (((F i ∨ FK' i) ∨ FQ' i) ∨ FK3 i) → F i ∨ wc.heap.size ≤ i := fun i hi => hi.elim (HG3.out i) (fun r => (hg4 i r).elim (fun q => HG3.out i (HSUB2.out i q)) (fun q => .inr (Nat.le_trans HF3.out.size q)))
                  have hf04 : Fr F wc w4 := HF3.out.trans (hf4.mono HSUB2.out) HG3.out
                  have HX4 := hid (hx4.marks (g0 := fun m => prepd m ((s.k.restore n la).2.backout n).2.ws) (g1 := fun m => prepd m (s.q.restore n lb).2.ws) (fun m => by
                    rw [kback_ws (by omega), prepd_gone, HPK.out]
                    exact marks_back HPN.out) (fun m => by rw [HQE.out]))
                  have HG4 := hid hg04
                  have HF4 := hid hf04
                  clear hx4 hg4 hf4 hk4 hg04 hf04 HC5
                  go_wp2_with fail
                  go_ret
                  rw [HN4.out]
                  exact ⟨rfl, ⟨_, HX4.out, HG4.out⟩, HF4.out⟩
                · have hi0' : ¬ (0 : Int) < i := by omega
                  have HN4 := hid (HN3.out.trans (by rw [if_pos he2, if_neg hi0]))
                  have hla0 : la = [] := List.eq_nil_of_length_eq_zero (by rw [HTL.out]; omega)
                  have HX3 := hid (hx3.marks (g0 := fun m => prepd m (s.k.restore n la).2.ws) (g1 := fun m => prepd m (s.q.restore n lb).2.ws) (fun m => by
                    rw [HPK.out, hla0, List.isEmpty_nil, Bool.not_true, Bool.and_false, Bool.or_false]) (fun m => by rw [hqe]))
                  have HG3 := hid hg03
                  have HF3 := hid hf03
                  clear hx3 hg03 hf03 hq' hg3 hf3 HC2 HQT2 hqe hla0
                  go_wp2_with fail
                  go_ret
                  rw [HN4.out]
                  exact ⟨rfl, ⟨_, HX3.out, HG3.out⟩, HF3.out⟩
            · have he1' : ((s.k.restore n la).1 != 0) = true := by simpa using he1
              have HE := hid (HN2.out.trans (by rw [if_pos he1]))
              have HX1 := hid (hx1.marks (g0 := fun m => prepd m (s.k.restore n la).2.ws) (g1 := fun m => prepd m s.q.ws) (fun m => by rw [krest_err he1]) (fun _ => rfl))
              have HG1 := hid (fun i hi => (hg01 i hi).imp id (fun q => Nat.le_trans HZS.out q))
              have HF1 := hid hf01
              clear hx1 hg01 hf01 hk' hg1 hf1
              go_wp2_with fail
              go_ret
              rw [HE.out]
              exact ⟨rfl, ⟨_, HX1.out, HG1.out⟩, HF1.out⟩
      · have hic : i ≤ c := by omega
        have hic' : (i : Int) ≤ (c : Int) := by omega
        have hat2 : ChAt wc wc.heap.size (Option.map (fun x => Addr.add x (i * 3)) A) (l.drop i) := fun k x hx => by
          rw [List.getElem?_drop] at hx
          obtain ⟨b1, o1, e1, h, hcc⟩ := HL.out (i + k) x hx
          subst e1
          refine ⟨b1, o1 + i * 3, by simp [Addr.add_lit], h, fun j v hv => ?_⟩
          have := hcc j v hv
          rw [show o1 + i * 3 + k * 3 + j = o1 + (i + k) * 3 + j by omega]
          exact this
        have HB2 : Hid (l ≠ [] → ∀ b0 off, (Option.map (fun x => Addr.add x (i * 3)) A) = some ⟨b0, off, none⟩ → ∃ o, A = some ⟨b0, o, none⟩) := hid (fun hne b0 off e => by
          obtain ⟨x, hx⟩ : ∃ x, l[0]? = some x := ⟨_, List.getElem?_eq_getElem (List.length_pos_iff.2 hne)⟩
          obtain ⟨b1, o1, e1, _⟩ := HL.out 0 x hx
          rw [e1] at e ⊢
          simp only [Option.map_some, Addr.add_lit, Option.some.injEq, Addr.mk.injEq] at e
          exact ⟨o1, by rw [e.1]⟩)
        have hdl : (l.drop i).length = l.length - i := by rw [List.length_drop]
        have htl : (l.take i).length = i := by rw [List.length_take]; omega
        have hat1 : ChAt wc wc.heap.size A (l.take i) := fun k x hx => HL.out k x (by rw [List.getElem?_take] at hx; split at hx; exact hx; cases hx)
        have hlt : ∀ k x, (l.drop i)[k]? = some x → ∀ b0 off, (Option.map (fun x => Addr.add x (i * 3)) A) = some ⟨b0, off, none⟩ → b0 < wc.heap.size := fun k x hx b0 off e => by
          obtain ⟨b1, o1, e1, h, _⟩ := hat2 k x hx
          rw [e] at e1; cases e1; exact h
        have hA2 : l.drop i ≠ [] → ∀ b0 off, (Option.map (fun x => Addr.add x (i * 3)) A) = some ⟨b0, off, none⟩ → ¬ F b0 ∧ b0 < wc.heap.size := fun hne b0 off e => by
          obtain ⟨x, hx⟩ : ∃ x, (l.drop i)[0]? = some x := ⟨_, List.getElem?_eq_getElem (List.length_pos_iff.2 hne)⟩
          exact ⟨by obtain ⟨o, r⟩ := HB2.out (fun q => by rw [q] at hx; simp at hx) b0 off e; exact HA.out (fun q => by rw [q] at hx; simp at hx) _ _ r, hlt 0 x hx b0 off e⟩
        have hA1 : l.take i ≠ [] → ∀ b0 off, A = some ⟨b0, off, none⟩ → ¬ F b0 ∧ b0 < wc.heap.size := fun hne b0 off e => by
          have hl0 : l ≠ [] := fun q => hne (by rw [q]; simp)
          obtain ⟨x, hx⟩ : ∃ x, (l.take i)[0]? = some x := ⟨_, List.getElem?_eq_getElem (List.length_pos_iff.2 hne)⟩
          obtain ⟨b1, o1, e1, h, _⟩ := hat1 0 x hx
          rw [e] at e1; cases e1
          exact ⟨HA.out hl0 _ _ e, h⟩
        have HAT1 := hid hat1
        have HAT2 := hid hat2
        have HA1 := hid hA1
        have HA2 := hid hA2
        have HDL := hid hdl
        have HTL := hid htl
        generalize hlb : l.drop i = lb at *
        generalize hla : l.take i = la at *
        clear hat1 hat2 hlt hA2 hA1 HL HA hdl htl hlb hla hcn HB2
        go_wp2_with fail
        go_loopg [42] (l.length - i + 1) (fun m v wr => ∃ j : Nat, v = .int .i64 j ∧ j ≤ l.length - i ∧ m = l.length - i + 1 - j ∧ Below wc.heap.size wc wr ∧ ∀ k y, k < j → lb[k]? = some y → kvKind y = false)
        case atStart => exact ⟨0, rfl, Nat.zero_le _, rfl, Below.refl _ _, fun k y hk => by omega⟩
        case round =>
          obtain ⟨j, rfl, hj, hm, hbw, hall⟩ := hrel
          have HM := hid hm
          have HALL := hid hall
          have HBW := hid hbw
          clear hm hall hbw
          by_cases h2 : j < l.length - i
          · obtain ⟨y, hy⟩ : ∃ y, lb[j]? = some y := ⟨_, List.getElem?_eq_getElem (by rw [HDL.out]; exact h2)⟩
            obtain ⟨b', off, hA2e, hb, hcc⟩ := (HAT2.out.below HBW.out) j y hy
            have hba : Below wr.heap.size wr (wr.alloc (.cells #[.int .i64 y.kind, .int .i64 y.key, .int .u64 y.val] 90)) := (Below.refl _ _).alloc (Nat.le_refl _) _
            have HBW2 := hid (HBW.out.trans (hba.mono HBW.out.size))
            have k0 : wr.cell? ⟨b', off + j * 3, none⟩ = some (.int .i64 y.kind) := hcc 0 _ rfl
            have k1 := hcc 1 _ rfl
            have k2 := hcc 2 _ rfl
            have HY := hid hy
            have HA2E := hid hA2e
            have h2' : (j : Int) < ((l.length - i : Nat) : Int) := by omega
            clear hcc hy hba
            generalize Option.map (fun x => Addr.add x (i * 3)) A = A2 at *
            subst hA2e
            cases q1 : (y.kind == 1)
            · cases q2 : (y.kind == 2)
              · go_wp2_with fail
                go_roundg (l.length - i + 1 - (j + 1))
                case measure => rw [HM.out]; omega
                case rel => exact ⟨j + 1, by go_num, by omega, rfl, HBW2.out, fun k z hk hz => by
                  rcases Nat.lt_succ_iff_lt_or_eq.1 hk with r | r
                  · exact HALL.out k z r hz
                  · rw [r, HY.out] at hz; cases hz; unfold kvKind; rw [q1, q2]; rfl⟩
              · have HE := hid (show s.restore n l = (3, s) from by
                  rw [HN1.out, if_pos (List.any_eq_true.2 ⟨y, List.mem_of_getElem? HY.out, by unfold kvKind; rw [q2]; simp⟩)])
                go_wp2_with fail
                go_ret
                rw [HE.out]
                exact ⟨rfl, ⟨F, H.out.below HBW2.out, K.Grew.refl _ _⟩, (Fr.of_below HBW2.out (Nat.le_refl _)).mono (fun _ q => q.elim)⟩
            · have HE := hid (show s.restore n l = (3, s) from by
                  rw [HN1.out, if_pos (List.any_eq_true.2 ⟨y, List.mem_of_getElem? HY.out, by unfold kvKind; rw [q1]; rfl⟩)])
              go_wp2_with fail
              go_ret
              rw [HE.out]
              exact ⟨rfl, ⟨F, H.out.below HBW2.out, K.Grew.refl _ _⟩, (Fr.of_below HBW2.out (Nat.le_refl _)).mono (fun _ q => q.elim)⟩
          · have h2' : ¬ (j : Int) < ((l.length - i : Nat) : Int) := by omega
            have hnone : lb.any kvKind = false := by
              rw [List.any_eq_false]
              intro y hy
              obtain ⟨k, hk, e⟩ := List.mem_iff_getElem.1 hy
              have := HALL.out k y (by rw [HDL.out] at hk; omega) (by rw [List.getElem?_eq_getElem hk, e])
              rw [this]; simp
            have HN2 := hid (HN1.out.trans (by rw [if_neg (by rw [hnone]; simp)]))
            clear hnone HALL
            go_wp2_with fail
            go_still_tail 7, (by kernel_rfl)
            change wpList _ _ _ _ _ wr.drew
            have hbz : Below wc.heap.size wc wr.drew := HBW.out.trans ((Q.bd1 wr).mono HBW.out.size)
            generalize wr.drew = wz at *
            have hxz : RAt F wz b s := H.out.below hbz
            have hfz : Fr F wc wz := (Fr.of_below hbz (Nat.le_refl _)).mono (fun _ q => q.elim)
            have hqok := hxz.qok
            obtain ⟨FK, Pz, hsub, hk, hst⟩ := hxz.kv
            have hc1 := K.restore_any hk n A la c (ChAt.toK ((HAT1.out.below hbz).up hbz.size)) (fun hne b0 off e => ⟨fun q => (HA1.out hne b0 off e).1 (hsub _ q), Nat.lt_of_lt_of_le (HA1.out hne b0 off e).2 hbz.size⟩) (by rw [HTL.out]; omega) (by rw [HTL.out]; omega)
            rw [HTL.out] at hc1
            have HC := hid hc1
            have HST := hid hst
            have HSUB := hid hsub
            have HQOK := hid hqok
            have HFZ := hid hfz
            have HXZ := hid hxz
            have HZS := hid hbz.size
            have HAT2Z := hid (HAT2.out.below hbz)
            clear hc1 hst hsub hqok hfz hxz hk hbz HBW HAT1 HAT2 HM
            go_wp2_with fail
            refine HC.out.mono ?_
            rintro e w1 ⟨rfl, ⟨FK', hk', hg1⟩, hf1⟩
            have hx1 := HST.out w1 FK' _ hk' hg1 hf1
            have hg01 : ∀ i, (F i ∨ FK' i) → F i ∨ wz.heap.size ≤ i := fun i hi => hi.elim .inl (fun q => (hg1 i q).imp (HSUB.out i) id)
            have hf01 : Fr F wc w1 := HFZ.out.trans (hf1.mono HSUB.out) (fun i hi => .inl hi)
            by_cases he1 : (s.k.restore n la).1 = 0
            · have HN3 := hid (HN2.out.trans (by rw [if_neg (by rw [he1]; simp)]))
              have HPK := hid (fun m => prepd_krest (m := m) he1)
              have HPN := hid (prepd_none (krest_free he1))
              rw [he1]
              clear he1
              obtain ⟨FQ, Z, hsq, hq, hqt⟩ := hx1.qu
              have hA2' : lb ≠ [] → ∀ b0 off, (Option.map (fun x => Addr.add x (i * 3)) A) = some ⟨b0, off, none⟩ → ¬ (F b0 ∨ FK' b0) ∧ b0 < w1.heap.size := fun hne b0 off e => by
                have h1 := HA2.out hne b0 off e
                have h2 := HZS.out
                refine ⟨fun q => (hg01 b0 q).elim h1.1 (fun r => by omega), by have := hf1.size; omega⟩
              have hat2' : ChAt w1 w1.heap.size (Option.map (fun x => Addr.add x (i * 3)) A) lb := ((Q.RowAt.fr HAT2Z.out hf1 (fun hne b0 off e q => (HA2.out hne b0 off e).1 (HSUB.out _ q))).up (Nat.le_trans HZS.out hf1.size))
              have HX1 := hid hx1
              have HG1 := hid hg01
              have HF1 := hid hf01
              have HQT := hid hqt
              have HSQ := hid hsq
              have HQ := hid hq
              have HA2 := hid hA2'
              have HAT2 := hid hat2'
              clear hx1 hg01 hf01 hqt hsq hq hA2' hat2' hk' hg1 hf1 HC HST HAT2Z
              go_wp2_with fail
              go_still_tail 7, (by kernel_rfl)
              change wpList _ _ _ _ _ w1.drew
              have hd1 := Q.bd1 w1
              have HX1d := hid (HX1.out.below hd1)
              have HF1d := hid (HF1.out.trans (Fr.of_below hd1 (Nat.le_refl _)) (fun _ q => q.elim))
              have hqd := HQ.out.below hd1
              have hatd := HAT2.out.below hd1
              have hc2 := Q.restore_any hqd HQOK.out.bd n (Option.map (fun x => Addr.add x (i * 3)) A) lb (c - i) hatd (fun hne b0 off e q => (HA2.out hne b0 off e).1 (HSQ.out _ q)) (by rw [HDL.out]; omega) (by have := HQOK.out.ws_le; omega) (by have := HQOK.out.sz; omega)
              rw [HDL.out] at hc2
              have HQT2 := hid (fun w' FQ' q' (h1 : Q.QAt Z FQ' w' b q') (h2 : q'.Ok) (h3 : Q.Grew FQ FQ' w1.drew) (h4 : Fr FQ w1.drew w') => HQT.out w' FQ' q' h1 h2 h3 ((Fr.refl FQ w1).drew.trans h4 (fun i hi => .inl hi)))
              have HC2 := hid hc2
              have HATD := hid hatd
              have HSZ1 : Hid (w1.drew.heap.size = w1.heap.size) := hid rfl
              clear hc2 hqd hatd hd1 HAT2 HX1 HF1 HQT HQ
              generalize w1.drew = w2 at *
              go_wp2_with fail
              refine HC2.out.mono ?_
              rintro e w3 ⟨rfl, ⟨FQ', hq', hg3⟩, hf3⟩
              have hx3 := HQT2.out w3 FQ' _ hq' (HQOK.out.restore n lb) hg3 hf3
              have hg03 : ∀ i, ((F i ∨ FK' i) ∨ FQ' i) → F i ∨ wc.heap.size ≤ i := fun i hi => by
                have hz := HZS.out
                rcases hi with r | r
                · exact (HG1.out i r).imp id (fun q => Nat.le_trans hz q)
                · rcases hg3 i r with r | r
                  · exact (HG1.out i (HSQ.out i r)).imp id (fun q => Nat.le_trans hz q)
                  · exact .inr (Nat.le_trans HF1d.out.size r)
              have hf03 : Fr F wc w3 := HF1d.out.trans hf3 (fun i hi => (HG1.out i (HSQ.out i hi)).imp id (fun q => Nat.le_trans HZS.out q))
              by_cases he2 : (s.q.restore n lb).1 = 0
              · have HN4 := hid (HN3.out.trans (by rw [if_neg (by rw [he2]; simp)]))
                have HPQ := hid (fun m => prepd_qrest (m := m) he2)
                rw [he2]
                have HC5 := hid (mark0_any hx3 n A la i c HTL.out)
                have HG3 := hid hg03
                have HF3 := hid hf03
                clear hx3 hg03 hf03 hq' hg3 hf3 he2 HC2 HQT2 HPN
                go_wp2_with fail
                refine HC5.out.mono ?_
                rintro e w4 ⟨rfl, ⟨F4, hx4, hg4, hs4⟩, hf4⟩
                have hg04 : ∀ i, F4 i → F i ∨ wc.heap.size ≤ i := fun i hi => (hs4 i hi).elim (HG3.out i) (fun r => .inr (Nat.le_trans HF3.out.size r))
                have hf04 : Fr F wc w4 := HF3.out.trans hf4 HG3.out
                have HC6 := hid (mark1_any hx4 n (Option.map (fun x => Addr.add x (i * 3)) A) lb (l.length - i) (c - i) HDL.out)
                have HG4 := hid hg04
                have HF4 := hid hf04
                clear hx4 hg4 hs4 hf4 hg04 hf04 HC5
                go_wp2_with fail
                refine HC6.out.mono ?_
                rintro e w5 ⟨rfl, ⟨F5, hx5, hg5, hs5⟩, hf5⟩
                have hg05 : ∀ i, F5 i → F i ∨ wc.heap.size ≤ i := fun i hi => (hs5 i hi).elim (HG4.out i) (fun r => .inr (Nat.le_trans HF4.out.size r))
                have hf05 : Fr F wc w5 := HF4.out.trans hf5 HG4.out
                have HX5 := hid (hx5.marks (fun m => (HPK.out m).symm) (fun m => (HPQ.out m).symm))
                have HG5 := hid hg05
                have HF5 := hid hf05
                clear hx5 hg5 hs5 hf5 hg05 hf05 HC6
                go_wp2_with fail
                go_ret
                rw [HN4.out]
                exact ⟨rfl, ⟨F5, HX5.out, HG5.out⟩, HF5.out⟩
              · have he2' : ((s.q.restore n lb).1 != 0) = true := by simpa using he2
                have hqe := qrest_err he2
                by_cases hi0 : 0 < i
                · have hi0' : (0 : Int) < i := by omega
                  have HN4 := hid (HN3.out.trans (by rw [if_pos he2, if_pos hi0]))
                  obtain ⟨FK2, Pz2, hsub2, hk2, hst2⟩ := hx3.kv
                  have HC5 := hid (K.backout_any hk2 n)
                  have HST2 := hid hst2
                  have HSUB2 := hid hsub2
                  have HG3 := hid hg03
                  have HF3 := hid hf03
                  have HQE := hid hqe
                  clear hx3 hg03 hf03 hq' hg3 hf3 hk2 hst2 hsub2 HC2 HQT2 hqe
                  go_wp2_with fail
                  refine HC5.out.mono ?_
                  rintro e w4 ⟨rfl, ⟨FK3, hk4, hg4⟩, hf4⟩
                  have hx4 := HST2.out w4 FK3 _ hk4 hg4 hf4
                  have hg04 : ∀ i, (((F i ∨ FK' i) ∨ FQ' i) ∨ FK3 i) → F i ∨ wc.heap.size ≤ i := fun i hi => hi.elim (HG3.out i) (fun r => (hg4 i r).elim (fun q => HG3.out i (HSUB2.out i q)) (fun q => .inr (Nat.le_trans HF3.out.size q)))
                  have hf04 : Fr F wc w4 := HF3.out.trans (hf4.mono HSUB2.out) HG3.out
                  have HX4 := hid (hx4.marks (g0 := fun m => prepd m ((s.k.restore n la).2.backout n).2.ws) (g1 := fun m => prepd m (s.q.restore n lb).2.ws) (fun m => by
                    rw [kback_ws (by omega), prepd_gone, HPK.out]
                    exact marks_back HPN.out) (fun m => by rw [HQE.out]))
                  have HG4 := hid hg04
                  have HF4 := hid hf04
                  clear hx4 hg4 hf4 hk4 hg04 hf04 HC5
                  go_wp2_with fail
                  go_ret
                  rw [HN4.out]
                  exact ⟨rfl, ⟨_, HX4.out, HG4.out⟩, HF4.out⟩
                · have hi0' : ¬ (0 : Int) < i := by omega
                  have HN4 := hid (HN3.out.trans (by rw [if_pos he2, if_neg hi0]))
                  have hla0 : la = [] := List.eq_nil_of_length_eq_zero (by rw [HTL.out]; omega)
                  have HX3 := hid (hx3.marks (g0 := fun m => prepd m (s.k.restore n la).2.ws) (g1 := fun m => prepd m (s.q.restore n lb).2.ws) (fun m => by
                    rw [HPK.out, hla0, List.isEmpty_nil, Bool.not_true, Bool.and_false, Bool.or_false]) (fun m => by rw [hqe]))
                  have HG3 := hid hg03
                  have HF3 := hid hf03
                  clear hx3 hg03 hf03 hq' hg3 hf3 HC2 HQT2 hqe hla0
                  go_wp2_with fail
                  go_ret
                  rw [HN4.out]
                  exact ⟨rfl, ⟨_, HX3.out, HG3.out⟩, HF3.out⟩
            · have he1' : ((s.k.restore n la).1 != 0) = true := by simpa using he1
              have HE := hid (HN2.out.trans (by rw [if_pos he1]))
              have HX1 := hid (hx1.marks (g0 := fun m => prepd m (s.k.restore n la).2.ws) (g1 := fun m => prepd m s.q.ws) (fun m => by rw [krest_err he1]) (fun _ => rfl))
              have HG1 := hid (fun i hi => (hg01 i hi).imp id (fun q => Nat.le_trans HZS.out q))
              have HF1 := hid hf01
              clear hx1 hg01 hf01 hk' hg1 hf1
              go_wp2_with fail
              go_ret
              rw [HE.out]
              exact ⟨rfl, ⟨_, HX1.out, HG1.out⟩, HF1.out⟩
end Go.Proofs.YtdejbinmnoabeaaGreat

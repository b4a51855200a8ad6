/- Texts of this seat, put together: RzF, KvP, RzG0, RzP. -/
import Derived.Test.YtdejbinmnoabeaaBd12
import Derived.Test.YtdejbinmnoabeaaBd10
import Derived.Laws.Rows
import Derived.Test.YtdejbinmnoabeaaBd7
namespace Go.Proofs.Ytdejbinmnoabeaa
open Go.RowKit Go.Mine Go.Proofs.YtdejbinmnoabeaaW.PrintWords
set_option linter.unusedVariables false
set_option linter.unusedSimpArgs false
theorem marks_back {m n : Int} {ws : List (Int × KW)} {z : Bool} (h : prepd n ws = false) : prepd m ws = ((prepd m ws || (m == n && z)) && !(m == n)) := by
  by_cases q : m = n
  · subst q; rw [h]; simp
  · have : (m == n) = false := by simpa using q
    rw [this]; simp
set_option maxRecDepth 100000 in
set_option maxHeartbeats 3000000 in
theorem restore_any {F : Nat → Prop} {w : World} {b : Nat} {s : RM} (h : RAt F w b s) (n : Int) (A : Option Addr) (l : List Ch) (c : Nat) (hl : ChAt w w.heap.size A l) (hA : l ≠ [] → Q.Beside F A) (hn : l.length ≤ 900) (hc : l.length ≤ c) :
    Calls Try.prog 27 #[.pointer (some ⟨b, 0, none⟩), .int .i64 n, .slice A l.length c] w (RPost F w b (.int .i64 (s.restore n l).1) (s.restore n l).2) := by
  have H := hid h
  have HL := hid hl
  have HA := hid hA
  clear h hl hA
  by_cases h1 : n < 1
  · have HM := hid (show s.restore n l = (1, s) from by unfold RM.restore; rw [if_pos h1])
    go_enter Try.func27, Try.ntmps27
    go_wp2_with fail
    go_ret
    rw [HM.out]
    exact RPost.same H.out _
  · have HN1 := hid (show s.restore n l = _ from by unfold RM.restore; rw [if_neg h1])
    go_enter Try.func27, Try.ntmps27
    go_upto_block 0 with (fail)
    go_cut [7] (fun v wc => v = .int .i64 (cutN l) ∧ wc = w)
    case first =>
      go_wp2_with fail
      go_loopg [7] (l.length + 1) (fun m v wr => ∃ i : Nat, v = .int .i64 i ∧ i ≤ l.length ∧ m = l.length + 1 - i ∧ wr = w ∧ ∀ j y, j < i → l[j]? = some y → kvKind y = true)
      case atStart => exact ⟨0, rfl, Nat.zero_le _, rfl, rfl, fun j y hj => by omega⟩
      case round =>
        obtain ⟨i, rfl, hi, hm, hw, hall⟩ := hrel
        subst hw
        have HM := hid hm
        have HALL := hid hall
        clear hm hall
        by_cases h2 : i < l.length
        · obtain ⟨y, hy⟩ : ∃ y, l[i]? = some y := ⟨_, List.getElem?_eq_getElem h2⟩
          obtain ⟨b', off, rfl, hb, hcc⟩ := HL.out i y hy
          have k0 : wr.cell? ⟨b', off + i * 3, none⟩ = some (.int .i64 y.kind) := hcc 0 _ rfl
          have HY := hid hy
          clear hcc hy
          cases q1 : (y.kind == 1)
          · cases q2 : (y.kind == 2)
            · have HCUT := hid (show i = cutN l from cutN_eq HALL.out (by omega) (fun z hz => by rw [HY.out] at hz; cases hz; unfold kvKind; rw [q1, q2]; rfl))
              go_wp2_with fail
              go_meet
              case rel => exact ⟨by rw [HCUT.out], rfl⟩
            · go_wp2_with fail
              go_roundg (l.length + 1 - (i + 1))
              case measure => rw [HM.out]; omega
              case rel => exact ⟨i + 1, by go_num, by omega, rfl, rfl, fun j z hj hz => by
                rcases Nat.lt_succ_iff_lt_or_eq.1 hj with r | r
                · exact HALL.out j z r hz
                · rw [r, HY.out] at hz; cases hz; unfold kvKind; rw [q2]; simp⟩
          · go_wp2_with fail
            go_roundg (l.length + 1 - (i + 1))
            case measure => rw [HM.out]; omega
            case rel => exact ⟨i + 1, by go_num, by omega, rfl, rfl, fun j z hj hz => by
                rcases Nat.lt_succ_iff_lt_or_eq.1 hj with r | r
                · exact HALL.out j z r hz
                · rw [r, HY.out] at hz; cases hz; unfold kvKind; rw [q1]; rfl⟩
        · have HCUT := hid (show i = cutN l from cutN_eq HALL.out (by omega) (fun z hz => by rw [List.getElem?_eq_none (by omega)] at hz; cases hz))
          go_wp2_with fail
          go_meet
          case rel => exact ⟨by rw [HCUT.out], rfl⟩
    case rest =>
      obtain ⟨rfl, hw⟩ := hcut
      subst hw
      have hcl := cutN_le l
      generalize hcn : cutN l = i at *
      by_cases hci : c = i
      · have hil : l.length = i := by omega
        have hc' := hci.symm
        subst hc'
        rw [hil]
        have hat2 : ChAt wc wc.heap.size A (l.drop i) := fun k x hx => by rw [List.drop_eq_nil_of_le (by omega)] at hx; simp at hx
        have HB2 := hid hil
        have hdl : (l.drop i).length = 0 := by rw [List.length_drop]; omega
        have htl : (l.take i).length = i := by rw [List.length_take]; omega
        have hat1 : ChAt wc wc.heap.size A (l.take i) := fun k x hx => HL.out k x (by rw [List.getElem?_take] at hx; split at hx; exact hx; cases hx)
        have hlt : ∀ k x, (l.drop i)[k]? = some x → ∀ b0 off, A = some ⟨b0, off, none⟩ → b0 < wc.heap.size := fun k x hx b0 off e => by
          obtain ⟨b1, o1, e1, h, _⟩ := hat2 k x hx
          rw [e] at e1; cases e1; exact h
        have hA2 : l.drop i ≠ [] → ∀ b0 off, A = some ⟨b0, off, none⟩ → ¬ F b0 ∧ b0 < wc.heap.size := fun hne b0 off e => by
          obtain ⟨x, hx⟩ : ∃ x, (l.drop i)[0]? = some x := ⟨_, List.getElem?_eq_getElem (List.length_pos_iff.2 hne)⟩
          exact ⟨fun _ => hne (List.drop_eq_nil_of_le (by omega)), hlt 0 x hx b0 off e⟩
        have hA1 : l.take i ≠ [] → ∀ b0 off, A = some ⟨b0, off, none⟩ → ¬ F b0 ∧ b0 < wc.heap.size := fun hne b0 off e => by
          have hl0 : l ≠ [] := fun q => hne (by rw [q]; simp)
          obtain ⟨x, hx⟩ : ∃ x, (l.take i)[0]? = some x := ⟨_, List.getElem?_eq_getElem (List.length_pos_iff.2 hne)⟩
          obtain ⟨b1, o1, e1, h, _⟩ := hat1 0 x hx
          rw [e] at e1; cases e1
          exact ⟨HA.out hl0 _ _ e, h⟩
        have HAT1 := hid hat1
        have HAT2 := hid hat2
        have HA1 := hid hA1
        have HA2 := hid hA2
        have HDL := hid hdl
        have HTL := hid htl
        generalize hlb : l.drop i = lb at *
        generalize hla : l.take i = la at *
        clear hat1 hat2 hlt hA2 hA1 HL HA hdl htl hlb hla hcn HB2 hil hci
        go_wp2_with fail
        go_loopg [42] (0 + 1) (fun m v wr => ∃ j : Nat, v = .int .i64 j ∧ j ≤ 0 ∧ m = 0 + 1 - j ∧ Below wc.heap.size wc wr ∧ ∀ k y, k < j → lb[k]? = some y → kvKind y = false)
        case atStart => exact ⟨0, rfl, Nat.zero_le _, rfl, Below.refl _ _, fun k y hk => by omega⟩
        case round =>
          obtain ⟨j, rfl, hj, hm, hbw, hall⟩ := hrel
          have HM := hid hm
          have HALL := hid hall
          have HBW := hid hbw
          clear hm hall hbw
          by_cases h2 : j < 0
          · obtain ⟨y, hy⟩ : ∃ y, lb[j]? = some y := ⟨_, List.getElem?_eq_getElem (by rw [HDL.out]; exact h2)⟩
            obtain ⟨b', off, hA2e, hb, hcc⟩ := (HAT2.out.below HBW.out) j y hy
            have hba : Below wr.heap.size wr (wr.alloc (.cells #[.int .i64 y.kind, .int .i64 y.key, .int .u64 y.val] 62)) := (Below.refl _ _).alloc (Nat.le_refl _) _
            have HBW2 := hid (HBW.out.trans (hba.mono HBW.out.size))
            have k0 : wr.cell? ⟨b', off + j * 3, none⟩ = some (.int .i64 y.kind) := hcc 0 _ rfl
            have k1 := hcc 1 _ rfl
            have k2 := hcc 2 _ rfl
            have HY := hid hy
            have HA2E := hid hA2e
            have h2' : (j : Int) < ((0 : Nat) : Int) := by omega
            clear hcc hy hba
            exfalso
            omega
          · have h2' : ¬ (j : Int) < ((0 : Nat) : Int) := by omega
            have hnone : lb.any kvKind = false := by
              rw [List.any_eq_false]
              intro y hy
              obtain ⟨k, hk, e⟩ := List.mem_iff_getElem.1 hy
              have := HALL.out k y (by rw [HDL.out] at hk; omega) (by rw [List.getElem?_eq_getElem hk, e])
              rw [this]; simp
            have HN2 := hid (HN1.out.trans (by rw [if_neg (by rw [hnone]; simp)]))
            clear hnone HALL
            go_wp2_with fail
            go_still_tail 7, (by kernel_rfl)
            change wpList _ _ _ _ _ wr.drew
            have hbz : Below wc.heap.size wc wr.drew := HBW.out.trans ((Q.bd1 wr).mono HBW.out.size)
            generalize wr.drew = wz at *
            have hxz : RAt F wz b s := H.out.below hbz
            have hfz : Fr F wc wz := (Fr.of_below hbz (Nat.le_refl _)).mono (fun _ q => q.elim)
            have hqok := hxz.qok
            obtain ⟨FK, Pz, hsub, hk, hst⟩ := hxz.kv
            have hc1 := K.restore_any hk n A la i (ChAt.toK ((HAT1.out.below hbz).up hbz.size)) (fun hne b0 off e => ⟨fun q => (HA1.out hne b0 off e).1 (hsub _ q), Nat.lt_of_lt_of_le (HA1.out hne b0 off e).2 hbz.size⟩) (by rw [HTL.out]; omega) (by rw [HTL.out]; omega)
            rw [HTL.out] at hc1
            have HC := hid hc1
            have HST := hid hst
            have HSUB := hid hsub
            have HQOK := hid hqok
            have HFZ := hid hfz
            have HXZ := hid hxz
            have HZS := hid hbz.size
            have HAT2Z := hid (HAT2.out.below hbz)
            clear hc1 hst hsub hqok hfz hxz hk hbz HBW HAT1 HAT2 HM
            go_wp2_with fail
            refine HC.out.mono ?_
            rintro e w1 ⟨rfl, ⟨FK', hk', hg1⟩, hf1⟩
            have hx1 := HST.out w1 FK' _ hk' hg1 hf1
            have hg01 : ∀ i, (F i ∨ FK' i) → F i ∨ wz.heap.size ≤ i := fun i hi => hi.elim .inl (fun q => (hg1 i q).imp (HSUB.out i) id)
            have hf01 : Fr F wc w1 := HFZ.out.trans (hf1.mono HSUB.out) (fun i hi => .inl hi)
            by_cases he1 : (s.k.restore n la).1 = 0
            · have HN3 := hid (HN2.out.trans (by rw [if_neg (by rw [he1]; simp)]))
              have HPK := hid (fun m => prepd_krest (m := m) he1)
              have HPN := hid (prepd_none (krest_free he1))
              rw [he1]
              clear he1
              obtain ⟨FQ, Z, hsq, hq, hqt⟩ := hx1.qu
              have hA2' : lb ≠ [] → ∀ b0 off, A = some ⟨b0, off, none⟩ → ¬ (F b0 ∨ FK' b0) ∧ b0 < w1.heap.size := fun hne b0 off e => by
                have h1 := HA2.out hne b0 off e
                have h2 := HZS.out
                refine ⟨fun q => (hg01 b0 q).elim h1.1 (fun r => by omega), by have := hf1.size; omega⟩
              have hat2' : ChAt w1 w1.heap.size A lb := ((Q.RowAt.fr HAT2Z.out hf1 (fun hne b0 off e q => (HA2.out hne b0 off e).1 (HSUB.out _ q))).up (Nat.le_trans HZS.out hf1.size))
              have HX1 := hid hx1
              have HG1 := hid hg01
              have HF1 := hid hf01
              have HQT := hid hqt
              have HSQ := hid hsq
              have HQ := hid hq
              have HA2 := hid hA2'
              have HAT2 := hid hat2'
              clear hx1 hg01 hf01 hqt hsq hq hA2' hat2' hk' hg1 hf1 HC HST HAT2Z
              go_wp2_with fail
              go_still_tail 7, (by kernel_rfl)
              change wpList _ _ _ _ _ w1.drew
              have hd1 := Q.bd1 w1
              have HX1d := hid (HX1.out.below hd1)
              have HF1d := hid (HF1.out.trans (Fr.of_below hd1 (Nat.le_refl _)) (fun _ q => q.elim))
              have hqd := HQ.out.below hd1
              have hatd := HAT2.out.below hd1
              have hc2 := Q.restore_any hqd HQOK.out.bd n A lb 0 hatd (fun hne b0 off e q => (HA2.out hne b0 off e).1 (HSQ.out _ q)) (by rw [HDL.out]; omega) (by have := HQOK.out.ws_le; omega) (by have := HQOK.out.sz; omega)
              rw [HDL.out] at hc2
              have HQT2 := hid (fun w' FQ' q' (h1 : Q.QAt Z FQ' w' b q') (h2 : q'.Ok) (h3 : Q.Grew FQ FQ' w1.drew) (h4 : Fr FQ w1.drew w') => HQT.out w' FQ' q' h1 h2 h3 ((Fr.refl FQ w1).drew.trans h4 (fun i hi => .inl hi)))
              have HC2 := hid hc2
              have HATD := hid hatd
              have HSZ1 : Hid (w1.drew.heap.size = w1.heap.size) := hid rfl
              clear hc2 hqd hatd hd1 HAT2 HX1 HF1 HQT HQ
              generalize w1.drew = w2 at *
              go_wp2_with fail
              refine HC2.out.mono ?_
              rintro e w3 ⟨rfl, ⟨FQ', hq', hg3⟩, hf3⟩
              have hx3 := HQT2.out w3 FQ' _ hq' (HQOK.out.restore n lb) hg3 hf3
              have hg03 : ∀ i, ((F i ∨ FK' i) ∨ FQ' i) → F i ∨ wc.heap.size ≤ i := fun i hi => by
                have hz := HZS.out
                rcases hi with r | r
                · exact (HG1.out i r).imp id (fun q => Nat.le_trans hz q)
                · rcases hg3 i r with r | r
                  · exact (HG1.out i (HSQ.out i r)).imp id (fun q => Nat.le_trans hz q)
                  · exact .inr (Nat.le_trans HF1d.out.size r)
              have hf03 : Fr F wc w3 := HF1d.out.trans hf3 (fun i hi => (HG1.out i (HSQ.out i hi)).imp id (fun q => Nat.le_trans HZS.out q))
              by_cases he2 : (s.q.restore n lb).1 = 0
              · have HN4 := hid (HN3.out.trans (by rw [if_neg (by rw [he2]; simp)]))
                have HPQ := hid (fun m => prepd_qrest (m := m) he2)
                rw [he2]
                have HC5 := hid (mark0_any hx3 n A la i i HTL.out)
                have HG3 := hid hg03
                have HF3 := hid hf03
                clear hx3 hg03 hf03 hq' hg3 hf3 he2 HC2 HQT2 HPN
                go_wp2_with fail
                refine HC5.out.mono ?_
                rintro e w4 ⟨rfl, ⟨F4, hx4, hg4, hs4⟩, hf4⟩
                have hg04 : ∀ i, F4 i → F i ∨ wc.heap.size ≤ i := fun i hi => (hs4 i hi).elim (HG3.out i) (fun r => .inr (Nat.le_trans HF3.out.size r))
                have hf04 : Fr F wc w4 := HF3.out.trans hf4 HG3.out
                have HC6 := hid (mark1_any hx4 n A lb (0) 0 HDL.out)
                have HG4 := hid hg04
                have HF4 := hid hf04
                clear hx4 hg4 hs4 hf4 hg04 hf04 HC5
                go_wp2_with fail
                refine HC6.out.mono ?_
                rintro e w5 ⟨rfl, ⟨F5, hx5, hg5, hs5⟩, hf5⟩
                have hg05 : ∀ i, F5 i → F i ∨ wc.heap.size ≤ i := fun i hi => (hs5 i hi).elim (HG4.out i) (fun r => .inr (Nat.le_trans HF4.out.size r))
                have hf05 : Fr F wc w5 := HF4.out.trans hf5 HG4.out
                have HX5 := hid (hx5.marks (fun m => (HPK.out m).symm) (fun m => (HPQ.out m).symm))
                have HG5 := hid hg05
                have HF5 := hid hf05
                clear hx5 hg5 hs5 hf5 hg05 hf05 HC6
                go_wp2_with fail
                go_ret
                rw [HN4.out]
                exact ⟨rfl, ⟨F5, HX5.out, HG5.out⟩, HF5.out⟩
              · have he2' : ((s.q.restore n lb).1 != 0) = true := by simpa using he2
                have hqe := qrest_err he2
                by_cases hi0 : 0 < i
                · have hi0' : (0 : Int) < i := by omega
                  have HN4 := hid (HN3.out.trans (by rw [if_pos he2, if_pos hi0]))
                  obtain ⟨FK2, Pz2, hsub2, hk2, hst2⟩ := hx3.kv
                  have HC5 := hid (K.backout_any hk2 n)
                  have HST2 := hid hst2
                  have HSUB2 := hid hsub2
                  have HG3 := hid hg03
                  have HF3 := hid hf03
                  have HQE := hid hqe
                  clear hx3 hg03 hf03 hq' hg3 hf3 hk2 hst2 hsub2 HC2 HQT2 hqe
                  go_wp2_with fail
                  refine HC5.out.mono ?_
                  rintro e w4 ⟨rfl, ⟨FK3, hk4, hg4⟩, hf4⟩
                  have hx4 := HST2.out w4 FK3 _ hk4 hg4 hf4
                  have hg04 : ∀ i, (((F i ∨ FK' i) ∨ FQ' i) ∨ FK3 i) → F i ∨ wc.heap.size ≤ i := fun i hi => hi.elim (HG3.out i) (fun r => (hg4 i r).elim (fun q => HG3.out i (HSUB2.out i q)) (fun q => .inr (Nat.le_trans HF3.out.size q)))
                  have hf04 : Fr F wc w4 := HF3.out.trans (hf4.mono HSUB2.out) HG3.out
                  have HX4 := hid (hx4.marks (g0 := fun m => prepd m ((s.k.restore n la).2.backout n).2.ws) (g1 := fun m => prepd m (s.q.restore n lb).2.ws) (fun m => by
                    rw [kback_ws (by omega), prepd_gone, HPK.out]
                    exact marks_back HPN.out) (fun m => by rw [HQE.out]))
                  have HG4 := hid hg04
                  have HF4 := hid hf04
                  clear hx4 hg4 hf4 hk4 hg04 hf04 HC5
                  go_wp2_with fail
                  go_ret
                  rw [HN4.out]
                  exact ⟨rfl, ⟨_, HX4.out, HG4.out⟩, HF4.out⟩
                · have hi0' : ¬ (0 : Int) < i := by omega
                  have HN4 := hid (HN3.out.trans (by rw [if_pos he2, if_neg hi0]))
                  have hla0 : la = [] := List.eq_nil_of_length_eq_zero (by rw [HTL.out]; omega)
                  have HX3 := hid (hx3.marks (g0 := fun m => prepd m (s.k.restore n la).2.ws) (g1 := fun m => prepd m (s.q.restore n lb).2.ws) (fun m => by
                    rw [HPK.out, hla0, List.isEmpty_nil, Bool.not_true, Bool.and_false, Bool.or_false]) (fun m => by rw [hqe]))
                  have HG3 := hid hg03
                  have HF3 := hid hf03
                  clear hx3 hg03 hf03 hq' hg3 hf3 HC2 HQT2 hqe hla0
                  go_wp2_with fail
                  go_ret
                  rw [HN4.out]
                  exact ⟨rfl, ⟨_, HX3.out, HG3.out⟩, HF3.out⟩
            · have he1' : ((s.k.restore n la).1 != 0) = true := by simpa using he1
              have HE := hid (HN2.out.trans (by rw [if_pos he1]))
              have HX1 := hid (hx1.marks (g0 := fun m => prepd m (s.k.restore n la).2.ws) (g1 := fun m => prepd m s.q.ws) (fun m => by rw [krest_err he1]) (fun _ => rfl))
              have HG1 := hid (fun i hi => (hg01 i hi).imp id (fun q => Nat.le_trans HZS.out q))
              have HF1 := hid hf01
              clear hx1 hg01 hf01 hk' hg1 hf1
              go_wp2_with fail
              go_ret
              rw [HE.out]
              exact ⟨rfl, ⟨_, HX1.out, HG1.out⟩, HF1.out⟩
      · have hic : i ≤ c := by omega
        have hic' : (i : Int) ≤ (c : Int) := by omega
        have hat2 : ChAt wc wc.heap.size (Option.map (fun x => Addr.add x (i * 3)) A) (l.drop i) := fun k x hx => by
          rw [List.getElem?_drop] at hx
          obtain ⟨b1, o1, e1, h, hcc⟩ := HL.out (i + k) x hx
          subst e1
          refine ⟨b1, o1 + i * 3, by simp [Addr.add_lit], h, fun j v hv => ?_⟩
          have := hcc j v hv
          rw [show o1 + i * 3 + k * 3 + j = o1 + (i + k) * 3 + j by omega]
          exact this
        have HB2 : Hid (l ≠ [] → ∀ b0 off, (Option.map (fun x => Addr.add x (i * 3)) A) = some ⟨b0, off, none⟩ → ∃ o, A = some ⟨b0, o, none⟩) := hid (fun hne b0 off e => by
          obtain ⟨x, hx⟩ : ∃ x, l[0]? = some x := ⟨_, List.getElem?_eq_getElem (List.length_pos_iff.2 hne)⟩
          obtain ⟨b1, o1, e1, _⟩ := HL.out 0 x hx
          rw [e1] at e ⊢
          simp only [Option.map_some, Addr.add_lit, Option.some.injEq, Addr.mk.injEq] at e
          exact ⟨o1, by rw [e.1]⟩)
        have hdl : (l.drop i).length = l.length - i := by rw [List.length_drop]
        have htl : (l.take i).length = i := by rw [List.length_take]; omega
        have hat1 : ChAt wc wc.heap.size A (l.take i) := fun k x hx => HL.out k x (by rw [List.getElem?_take] at hx; split at hx; exact hx; cases hx)
        have hlt : ∀ k x, (l.drop i)[k]? = some x → ∀ b0 off, (Option.map (fun x => Addr.add x (i * 3)) A) = some ⟨b0, off, none⟩ → b0 < wc.heap.size := fun k x hx b0 off e => by
          obtain ⟨b1, o1, e1, h, _⟩ := hat2 k x hx
          rw [e] at e1; cases e1; exact h
        have hA2 : l.drop i ≠ [] → ∀ b0 off, (Option.map (fun x => Addr.add x (i * 3)) A) = some ⟨b0, off, none⟩ → ¬ F b0 ∧ b0 < wc.heap.size := fun hne b0 off e => by
          obtain ⟨x, hx⟩ : ∃ x, (l.drop i)[0]? = some x := ⟨_, List.getElem?_eq_getElem (List.length_pos_iff.2 hne)⟩
          exact ⟨by obtain ⟨o, r⟩ := HB2.out (fun q => by rw [q] at hx; simp at hx) b0 off e; exact HA.out (fun q => by rw [q] at hx; simp at hx) _ _ r, hlt 0 x hx b0 off e⟩
        have hA1 : l.take i ≠ [] → ∀ b0 off, A = some ⟨b0, off, none⟩ → ¬ F b0 ∧ b0 < wc.heap.size := fun hne b0 off e => by
          have hl0 : l ≠ [] := fun q => hne (by rw [q]; simp)
          obtain ⟨x, hx⟩ : ∃ x, (l.take i)[0]? = some x := ⟨_, List.getElem?_eq_getElem (List.length_pos_iff.2 hne)⟩
          obtain ⟨b1, o1, e1, h, _⟩ := hat1 0 x hx
          rw [e] at e1; cases e1
          exact ⟨HA.out hl0 _ _ e, h⟩
        have HAT1 := hid hat1
        have HAT2 := hid hat2
        have HA1 := hid hA1
        have HA2 := hid hA2
        have HDL := hid hdl
        have HTL := hid htl
        generalize hlb : l.drop i = lb at *
        generalize hla : l.take i = la at *
        clear hat1 hat2 hlt hA2 hA1 HL HA hdl htl hlb hla hcn HB2
        go_wp2_with fail
        go_loopg [42] (l.length - i + 1) (fun m v wr => ∃ j : Nat, v = .int .i64 j ∧ j ≤ l.length - i ∧ m = l.length - i + 1 - j ∧ Below wc.heap.size wc wr ∧ ∀ k y, k < j → lb[k]? = some y → kvKind y = false)
        case atStart => exact ⟨0, rfl, Nat.zero_le _, rfl, Below.refl _ _, fun k y hk => by omega⟩
        case round =>
          obtain ⟨j, rfl, hj, hm, hbw, hall⟩ := hrel
          have HM := hid hm
          have HALL := hid hall
          have HBW := hid hbw
          clear hm hall hbw
          by_cases h2 : j < l.length - i
          · obtain ⟨y, hy⟩ : ∃ y, lb[j]? = some y := ⟨_, List.getElem?_eq_getElem (by rw [HDL.out]; exact h2)⟩
            obtain ⟨b', off, hA2e, hb, hcc⟩ := (HAT2.out.below HBW.out) j y hy
            have hba : Below wr.heap.size wr (wr.alloc (.cells #[.int .i64 y.kind, .int .i64 y.key, .int .u64 y.val] 62)) := (Below.refl _ _).alloc (Nat.le_refl _) _
            have HBW2 := hid (HBW.out.trans (hba.mono HBW.out.size))
            have k0 : wr.cell? ⟨b', off + j * 3, none⟩ = some (.int .i64 y.kind) := hcc 0 _ rfl
            have k1 := hcc 1 _ rfl
            have k2 := hcc 2 _ rfl
            have HY := hid hy
            have HA2E := hid hA2e
            have h2' : (j : Int) < ((l.length - i : Nat) : Int) := by omega
            clear hcc hy hba
            generalize Option.map (fun x => Addr.add x (i * 3)) A = A2 at *
            subst hA2e
            cases q1 : (y.kind == 1)
            · cases q2 : (y.kind == 2)
              · go_wp2_with fail
                go_roundg (l.length - i + 1 - (j + 1))
                case measure => rw [HM.out]; omega
                case rel => exact ⟨j + 1, by go_num, by omega, rfl, HBW2.out, fun k z hk hz => by
                  rcases Nat.lt_succ_iff_lt_or_eq.1 hk with r | r
                  · exact HALL.out k z r hz
                  · rw [r, HY.out] at hz; cases hz; unfold kvKind; rw [q1, q2]; rfl⟩
              · have HE := hid (show s.restore n l = (3, s) from by
                  rw [HN1.out, if_pos (List.any_eq_true.2 ⟨y, List.mem_of_getElem? HY.out, by unfold kvKind; rw [q2]; simp⟩)])
                go_wp2_with fail
                go_ret
                rw [HE.out]
                exact ⟨rfl, ⟨F, H.out.below HBW2.out, K.Grew.refl _ _⟩, (Fr.of_below HBW2.out (Nat.le_refl _)).mono (fun _ q => q.elim)⟩
            · have HE := hid (show s.restore n l = (3, s) from by
                  rw [HN1.out, if_pos (List.any_eq_true.2 ⟨y, List.mem_of_getElem? HY.out, by unfold kvKind; rw [q1]; rfl⟩)])
              go_wp2_with fail
              go_ret
              rw [HE.out]
              exact ⟨rfl, ⟨F, H.out.below HBW2.out, K.Grew.refl _ _⟩, (Fr.of_below HBW2.out (Nat.le_refl _)).mono (fun _ q => q.elim)⟩
          · have h2' : ¬ (j : Int) < ((l.length - i : Nat) : Int) := by omega
            have hnone : lb.any kvKind = false := by
              rw [List.any_eq_false]
              intro y hy
              obtain ⟨k, hk, e⟩ := List.mem_iff_getElem.1 hy
              have := HALL.out k y (by rw [HDL.out] at hk; omega) (by rw [List.getElem?_eq_getElem hk, e])
              rw [this]; simp
            have HN2 := hid (HN1.out.trans (by rw [if_neg (by rw [hnone]; simp)]))
            clear hnone HALL
            go_wp2_with fail
            go_still_tail 7, (by kernel_rfl)
            change wpList _ _ _ _ _ wr.drew
            have hbz : Below wc.heap.size wc wr.drew := HBW.out.trans ((Q.bd1 wr).mono HBW.out.size)
            generalize wr.drew = wz at *
            have hxz : RAt F wz b s := H.out.below hbz
            have hfz : Fr F wc wz := (Fr.of_below hbz (Nat.le_refl _)).mono (fun _ q => q.elim)
            have hqok := hxz.qok
            obtain ⟨FK, Pz, hsub, hk, hst⟩ := hxz.kv
            have hc1 := K.restore_any hk n A la c (ChAt.toK ((HAT1.out.below hbz).up hbz.size)) (fun hne b0 off e => ⟨fun q => (HA1.out hne b0 off e).1 (hsub _ q), Nat.lt_of_lt_of_le (HA1.out hne b0 off e).2 hbz.size⟩) (by rw [HTL.out]; omega) (by rw [HTL.out]; omega)
            rw [HTL.out] at hc1
            have HC := hid hc1
            have HST := hid hst
            have HSUB := hid hsub
            have HQOK := hid hqok
            have HFZ := hid hfz
            have HXZ := hid hxz
            have HZS := hid hbz.size
            have HAT2Z := hid (HAT2.out.below hbz)
            clear hc1 hst hsub hqok hfz hxz hk hbz HBW HAT1 HAT2 HM
            go_wp2_with fail
            refine HC.out.mono ?_
            rintro e w1 ⟨rfl, ⟨FK', hk', hg1⟩, hf1⟩
            have hx1 := HST.out w1 FK' _ hk' hg1 hf1
            have hg01 : ∀ i, (F i ∨ FK' i) → F i ∨ wz.heap.size ≤ i := fun i hi => hi.elim .inl (fun q => (hg1 i q).imp (HSUB.out i) id)
            have hf01 : Fr F wc w1 := HFZ.out.trans (hf1.mono HSUB.out) (fun i hi => .inl hi)
            by_cases he1 : (s.k.restore n la).1 = 0
            · have HN3 := hid (HN2.out.trans (by rw [if_neg (by rw [he1]; simp)]))
              have HPK := hid (fun m => prepd_krest (m := m) he1)
              have HPN := hid (prepd_none (krest_free he1))
              rw [he1]
              clear he1
              obtain ⟨FQ, Z, hsq, hq, hqt⟩ := hx1.qu
              have hA2' : lb ≠ [] → ∀ b0 off, (Option.map (fun x => Addr.add x (i * 3)) A) = some ⟨b0, off, none⟩ → ¬ (F b0 ∨ FK' b0) ∧ b0 < w1.heap.size := fun hne b0 off e => by
                have h1 := HA2.out hne b0 off e
                have h2 := HZS.out
                refine ⟨fun q => (hg01 b0 q).elim h1.1 (fun r => by omega), by have := hf1.size; omega⟩
              have hat2' : ChAt w1 w1.heap.size (Option.map (fun x => Addr.add x (i * 3)) A) lb := ((Q.RowAt.fr HAT2Z.out hf1 (fun hne b0 off e q => (HA2.out hne b0 off e).1 (HSUB.out _ q))).up (Nat.le_trans HZS.out hf1.size))
              have HX1 := hid hx1
              have HG1 := hid hg01
              have HF1 := hid hf01
              have HQT := hid hqt
              have HSQ := hid hsq
              have HQ := hid hq
              have HA2 := hid hA2'
              have HAT2 := hid hat2'
              clear hx1 hg01 hf01 hqt hsq hq hA2' hat2' hk' hg1 hf1 HC HST HAT2Z
              go_wp2_with fail
              go_still_tail 7, (by kernel_rfl)
              change wpList _ _ _ _ _ w1.drew
              have hd1 := Q.bd1 w1
              have HX1d := hid (HX1.out.below hd1)
              have HF1d := hid (HF1.out.trans (Fr.of_below hd1 (Nat.le_refl _)) (fun _ q => q.elim))
              have hqd := HQ.out.below hd1
              have hatd := HAT2.out.below hd1
              have hc2 := Q.restore_any hqd HQOK.out.bd n (Option.map (fun x => Addr.add x (i * 3)) A) lb (c - i) hatd (fun hne b0 off e q => (HA2.out hne b0 off e).1 (HSQ.out _ q)) (by rw [HDL.out]; omega) (by have := HQOK.out.ws_le; omega) (by have := HQOK.out.sz; omega)
              rw [HDL.out] at hc2
              have HQT2 := hid (fun w' FQ' q' (h1 : Q.QAt Z FQ' w' b q') (h2 : q'.Ok) (h3 : Q.Grew FQ FQ' w1.drew) (h4 : Fr FQ w1.drew w') => HQT.out w' FQ' q' h1 h2 h3 ((Fr.refl FQ w1).drew.trans h4 (fun i hi => .inl hi)))
              have HC2 := hid hc2
              have HATD := hid hatd
              have HSZ1 : Hid (w1.drew.heap.size = w1.heap.size) := hid rfl
              clear hc2 hqd hatd hd1 HAT2 HX1 HF1 HQT HQ
              generalize w1.drew = w2 at *
              go_wp2_with fail
              refine HC2.out.mono ?_
              rintro e w3 ⟨rfl, ⟨FQ', hq', hg3⟩, hf3⟩
              have hx3 := HQT2.out w3 FQ' _ hq' (HQOK.out.restore n lb) hg3 hf3
              have hg03 : ∀ i, ((F i ∨ FK' i) ∨ FQ' i) → F i ∨ wc.heap.size ≤ i := fun i hi => by
                have hz := HZS.out
                rcases hi with r | r
                · exact (HG1.out i r).imp id (fun q => Nat.le_trans hz q)
                · rcases hg3 i r with r | r
                  · exact (HG1.out i (HSQ.out i r)).imp id (fun q => Nat.le_trans hz q)
                  · exact .inr (Nat.le_trans HF1d.out.size r)
              have hf03 : Fr F wc w3 := HF1d.out.trans hf3 (fun i hi => (HG1.out i (HSQ.out i hi)).imp id (fun q => Nat.le_trans HZS.out q))
              by_cases he2 : (s.q.restore n lb).1 = 0
              · have HN4 := hid (HN3.out.trans (by rw [if_neg (by rw [he2]; simp)]))
                have HPQ := hid (fun m => prepd_qrest (m := m) he2)
                rw [he2]
                have HC5 := hid (mark0_any hx3 n A la i c HTL.out)
                have HG3 := hid hg03
                have HF3 := hid hf03
                clear hx3 hg03 hf03 hq' hg3 hf3 he2 HC2 HQT2 HPN
                go_wp2_with fail
                refine HC5.out.mono ?_
                rintro e w4 ⟨rfl, ⟨F4, hx4, hg4, hs4⟩, hf4⟩
                have hg04 : ∀ i, F4 i → F i ∨ wc.heap.size ≤ i := fun i hi => (hs4 i hi).elim (HG3.out i) (fun r => .inr (Nat.le_trans HF3.out.size r))
                have hf04 : Fr F wc w4 := HF3.out.trans hf4 HG3.out
                have HC6 := hid (mark1_any hx4 n (Option.map (fun x => Addr.add x (i * 3)) A) lb (l.length - i) (c - i) HDL.out)
                have HG4 := hid hg04
                have HF4 := hid hf04
                clear hx4 hg4 hs4 hf4 hg04 hf04 HC5
                go_wp2_with fail
                refine HC6.out.mono ?_
                rintro e w5 ⟨rfl, ⟨F5, hx5, hg5, hs5⟩, hf5⟩
                have hg05 : ∀ i, F5 i → F i ∨ wc.heap.size ≤ i := fun i hi => (hs5 i hi).elim (HG4.out i) (fun r => .inr (Nat.le_trans HF4.out.size r))
                have hf05 : Fr F wc w5 := HF4.out.trans hf5 HG4.out
                have HX5 := hid (hx5.marks (fun m => (HPK.out m).symm) (fun m => (HPQ.out m).symm))
                have HG5 := hid hg05
                have HF5 := hid hf05
                clear hx5 hg5 hs5 hf5 hg05 hf05 HC6
                go_wp2_with fail
                go_ret
                rw [HN4.out]
                exact ⟨rfl, ⟨F5, HX5.out, HG5.out⟩, HF5.out⟩
              · have he2' : ((s.q.restore n lb).1 != 0) = true := by simpa using he2
                have hqe := qrest_err he2
                by_cases hi0 : 0 < i
                · have hi0' : (0 : Int) < i := by omega
                  have HN4 := hid (HN3.out.trans (by rw [if_pos he2, if_pos hi0]))
                  obtain ⟨FK2, Pz2, hsub2, hk2, hst2⟩ := hx3.kv
                  have HC5 := hid (K.backout_any hk2 n)
                  have HST2 := hid hst2
                  have HSUB2 := hid hsub2
                  have HG3 := hid hg03
                  have HF3 := hid hf03
                  have HQE := hid hqe
                  clear hx3 hg03 hf03 hq' hg3 hf3 hk2 hst2 hsub2 HC2 HQT2 hqe
                  go_wp2_with fail
                  refine HC5.out.mono ?_
                  rintro e w4 ⟨rfl, ⟨FK3, hk4, hg4⟩, hf4⟩
                  have hx4 := HST2.out w4 FK3 _ hk4 hg4 hf4
                  have hg04 : ∀ i, (((F i ∨ FK' i) ∨ FQ' i) ∨ FK3 i) → F i ∨ wc.heap.size ≤ i := fun i hi => hi.elim (HG3.out i) (fun r => (hg4 i r).elim (fun q => HG3.out i (HSUB2.out i q)) (fun q => .inr (Nat.le_trans HF3.out.size q)))
                  have hf04 : Fr F wc w4 := HF3.out.trans (hf4.mono HSUB2.out) HG3.out
                  have HX4 := hid (hx4.marks (g0 := fun m => prepd m ((s.k.restore n la).2.backout n).2.ws) (g1 := fun m => prepd m (s.q.restore n lb).2.ws) (fun m => by
                    rw [kback_ws (by omega), prepd_gone, HPK.out]
                    exact marks_back HPN.out) (fun m => by rw [HQE.out]))
                  have HG4 := hid hg04
                  have HF4 := hid hf04
                  clear hx4 hg4 hf4 hk4 hg04 hf04 HC5
                  go_wp2_with fail
                  go_ret
                  rw [HN4.out]
                  exact ⟨rfl, ⟨_, HX4.out, HG4.out⟩, HF4.out⟩
                · have hi0' : ¬ (0 : Int) < i := by omega
                  have HN4 := hid (HN3.out.trans (by rw [if_pos he2, if_neg hi0]))
                  have hla0 : la = [] := List.eq_nil_of_length_eq_zero (by rw [HTL.out]; omega)
                  have HX3 := hid (hx3.marks (g0 := fun m => prepd m (s.k.restore n la).2.ws) (g1 := fun m => prepd m (s.q.restore n lb).2.ws) (fun m => by
                    rw [HPK.out, hla0, List.isEmpty_nil, Bool.not_true, Bool.and_false, Bool.or_false]) (fun m => by rw [hqe]))
                  have HG3 := hid hg03
                  have HF3 := hid hf03
                  clear hx3 hg03 hf03 hq' hg3 hf3 HC2 HQT2 hqe hla0
                  go_wp2_with fail
                  go_ret
                  rw [HN4.out]
                  exact ⟨rfl, ⟨_, HX3.out, HG3.out⟩, HF3.out⟩
            · have he1' : ((s.k.restore n la).1 != 0) = true := by simpa using he1
              have HE := hid (HN2.out.trans (by rw [if_pos he1]))
              have HX1 := hid (hx1.marks (g0 := fun m => prepd m (s.k.restore n la).2.ws) (g1 := fun m => prepd m s.q.ws) (fun m => by rw [krest_err he1]) (fun _ => rfl))
              have HG1 := hid (fun i hi => (hg01 i hi).imp id (fun q => Nat.le_trans HZS.out q))
              have HF1 := hid hf01
              clear hx1 hg01 hf01 hk' hg1 hf1
              go_wp2_with fail
              go_ret
              rw [HE.out]
              exact ⟨rfl, ⟨_, HX1.out, HG1.out⟩, HF1.out⟩
end Go.Proofs.Ytdejbinmnoabeaa
namespace Go.Mine
set_option linter.unusedVariables false
set_option linter.unusedSimpArgs false
theorem touch_vals (s : KS) (n k : Int) (al : Bool) : (s.touch n k al).2.vs = s.vs ∧ (s.touch n k al).2.th = s.th := by
  unfold KS.touch
  split
  · exact ⟨rfl, rfl⟩
  · split
    · exact ⟨rfl, rfl⟩
    · split <;> exact ⟨rfl, rfl⟩
theorem change_vals (s : KS) (n : Int) (c : Ch) : (s.change n c).2.vs = s.vs ∧ (s.change n c).2.th = s.th := by
  unfold KS.change
  simp only
  split <;> exact touch_vals _ _ _ _
theorem setV_get {s : KS} (h1 : s.vs.length = 16) (h2 : s.th.length = 16) {c : Ch} (hc : chOk c = true) (k : Nat) (hk : k < 16) :
    ((setV s c).vs.getD k 0, (setV s c).th.getD k false) = if c.key = (k : Int) then (c.val, c.kind == 1) else (s.vs.getD k 0, s.th.getD k false) := by
  have hck := (chOk_iff c).1 hc
  simp only [setV, List.getD_eq_getElem?_getD, List.getElem?_set]
  by_cases e : c.key = (k : Int)
  · have e' : c.key.toNat = k := by omega
    rw [if_pos e]
    simp [e', h1, h2, hk]
  · have e' : ¬ c.key.toNat = k := by omega
    rw [if_neg e]
    simp [e']
theorem setV_len (s : KS) (c : Ch) : (setV s c).vs.length = s.vs.length ∧ (setV s c).th.length = s.th.length := by simp [setV]
theorem setVs_get : ∀ (l : List Ch) (s : KS), s.vs.length = 16 → s.th.length = 16 → (∀ c ∈ l, chOk c = true) → (l.map (·.key)).Nodup → ∀ (k : Nat), k < 16 →
    ((l.foldl setV s).vs.getD k 0, (l.foldl setV s).th.getD k false) = match l.find? (fun c => c.key == (k : Int)) with | some c => (c.val, c.kind == 1) | none => (s.vs.getD k 0, s.th.getD k false)
  | [], s, _, _, _, _, k, hk => rfl
  | c :: cs, s, h1, h2, h3, h4, k, hk => by
    rw [List.map_cons, List.nodup_cons] at h4
    have hl := setV_len s c
    have ih := setVs_get cs (setV s c) (hl.1.trans h1) (hl.2.trans h2) (fun d hd => h3 d (by simp [hd])) h4.2 k hk
    rw [List.foldl_cons, ih, List.find?_cons]
    have hg := setV_get h1 h2 (h3 c (by simp)) k hk
    by_cases e : c.key = (k : Int)
    · have hn : cs.find? (fun c => c.key == (k : Int)) = none := by
        rw [List.find?_eq_none]
        intro d hd q
        have : d.key = (k : Int) := by simpa using q
        exact h4.1 (List.mem_map.2 ⟨d, hd, this.trans e.symm⟩)
      rw [hn]
      simp only [e, beq_self_eq_true]
      rw [hg, if_pos e]
    · have : (c.key == (k : Int)) = false := by simpa using e
      simp only [this]
      cases cs.find? (fun c => c.key == (k : Int)) with
      | some d => rfl
      | none => rw [hg, if_neg e]
theorem setVs_len : ∀ (l : List Ch) (s : KS), (l.foldl setV s).vs.length = s.vs.length ∧ (l.foldl setV s).th.length = s.th.length
  | [], s => ⟨rfl, rfl⟩
  | c :: cs, s => ⟨(setVs_len cs (setV s c)).1.trans (setV_len s c).1, (setVs_len cs (setV s c)).2.trans (setV_len s c).2⟩
theorem setVs_congr : ∀ (l : List Ch) {s t : KS}, s.vs = t.vs → s.th = t.th → (l.foldl setV s).vs = (l.foldl setV t).vs ∧ (l.foldl setV s).th = (l.foldl setV t).th
  | [], _, _, h1, h2 => ⟨h1, h2⟩
  | c :: cs, s, t, h1, h2 => setVs_congr cs (s := setV s c) (t := setV t c) (by simp [setV, h1]) (by simp [setV, h2])
theorem ext16 {a b : List Int} (ha : a.length = 16) (hb : b.length = 16) (h : ∀ k : Nat, k < 16 → a.getD k 0 = b.getD k 0) : a = b := by
  apply List.ext_getElem (by omega)
  intro i h1 h2
  have := h i (by omega)
  simpa [List.getD_eq_getElem?_getD, List.getElem?_eq_getElem h1, List.getElem?_eq_getElem h2] using this
theorem ext16b {a b : List Bool} (ha : a.length = 16) (hb : b.length = 16) (h : ∀ k : Nat, k < 16 → a.getD k false = b.getD k false) : a = b := by
  apply List.ext_getElem (by omega)
  intro i h1 h2
  have := h i (by omega)
  simpa [List.getD_eq_getElem?_getD, List.getElem?_eq_getElem h1, List.getElem?_eq_getElem h2] using this
def fillP (th : List Bool) (i : Nat) : List Nat := (List.range i).filter (fun k => th.getD k false)
def fillL (vs : List Int) (th : List Bool) (i : Nat) : List Ch := (fillP th i).map (fun (k : Nat) => (⟨1, (k : Int), vs.getD k 0⟩ : Ch))
structure Filled (vs : List Int) (th : List Bool) (i : Nat) (t : KS) : Prop where
  ok : t.Ok
  v : t.vs = List.replicate 16 0
  h : t.th = List.replicate 16 false
  lk : ∀ e ∈ t.lk, e.1.2 = 1 ∧ e.1.1 < (i : Int)
  ll : t.lk.length ≤ i
  ws : ∀ x ∈ t.ws, x.1 = 1 ∧ x.2.p = false
  l : t.listOf 1 = fillL vs th i
theorem Filled.start (vs : List Int) (th : List Bool) : Filled vs th 0 KS.new := ⟨KS.Ok.new, rfl, rfl, by simp [KS.new], by simp [KS.new], by simp [KS.new], rfl⟩
theorem fillP_true {th : List Bool} {i : Nat} (h : th.getD i false = true) : fillP th (i + 1) = fillP th i ++ [i] := by
  unfold fillP
  rw [List.range_succ, List.filter_append]
  simp [-List.getD_eq_getElem?_getD, h]
theorem fillP_false {th : List Bool} {i : Nat} (h : th.getD i false = false) : fillP th (i + 1) = fillP th i := by
  unfold fillP
  rw [List.range_succ, List.filter_append]
  simp [-List.getD_eq_getElem?_getD, h]
theorem Filled.skip {vs : List Int} {th : List Bool} {i : Nat} {t : KS} (h : Filled vs th i t) (ht : th.getD i false = false) : Filled vs th (i + 1) t :=
  ⟨h.ok, h.v, h.h, fun e he => ⟨(h.lk e he).1, by have := (h.lk e he).2; omega⟩, by have := h.ll; omega, h.ws, by rw [h.l]; unfold fillL; rw [fillP_false ht]⟩
theorem Filled.put {vs : List Int} {th : List Bool} {i : Nat} {t : KS} (h : Filled vs th i t) (hi : i < 16) (ht : th.getD i false = true) :
    (t.change 1 ⟨1, (i : Int), vs.getD i 0⟩).1 = 0 ∧ Filled vs th (i + 1) (t.change 1 ⟨1, (i : Int), vs.getD i 0⟩).2 := by
  have hno : t.lk.any (confA 1 (i : Int) true ((aget ((i : Int), 1) t.lk).getD false)) = false := by
    rw [List.any_eq_false]
    intro e he hc
    simp [confA, (h.lk e he).1] at hc
  have hg : aget ((i : Int), 1) t.lk = none := by
    rw [aget_none]
    intro e he q
    have := (h.lk e he).2
    rw [q] at this
    simp at this
  have htk : takeA t.lk 1 (i : Int) true = (0, t.lk ++ [(((i : Int), 1), true)]) := by
    unfold takeA
    have := h.ll
    rw [if_neg (by simp [hno]), if_neg (by simp [hg]; omega), hg]
    simp [aput, hg]
  have hp : ((aget 1 t.ws).map (·.p)).getD false = false := by
    cases hq : aget 1 t.ws with
    | none => rfl
    | some v => exact (h.ws _ (aget_mem hq)).2
  have htd : t.touch 1 (i : Int) true = (0, ⟨t.vs, t.th, if (aget 1 t.ws).isSome then t.ws else t.ws ++ [(1, ⟨[], false⟩)], t.lk ++ [(((i : Int), 1), true)]⟩) := by
    unfold KS.touch
    rw [if_neg (by omega), if_neg (by rw [hp]; simp), htk, if_neg (by simp)]
  have h0 : (t.touch 1 (i : Int) true).1 = 0 := by rw [htd]
  have hch : (t.change 1 ⟨1, (i : Int), vs.getD i 0⟩) = (0, { (t.touch 1 (i : Int) true).2 with ws := aput 1 ⟨putCh ⟨1, (i : Int), vs.getD i 0⟩ ((t.touch 1 (i : Int) true).2.listOf 1), false⟩ (t.touch 1 (i : Int) true).2.ws }) := by
    unfold KS.change
    simp only
    rw [if_neg (by simp [h0])]
  have hlt := touch_list h0
  have hli : (t.touch 1 (i : Int) true).2.listOf 1 = fillL vs th i := by
    unfold KS.listOf
    rw [hlt]
    exact h.l
  have hok := h.ok.change 1 ⟨1, (i : Int), vs.getD i 0⟩ (.inl rfl)
  have hokt := h.ok.touch 1 (i : Int) true
  have hnone : chAt (i : Int) (fillL vs th i) = none := by
    unfold chAt
    rw [List.findIdx?_eq_none_iff]
    intro x hx
    simp only [fillL, fillP, List.mem_map, List.mem_filter, List.mem_range] at hx
    obtain ⟨k, ⟨hk, _⟩, rfl⟩ := hx
    simp; omega
  have hput : putCh ⟨1, (i : Int), vs.getD i 0⟩ (fillL vs th i) = fillL vs th (i + 1) := by
    unfold putCh
    rw [show (⟨1, (i : Int), vs.getD i 0⟩ : Ch).key = (i : Int) from rfl, hnone]
    unfold fillL
    rw [fillP_true ht, List.map_append]
    rfl
  refine ⟨by rw [hch], hok, ?_, ?_, ?_, ?_, ?_, ?_⟩
  · rw [(change_vals _ _ _).1]; exact h.v
  · rw [(change_vals _ _ _).2]; exact h.h
  · rw [hch, htd]
    intro e he
    rcases List.mem_append.1 he with he | he
    · exact ⟨(h.lk e he).1, by have := (h.lk e he).2; omega⟩
    · obtain rfl := List.mem_singleton.1 he
      exact ⟨rfl, by show (i : Int) < ((i + 1 : Nat) : Int); omega⟩
  · rw [hch, htd]
    have := h.ll
    simp; omega
  · rw [hch]
    intro x hx
    rcases mem_aput hx with rfl | ⟨hx, hn⟩
    · exact ⟨rfl, rfl⟩
    · rw [htd] at hx
      exfalso
      simp only at hx
      split at hx
      · exact hn (h.ws x hx).1
      · rcases List.mem_append.1 hx with hx | hx
        · exact hn (h.ws x hx).1
        · obtain rfl := List.mem_singleton.1 hx; exact hn rfl
  · have e : aget 1 (t.change 1 ⟨1, (i : Int), vs.getD i 0⟩).2.ws = some ⟨fillL vs th (i + 1), false⟩ := by
      rw [hch]
      show aget 1 (aput 1 ⟨putCh ⟨1, (i : Int), vs.getD i 0⟩ ((t.touch 1 (i : Int) true).2.listOf 1), false⟩ (t.touch 1 (i : Int) true).2.ws) = _
      rw [aget_put_self _ _ hokt.keys, hli, hput]
    show ((aget 1 (t.change 1 ⟨1, (i : Int), vs.getD i 0⟩).2.ws).map (·.l)).getD [] = _
    rw [e]
    rfl
theorem fill_find {vs : List Int} {th : List Bool} (k : Nat) (hk : k < 16) : (fillL vs th 16).find? (fun c => c.key == (k : Int)) = if th.getD k false then some ⟨1, (k : Int), vs.getD k 0⟩ else none := by
  cases hq : (fillL vs th 16).find? (fun c => c.key == (k : Int)) with
  | some c =>
    have h1 := List.mem_of_find?_eq_some hq
    have h2 := List.find?_some hq
    simp only [fillL, fillP, List.mem_map, List.mem_filter, List.mem_range] at h1
    obtain ⟨j, ⟨hj, hj2⟩, rfl⟩ := h1
    have : j = k := by have : (j : Int) = (k : Int) := by simpa using h2
                       omega
    subst this
    rw [if_pos hj2]
  | none =>
    rw [List.find?_eq_none] at hq
    split
    · rename_i ht
      exact absurd (by simp) (hq ⟨1, (k : Int), vs.getD k 0⟩ (by simp only [fillL, fillP, List.mem_map, List.mem_filter, List.mem_range]; exact ⟨k, ⟨hk, ht⟩, rfl⟩))
    · rfl
theorem Filled.commit {s t : KS} (hs : s.Ok) (h : Filled s.vs s.th 16 t) : t.commit 1 = (0, ⟨s.vs, s.th, [], []⟩) := by
  have hrw : RW (t.listOf 1) := h.ok.listOf 1
  have hg := setVs_get (t.listOf 1) t h.ok.lv h.ok.lt hrw.1 hrw.2
  have hl := setVs_len (t.listOf 1) t
  have hk := setVs_keep (t.listOf 1) t
  have key : ∀ k : Nat, k < 16 → ((t.listOf 1).foldl setV t).vs.getD k 0 = s.vs.getD k 0 ∧ ((t.listOf 1).foldl setV t).th.getD k false = s.th.getD k false := by
    intro k hk16
    have h1 := hg k hk16
    rw [h.l, fill_find k hk16] at h1
    rw [h.l]
    cases ht : s.th.getD k false
    · rw [ht] at h1
      simp only [Bool.false_eq_true, if_false, h.v, h.h] at h1
      have h2 := congrArg Prod.fst h1
      have h3 := congrArg Prod.snd h1
      simp only at h2 h3
      rw [h2, h3, hs.z k ht]
      rw [List.getD_eq_getElem?_getD, List.getD_eq_getElem?_getD, List.getElem?_replicate, List.getElem?_replicate]
      rw [if_pos hk16, if_pos hk16]
      exact ⟨rfl, rfl⟩
    · rw [ht] at h1
      simp only [if_true] at h1
      have h2 := congrArg Prod.fst h1
      have h3 := congrArg Prod.snd h1
      simp only at h2 h3
      exact ⟨h2, h3⟩
  have ev : ((t.listOf 1).foldl setV t).vs = s.vs := ext16 (hl.1.trans h.ok.lv) hs.lv (fun k hk => (key k hk).1)
  have eh : ((t.listOf 1).foldl setV t).th = s.th := ext16b (hl.2.trans h.ok.lt) hs.lt (fun k hk => (key k hk).2)
  rw [commit_do (by omega)]
  unfold KS.gone
  rw [ev, eh, hk.1, hk.2]
  have e1 : adel 1 t.ws = [] := by
    unfold adel
    rw [List.filter_eq_nil_iff]
    intro x hx
    simp [(h.ws x hx).1]
  have e2 : dropA 1 t.lk = [] := by
    unfold dropA
    rw [List.filter_eq_nil_iff]
    intro x hx
    simp [ownA, (h.lk x hx).1]
  rw [e1, e2]
def unprep (n : Int) (s : KS) : Prop := ((aget n s.ws).map (·.p)).getD false = false
theorem KS.prep_none_ {s : KS} {n : Int} (h : ¬ n < 1) (hg : aget n s.ws = none) : s.prepare n = (([], 0), s.gone n) := by simp [KS.prepare, h, hg]
theorem KS.prep_empty_ {s : KS} {n : Int} {v : KW} (h : ¬ n < 1) (hg : aget n s.ws = some v) (hp : v.p = false) (hl : v.l = []) : s.prepare n = (([], 0), s.gone n) := by simp [KS.prepare, h, hg, hp, hl]
theorem KS.prep_done_ {s : KS} {n : Int} {v : KW} (h : ¬ n < 1) (hg : aget n s.ws = some v) (hp : v.p = false) (hl : v.l ≠ []) : s.prepare n = ((v.l, 0), { s with ws := aput n ⟨v.l, true⟩ s.ws }) := by simp [KS.prepare, h, hg, hp, hl]
theorem prep_facts {n : Int} {s : KS} (hs : s.Ok) (hn : ¬ n < 1) (h : unprep n s) : (s.prepare n).1.2 = 0 ∧ RW (s.prepare n).1.1 ∧ (s.prepare n).2.listOf n = (s.prepare n).1.1 := by
  cases hg : aget n s.ws with
  | none =>
    rw [KS.prep_none_ hn hg]
    refine ⟨rfl, RW.nil, ?_⟩
    show ((aget n (adel n s.ws)).map (·.l)).getD [] = []
    have : aget n (adel n s.ws) = none := by
      rw [aget_none]
      intro e he
      have := (List.mem_filter.1 he).2
      simpa using this
    rw [this]; rfl
  | some v =>
    have hp : v.p = false := by unfold unprep at h; rw [hg] at h; exact h
    by_cases hl : v.l = []
    · rw [KS.prep_empty_ hn hg hp hl]
      refine ⟨rfl, RW.nil, ?_⟩
      show ((aget n (adel n s.ws)).map (·.l)).getD [] = []
      have : aget n (adel n s.ws) = none := by
        rw [aget_none]
        intro e he
        have := (List.mem_filter.1 he).2
        simpa using this
      rw [this]; rfl
    · rw [KS.prep_done_ hn hg hp hl]
      refine ⟨rfl, hs.chs _ (aget_mem hg), ?_⟩
      unfold KS.listOf
      simp only
      rw [aget_put_self _ _ hs.keys]
      rfl
theorem takeAll_free {n : Int} : ∀ (l : List Ch) (A : LTab), (∀ e ∈ A, e.1.2 = n) → A.length + l.length ≤ 64 → (takeAll n l A).1 = 0
  | [], _, _, _ => rfl
  | c :: cs, A, h, hl => by
    have hno : A.any (confA n c.key true ((aget (c.key, n) A).getD false)) = false := by
      rw [List.any_eq_false]
      intro e he hc
      simp [confA, h e he] at hc
    have htk : takeA A n c.key true = (0, aput (c.key, n) ((aget (c.key, n) A).getD false || true) A) := by
      unfold takeA
      simp at hl
      rw [if_neg (by simp [hno]), if_neg (by simp; intro _; omega)]
    unfold takeAll
    rw [htk, if_neg (by simp)]
    have h1 := aput_length_le (c.key, n) ((aget (c.key, n) A).getD false || true) A
    refine takeAll_free cs _ (fun e he => ?_) (by show (aput (c.key, n) ((aget (c.key, n) A).getD false || true) A).length + cs.length ≤ 64; simp only [List.length_cons] at hl; omega)
    rcases mem_aput he with rfl | ⟨he, _⟩
    · rfl
    · exact h e he
theorem restore_free {n : Int} {vs : List Int} {th : List Bool} {l : List Ch} (hn : ¬ n < 1) (hl : RW l) :
    ∃ lk, KS.restore ⟨vs, th, [], []⟩ n l = (0, ⟨vs, th, if l = [] then [] else [(n, ⟨l, true⟩)], lk⟩) := by
  have hr : rightL l [] = true := (rw_iff l).2 hl
  have ht : (takeAll n l []).1 = 0 := takeAll_free l [] (by simp) (by have := hl.len; simp; omega)
  refine ⟨(takeAll n l []).2, ?_⟩
  simp [KS.restore, hn, hr, aget, ht]
end Go.Mine
namespace Go.Proofs.Ytdejbinmnoabeaa
open Go.RowKit Go.Mine Go.Proofs.YtdejbinmnoabeaaW.PrintWords
set_option linter.unusedVariables false
set_option linter.unusedSimpArgs false
def encP (p : Int × Int) : List Value := [.int .i64 p.1, .int .u64 p.2]
def eP : Q.Enc (Int × Int) := ⟨2, encP, fun _ => rfl, fun x u hu => by simp [encP] at hu; rcases hu with rfl | rfl <;> rfl⟩
abbrev PairAt (w : World) (B : Nat) (A : Option Addr) (l : List (Int × Int)) : Prop := Q.RowAt encP 2 w B A l
abbrev UAt (w : World) (B : Nat) (A : Option Addr) (l : List Int) : Prop := Q.UAt w B A l
structure Img where
  P : List (Int × Int)
  L : List Int
  nx : Int
def ImgAt (w : World) (B : Nat) (v : Value) (m : Img) : Prop :=
  ∃ A1 c1 A2 c2, v = .agg #[.slice A1 m.P.length c1, .slice A2 m.L.length c2, .int .i64 m.nx] ∧ PairAt w B A1 m.P ∧ UAt w B A2 m.L ∧ m.P.length ≤ c1 ∧ m.L.length ≤ c2
theorem ImgAt.below {w w' : World} {B : Nat} {v : Value} {m : Img} (h : ImgAt w B v m) (hb : Below B w w') : ImgAt w' B v m := by
  obtain ⟨A1, c1, A2, c2, e, h1, h2, h3, h4⟩ := h
  exact ⟨A1, c1, A2, c2, e, Q.RowAt.below h1 hb, Q.RowAt.below h2 hb, h3, h4⟩
theorem ImgAt.up {w : World} {B B' : Nat} {v : Value} {m : Img} (h : ImgAt w B v m) (hb : B ≤ B') : ImgAt w B' v m := by
  obtain ⟨A1, c1, A2, c2, e, h1, h2, h3, h4⟩ := h
  exact ⟨A1, c1, A2, c2, e, Q.RowAt.up h1 hb, Q.RowAt.up h2 hb, h3, h4⟩
def pairsK (k : KS) (i : Nat) : List (Int × Int) := (fillL k.vs k.th i).map (fun c => (c.key, c.val))
def imgR (s : RM) : Img := ⟨pairsK s.k 16, s.q.its.map (·.val), s.q.gv + 1⟩
theorem pairsK_true {k : KS} {i : Nat} (h : k.th.getD i false = true) : pairsK k (i + 1) = pairsK k i ++ [((i : Int), k.vs.getD i 0)] := by
  unfold pairsK fillL
  rw [fillP_true h, List.map_append, List.map_append]
  rfl
theorem pairsK_false {k : KS} {i : Nat} (h : k.th.getD i false = false) : pairsK k (i + 1) = pairsK k i := by
  unfold pairsK fillL
  rw [fillP_false h]
theorem pairsK_len (k : KS) (i : Nat) : (pairsK k i).length ≤ i := by
  unfold pairsK fillL fillP
  rw [List.length_map, List.length_map]
  exact Nat.le_trans (List.length_filter_le _ _) (by simp)
theorem info59 : (Try.prog.info? 59).map (fun i => (i.zero, i.size, i.bytes)) = some (some (.agg #[.int .i64 0, .int .u64 0]), 2, 16) := by kernel_rfl
theorem row_keep {w w1 : World} {base : Nat} {v : Value} {l : List (Int × Int)} (h : eP.kd.R 59 w base (fun _ => True) v l) (hm : ∀ k, v.ownBlock = some k → w1.heap[k]? = w.heap[k]?) : eP.kd.R 59 w1 base (fun _ => True) v l := by
  obtain ⟨h0, inner, ho, hr⟩ := h
  exact ⟨h0, inner, own_move ho hm, hr⟩
def ImgNew (B0 : Nat) (w : World) (v : Value) (m : Img) : Prop :=
  ∃ A1 c1 A2 c2, v = .agg #[.slice A1 m.P.length c1, .slice A2 m.L.length c2, .int .i64 m.nx] ∧ PairAt w w.heap.size A1 m.P ∧ UAt w w.heap.size A2 m.L ∧ m.P.length ≤ c1 ∧ m.L.length ≤ c2 ∧ (∀ k off, A1 = some ⟨k, off, none⟩ → B0 ≤ k) ∧ (∀ k off, A2 = some ⟨k, off, none⟩ → B0 ≤ k)
theorem ImgNew.at_ {B0 : Nat} {w : World} {v : Value} {m : Img} (h : ImgNew B0 w v m) : ImgAt w w.heap.size v m := by
  obtain ⟨A1, c1, A2, c2, e, h1, h2, h3, h4, _⟩ := h
  exact ⟨A1, c1, A2, c2, e, h1, h2, h3, h4⟩
end Go.Proofs.Ytdejbinmnoabeaa
namespace Go.Mine
set_option linter.unusedVariables false
set_option linter.unusedSimpArgs false
structure Both (s : RM) (n key v : Int) (p p' : Bool) : Prop where
  ok : s.Ok
  n1 : 1 ≤ n
  ka : aget n s.k.ws = some ⟨[⟨1, key, v⟩], p⟩
  qa : aget n s.q.ws = some ⟨[⟨3, 0, v⟩], p'⟩
theorem Both.fit {s : RM} {n key v : Int} {p p' : Bool} (h : Both s n key v p p') : s.fit n = if (p || p') = true then 7 else 0 := by
  have := h.n1
  unfold RM.fit
  rw [if_neg (by omega)]
  unfold prepd
  rw [h.ka, h.qa]
  rfl
theorem Both.prepare {s : RM} {n key v : Int} (h : Both s n key v false false) : (s.prepare n).1 = ([⟨1, key, v⟩, ⟨3, 0, v⟩], 0) ∧ Both (s.prepare n).2 n key v true true ∧ Go.Proofs.Ytdejbinmnoabeaa.imgR (s.prepare n).2 = Go.Proofs.Ytdejbinmnoabeaa.imgR s := by
  have hn := h.n1
  have hok := h.ok.prepare n
  have hf : s.fit n = 0 := h.fit
  have hk : s.k.prepare n = (([⟨1, key, v⟩], 0), { s.k with ws := aput n ⟨[⟨1, key, v⟩], true⟩ s.k.ws }) := by
    unfold KS.prepare
    rw [if_neg (by omega), h.ka]
    simp
  have hqf : s.q.fit n = 0 := by
    unfold QS.fit prepd
    rw [if_neg (by omega), h.qa]
    rfl
  have hq : s.q.prepare n = (([⟨3, 0, v⟩], 0), ⟨s.q.its, aput n ⟨[⟨3, 0, v⟩], true⟩ s.q.ws, s.q.gv⟩) := by
    unfold QS.prepare
    rw [if_neg (by rw [hqf]; simp), h.qa]
  have hp : s.prepare n = (([⟨1, key, v⟩, ⟨3, 0, v⟩], 0), ⟨{ s.k with ws := aput n ⟨[⟨1, key, v⟩], true⟩ s.k.ws }, ⟨s.q.its, aput n ⟨[⟨3, 0, v⟩], true⟩ s.q.ws, s.q.gv⟩⟩) := by
    unfold RM.prepare
    rw [if_neg (by rw [hf]; simp), hk, hq]
    rfl
  rw [hp] at hok ⊢
  exact ⟨rfl, ⟨hok, hn, aget_put_self _ _ h.ok.k.keys, aget_put_self _ _ h.ok.q.keys⟩, rfl⟩
theorem aget_adel_self {n : Int} {ws : List (Int × KW)} : aget n (adel n ws) = none := by
  rw [aget_none]
  intro e he
  have := List.mem_filter.1 he
  simpa using this.2
theorem Both.fit7 {s : RM} {n key v : Int} (h : Both s n key v true true) : s.fit n ≠ 1 := by rw [h.fit]; simp
theorem Both.backout {s : RM} {n key v : Int} (h : Both s n key v true true) : (s.backout n).1 = 0 ∧ Go.Proofs.Ytdejbinmnoabeaa.imgR (s.backout n).2 = Go.Proofs.Ytdejbinmnoabeaa.imgR s ∧ (s.backout n).2.busy n = false := by
  have hn := h.n1
  have hb : s.backout n = (0, ⟨(s.k.backout n).2, (s.q.backout n).2⟩) := by unfold RM.backout; rw [if_neg h.fit7]
  rw [hb]
  refine ⟨rfl, ?_, ?_⟩
  · show Go.Proofs.Ytdejbinmnoabeaa.Img.mk _ _ _ = Go.Proofs.Ytdejbinmnoabeaa.Img.mk _ _ _
    rw [kback_ws hn]
    unfold QS.backout
    rw [if_neg (by omega)]
    congr 1
    show (s.q.its.map (freeI n)).map (·.val) = s.q.its.map (·.val)
    rw [List.map_map]
    exact List.map_congr_left (fun x _ => by show (freeI n x).val = x.val; unfold freeI; split <;> rfl)
  · unfold RM.busy KS.busy QS.busy
    show ((aget n (s.k.backout n).2.ws).isSome || (aget n (s.q.backout n).2.ws).isSome) = false
    rw [kback_ws hn, qback_ws hn]
    show ((aget n (adel n s.k.ws)).isSome || _) = false
    rw [aget_adel_self, aget_adel_self]
    rfl
theorem Both.commit {s : RM} {n key v : Int} (h : Both s n key v true true) : (s.commit n).1 = 0 ∧ (key, v) ∈ (Go.Proofs.Ytdejbinmnoabeaa.imgR (s.commit n).2).P ∧ (Go.Proofs.Ytdejbinmnoabeaa.imgR (s.commit n).2).L = (Go.Proofs.Ytdejbinmnoabeaa.imgR s).L ++ [v] ∧ (s.commit n).2.busy n = false := by
  have hn := h.n1
  have hb : s.commit n = (0, ⟨(s.k.commit n).2, (s.q.commit n).2⟩) := by unfold RM.commit; rw [if_neg h.fit7]
  have hlk : s.k.listOf n = [⟨1, key, v⟩] := by unfold KS.listOf; rw [h.ka]; rfl
  have hlq : listOfW n s.q.ws = [⟨3, 0, v⟩] := by unfold listOfW; rw [h.qa]; rfl
  have hrw := h.ok.k.listOf n
  rw [hlk] at hrw
  have hch := (chOk_iff _).1 (hrw.1 _ (List.mem_singleton.2 rfl))
  obtain ⟨_, h0, h16⟩ := hch
  simp only at h0 h16
  rw [hb]
  refine ⟨rfl, ?_, ?_, ?_⟩
  · have hkc : (s.k.commit n).2 = (setV s.k ⟨1, key, v⟩).gone n := by
      unfold KS.commit
      rw [if_neg (by omega), hlk]
      rfl
    show (key, v) ∈ Go.Proofs.Ytdejbinmnoabeaa.pairsK (s.k.commit n).2 16
    rw [hkc]
    unfold Go.Proofs.Ytdejbinmnoabeaa.pairsK
    refine List.mem_map.2 ⟨⟨1, key, v⟩, ?_, rfl⟩
    unfold fillL
    refine List.mem_map.2 ⟨key.toNat, ?_, ?_⟩
    · unfold fillP
      refine List.mem_filter.2 ⟨List.mem_range.2 (by omega), ?_⟩
      show ((s.k.th.set key.toNat ((1 : Int) == 1)).getD key.toNat false) = true
      have := h.ok.k.lt
      rw [List.getD_eq_getElem?_getD, List.getElem?_set_self (by omega)]
      rfl
    · show (⟨1, (key.toNat : Int), (s.k.vs.set key.toNat v).getD key.toNat 0⟩ : Ch) = _
      have := h.ok.k.lv
      rw [List.getD_eq_getElem?_getD, List.getElem?_set_self (by omega)]
      simp only [Option.getD_some]
      rw [Int.toNat_of_nonneg h0]
  · show (s.q.commit n).2.its.map (·.val) = s.q.its.map (·.val) ++ [v]
    unfold QS.commit
    rw [if_neg (by omega), hlq]
    show (keptI n s.q.its ++ newI [⟨3, 0, v⟩] s.q.gv).map (·.val) = _
    have hh := h.ok.q.held n (by omega)
    rw [hlq] at hh
    have hk : keptI n s.q.its = s.q.its := by
      unfold keptI
      rw [List.filter_eq_self]
      intro x hx
      have h1 : heldI n s.q.its = [] := List.map_eq_nil_iff.1 hh
      unfold heldI at h1
      have := List.filter_eq_nil_iff.1 h1 x hx
      simpa using this
    rw [hk, List.map_append]
    rfl
  · unfold RM.busy KS.busy QS.busy
    show ((aget n (s.k.commit n).2.ws).isSome || (aget n (s.q.commit n).2.ws).isSome) = false
    rw [kcommit_ws hn, qcommit_ws hn, aget_adel_self, aget_adel_self]
    rfl
end Go.Mine

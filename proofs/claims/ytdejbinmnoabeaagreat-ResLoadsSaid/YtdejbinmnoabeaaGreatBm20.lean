/- Texts of this seat, put together: RdC, RdD, RzE. -/
import Derived.Test.YtdejbinmnoabeaaGreatBm19
namespace Go.Proofs.YtdejbinmnoabeaaGreat
open Go.RowKit Go.Mine Go.Proofs.YtdejbinmnoabeaaGreatW.PrintWords
set_option linter.unusedVariables false
set_option linter.unusedSimpArgs false
set_option maxRecDepth 100000 in
set_option maxHeartbeats 4000000 in
theorem dcommit_any {F : Nat → Prop} {w : World} {b : Nat} {L : List (Int × Int)} {s : RM} (h : DR F w b L s) (hag : Agree L s.k) (hk : s.k.ws.length ≤ 900) (hok : s.Ok) (n : Int) :
    Calls Tryz.prog 34 #[.pointer (some ⟨b, 0, none⟩), .int .i64 n] w (DRPost F w b (.int .i64 (s.commit n).1) (commitD L s.k n) (s.commit n).2) := by
  have H := hid h
  obtain ⟨FD, Ze, I, pv, qv, tv, hsub, hd, hw, hst⟩ := h.st
  have HC := hid (D.dcommit_any hd hw (by rw [wsK_len hw]; omega) (by have := hag.len; omega) hok.k n)
  have HST := hid hst
  have HSUB := hid hsub
  have hqok : s.q.Ok := hok.q
  clear h hst hsub hd
  by_cases h1 : n < 1
  · have HM := hid (show s.commit n = (1, s) from by unfold RM.commit RM.fit; rw [if_pos h1, if_pos rfl])
    have HK := hid (show s.k.commit n = (1, s.k) from by unfold KS.commit; rw [if_pos h1])
    have HL := hid (show (commitD L s.k n) = L from by unfold commitD; rw [if_pos h1])
    rw [HK.out] at HC
    clear hag hk hok
    go_enter Tryz.func34, Tryz.ntmps34
    go_wp2_with fail
    refine HC.out.mono ?_
    rintro e w1 ⟨rfl, FD', I', pv', qv', tv', hd', hg, hw', hf⟩
    have hx := HST.out w1 FD' _ s.k I' pv' qv' tv' hd' hw' hg hf
    have HX := hid hx
    have HG := hid hg
    have HFR := hid hf
    clear hd' hg hw' hf hx
    go_wp2_with fail
    go_ret
    rw [HM.out]
    exact ⟨rfl, ⟨_, HX.out, grew_or HSUB.out HG.out⟩, HFR.out.mono HSUB.out⟩
  · have hfit : s.fit n ≠ 1 := fun q => by
      unfold RM.fit at q
      rw [if_neg h1] at q
      split at q <;> cases q
    have HM := hid (show s.commit n = (0, ⟨(s.k.commit n).2, (s.q.commit n).2⟩) from by unfold RM.commit; rw [if_neg hfit])
    have hk0 : (s.k.commit n).1 = 0 := by unfold KS.commit; rw [if_neg h1]
    have HQ0 := hid (show (s.q.commit n).1 = 0 from by unfold QS.commit; rw [if_neg h1])
    obtain ⟨k', hk'⟩ : ∃ k', (s.k.commit n).2 = k' := ⟨_, rfl⟩
    obtain ⟨L', hL'⟩ : ∃ L', (commitD L s.k n) = L' := ⟨_, rfl⟩
    have HC2 : Hid (Calls Tryz.prog 71 #[.pointer (some ⟨b, 0, none⟩), .int .i64 n] w (D.DPost Ze FD w b L' 0 k')) := hid (by
      have := HC.out
      rw [hk0, hk'] at this
      rw [hL'] at this
      exact this)
    rw [hk'] at HM
    rw [hL']
    have HQOK := hid hqok
    clear hag hk hok hfit hqok hk0 hk' hL' HC
    go_enter Tryz.func34, Tryz.ntmps34
    go_wp2_with fail
    refine HC2.out.mono ?_
    rintro e w1 ⟨rfl, FD', I', pv', qv', tv', hd', hg, hw', hf⟩
    have hx := HST.out w1 FD' L' k' I' pv' qv' tv' hd' hw' hg hf
    obtain ⟨FE, Zd, hsq, hq, hqt⟩ := hx.qu
    have HCQ := hid (E.dcommit_any hq HQOK.out n)
    have HQT := hid hqt
    have HSQ := hid hsq
    have HG := hid (grew_or HSUB.out hg)
    have HFR := hid (hf.mono HSUB.out)
    have HSZ := hid hf.size
    clear hd' hg hw' hf hx hsq hq hqt
    rw [HQ0.out] at HCQ
    go_wp2_with fail
    refine HCQ.out.mono ?_
    rintro e w2 ⟨rfl, ⟨FE', hd2, hg2⟩, hf2⟩
    have hx2 := HQT.out w2 FE' _ hd2 hg2 hf2
    have HX := hid hx2
    have HG2 := hid hg2
    have HF2 := hid hf2
    clear hd2 hg2 hf2 hx2
    go_wp2_with fail
    go_ret
    rw [HM.out]
    exact ⟨rfl, ⟨_, HX.out, HG.out.trans (grew_or HSQ.out HG2.out) HSZ.out⟩, HFR.out.trans (HF2.out.mono HSQ.out) (fun i hi => HG.out i hi)⟩
set_option maxRecDepth 100000 in
set_option maxHeartbeats 4000000 in
theorem dbackout_any {F : Nat → Prop} {w : World} {b : Nat} {L : List (Int × Int)} {s : RM} (h : DR F w b L s) (hag : Agree L s.k) (hk : s.k.ws.length ≤ 900) (hok : s.Ok) (n : Int) :
    Calls Tryz.prog 35 #[.pointer (some ⟨b, 0, none⟩), .int .i64 n] w (DRPost F w b (.int .i64 (s.backout n).1) L (s.backout n).2) := by
  have H := hid h
  obtain ⟨FD, Ze, I, pv, qv, tv, hsub, hd, hw, hst⟩ := h.st
  have HC := hid (D.dbackout_any hd hw (by rw [wsK_len hw]; omega) hok.k.rk n)
  have HST := hid hst
  have HSUB := hid hsub
  have hqok : s.q.Ok := hok.q
  clear h hst hsub hd
  by_cases h1 : n < 1
  · have HM := hid (show s.backout n = (1, s) from by unfold RM.backout RM.fit; rw [if_pos h1, if_pos rfl])
    have HK := hid (show s.k.backout n = (1, s.k) from by unfold KS.backout; rw [if_pos h1])
    have HL := hid (show L = L from by rfl)
    rw [HK.out] at HC
    clear hag hk hok
    go_enter Tryz.func35, Tryz.ntmps35
    go_wp2_with fail
    refine HC.out.mono ?_
    rintro e w1 ⟨rfl, FD', I', pv', qv', tv', hd', hg, hw', hf⟩
    have hx := HST.out w1 FD' _ s.k I' pv' qv' tv' hd' hw' hg hf
    have HX := hid hx
    have HG := hid hg
    have HFR := hid hf
    clear hd' hg hw' hf hx
    go_wp2_with fail
    go_ret
    rw [HM.out]
    exact ⟨rfl, ⟨_, HX.out, grew_or HSUB.out HG.out⟩, HFR.out.mono HSUB.out⟩
  · have hfit : s.fit n ≠ 1 := fun q => by
      unfold RM.fit at q
      rw [if_neg h1] at q
      split at q <;> cases q
    have HM := hid (show s.backout n = (0, ⟨(s.k.backout n).2, (s.q.backout n).2⟩) from by unfold RM.backout; rw [if_neg hfit])
    have hk0 : (s.k.backout n).1 = 0 := by unfold KS.backout; rw [if_neg h1]
    have HQ0 := hid (show (s.q.backout n).1 = 0 from by unfold QS.backout; rw [if_neg h1])
    obtain ⟨k', hk'⟩ : ∃ k', (s.k.backout n).2 = k' := ⟨_, rfl⟩
    obtain ⟨L', hL'⟩ : ∃ L', L = L' := ⟨_, rfl⟩
    have HC2 : Hid (Calls Tryz.prog 73 #[.pointer (some ⟨b, 0, none⟩), .int .i64 n] w (D.DPost Ze FD w b L' 0 k')) := hid (by
      have := HC.out
      rw [hk0, hk'] at this
      rw [← hL']
      exact this)
    rw [hk'] at HM
    rw [hL']
    have HQOK := hid hqok
    clear hag hk hok hfit hqok hk0 hk' hL' HC
    go_enter Tryz.func35, Tryz.ntmps35
    go_wp2_with fail
    refine HC2.out.mono ?_
    rintro e w1 ⟨rfl, FD', I', pv', qv', tv', hd', hg, hw', hf⟩
    have hx := HST.out w1 FD' L' k' I' pv' qv' tv' hd' hw' hg hf
    obtain ⟨FE, Zd, hsq, hq, hqt⟩ := hx.qu
    have HCQ := hid (E.dbackout_any hq HQOK.out.bd n)
    have HQT := hid hqt
    have HSQ := hid hsq
    have HG := hid (grew_or HSUB.out hg)
    have HFR := hid (hf.mono HSUB.out)
    have HSZ := hid hf.size
    clear hd' hg hw' hf hx hsq hq hqt
    rw [HQ0.out] at HCQ
    go_wp2_with fail
    refine HCQ.out.mono ?_
    rintro e w2 ⟨rfl, ⟨FE', hd2, hg2⟩, hf2⟩
    have hx2 := HQT.out w2 FE' _ hd2 hg2 hf2
    have HX := hid hx2
    have HG2 := hid hg2
    have HF2 := hid hf2
    clear hd2 hg2 hf2 hx2
    go_wp2_with fail
    go_ret
    rw [HM.out]
    exact ⟨rfl, ⟨_, HX.out, HG.out.trans (grew_or HSQ.out HG2.out) HSZ.out⟩, HFR.out.trans (HF2.out.mono HSQ.out) (fun i hi => HG.out i hi)⟩
def DRPrep (F : Nat → Prop) (w : World) (b : Nat) (L : List (Int × Int)) (R : (List Ch × Int) × RM) (e : Ending) (w' : World) : Prop :=
  ∃ A c, e = .returned (.tuple #[.slice A R.1.1.length c, .int .i64 R.1.2]) ∧ (∃ F', DR F' w' b L R.2 ∧ K.Grew F F' w ∧ ∀ k off, A = some ⟨k, off, none⟩ → w.heap.size ≤ k ∧ ¬ F' k) ∧ ChAt w' w'.heap.size A R.1.1 ∧ R.1.1.length ≤ c ∧ Fr F w w'
set_option maxRecDepth 100000 in
set_option maxHeartbeats 4000000 in
theorem dprepare_any {F : Nat → Prop} {w : World} {b : Nat} {L : List (Int × Int)} {s : RM} (h : DR F w b L s) (hag : Agree L s.k) (hk : s.k.ws.length ≤ 900) (hok : s.Ok) (n : Int) :
    Calls Tryz.prog 33 #[.pointer (some ⟨b, 0, none⟩), .int .i64 n] w (DRPrep F w b L (s.prepare n)) := by
  have HF := hid (dfit_any h hk hok n)
  have H := hid h
  clear h
  rcases s.fit_cases n with ⟨hn, he⟩ | ⟨hn, he, hp⟩ | ⟨hn, he, hp0, hp1⟩
  · have HM := hid (show s.prepare n = (([], 1), s) from by unfold RM.prepare; rw [if_pos (by rw [he]; decide), he])
    rw [he] at HF
    clear hag hk hok
    go_enter Tryz.func33, Tryz.ntmps33
    go_wp2_with fail
    refine HF.out.mono ?_
    rintro e w1 ⟨rfl, f1⟩
    go_wp2_with fail
    go_ret2
    rw [HM.out]
    exact ⟨none, 0, rfl, ⟨F, H.out.below f1, K.Grew.refl _ _, fun k off e => by cases e⟩, fun i x hx => by simp at hx, Nat.le_refl _, (Fr.of_below f1 (Nat.le_refl _)).mono (fun _ q => q.elim)⟩
  · have HM := hid (show s.prepare n = (([], 7), s) from by unfold RM.prepare; rw [if_pos (by rw [he]; decide), he])
    rw [he] at HF
    clear hag hk hok
    go_enter Tryz.func33, Tryz.ntmps33
    go_wp2_with fail
    refine HF.out.mono ?_
    rintro e w1 ⟨rfl, f1⟩
    go_wp2_with fail
    go_ret2
    rw [HM.out]
    exact ⟨none, 0, rfl, ⟨F, H.out.below f1, K.Grew.refl _ _, fun k off e => by cases e⟩, fun i x hx => by simp at hx, Nat.le_refl _, (Fr.of_below f1 (Nat.le_refl _)).mono (fun _ q => q.elim)⟩
  · have HM := hid (show s.prepare n = (((s.k.prepare n).1.1 ++ (s.q.prepare n).1.1, 0), ⟨(s.k.prepare n).2, (s.q.prepare n).2⟩) from by unfold RM.prepare; rw [if_neg (by rw [he]; simp)])
    rw [he] at HF
    have hkl := kprep_len hok.k n
    have hql := qprep_len hok.q n
    have HOK := hid hok
    have HK := hid hk
    clear he hp0 hp1 hag hok hk
    go_enter Tryz.func33, Tryz.ntmps33
    go_wp2_with fail
    refine HF.out.mono ?_
    rintro e w1 ⟨rfl, f1⟩
    obtain ⟨FD, Ze, I, pv, qv, tv, hsub, hd, hw, hst⟩ := (H.out.below f1).st
    have HC := hid (D.dprepare_any hd hw (by rw [wsK_len hw]; exact HK.out) HOK.out.k n)
    have HST := hid hst
    have HSUB := hid hsub
    have HF1 := hid f1
    clear hst hsub hd hw f1
    go_wp2_with fail
    refine HC.out.mono ?_
    rintro e w2 ⟨v1, rfl, ⟨FD', I', qv', tv', hd', hg1, hw', ho1⟩, hr1, hf1⟩
    have hx1 := HST.out w2 FD' L _ I' pv qv' tv' hd' hw' hg1 hf1
    have hFb := H.out.fb
    have hb1 : ∀ k, v1.ownBlock = some k → w1.heap.size ≤ k ∧ ¬ (F k ∨ FD' k) := fun k e => ⟨(ho1 k e).1, fun q => q.elim (fun q => by have := hFb k q; have := (ho1 k e).1; have := HF1.out.size; omega) (ho1 k e).2⟩
    obtain ⟨FE, Zd, hsq, hq, hqt⟩ := hx1.qu
    have HCQ := hid (E.dprepare_any hq HOK.out.q.bd n)
    have HQT := hid hqt
    have HSQ := hid hsq
    have HG1 := hid (grew_or HSUB.out hg1)
    have HFR1 := hid (hf1.mono HSUB.out)
    have HR1 := hid hr1
    have HB1 := hid hb1
    have HSZ := hid hf1.size
    have HB0 := hid (fun k e => (hb1 k e).1)
    generalize hla : (s.k.prepare n).1.1 = la at *
    clear hd' hg1 hw' ho1 hr1 hf1 hx1 hb1 hsq hq hqt HC HST hFb
    go_wp2_with fail
    refine HCQ.out.mono ?_
    rintro e w3 ⟨v2, rfl, ⟨FE', hq', hg2, ho2⟩, hr2, hf2⟩
    have hx2 := HQT.out w3 FE' _ hq' hg2 hf2
    have hr1 : K.ChRow w3 v1 la := HR1.out.move (fun k hk => hf2.block k (HR1.out.lt k hk) (fun q => (HB1.out k hk).2 (HSQ.out k q)))
    have hb1 : ∀ k, v1.ownBlock = some k → ¬ ((F k ∨ FD' k) ∨ FE' k) := fun k e q => q.elim (HB1.out k e).2 (fun q => by
      rcases hg2 k q with r | r
      · exact (HB1.out k e).2 (HSQ.out k r)
      · have := HR1.out.lt k e
        omega)
    obtain ⟨A1, c1, rfl⟩ := Kd.R_slice hr1
    obtain ⟨A2, c2, rfl⟩ := Kd.R_slice hr2
    have hC := (Kd.R_reads' hr2).2.2
    have HX2 := hid hx2
    have HR1 := hid hr1
    have HCC := hid hC
    have HB1 := hid hb1
    have HG2 := hid (grew_or HSQ.out hg2)
    have HF2 := hid (hf2.mono HSQ.out)
    have HSZ2 := hid hf2.size
    generalize hlb : (s.q.prepare n).1.1 = lb at *
    clear hx2 hr1 hr2 hb1 hC hg2 hf2 hq' ho2
    go_wp2_with (at_builtin; go_loud (refine Kd.R_append_rows K.kch (Rr := fun x cs => cs = Q.encCh x) (w0 := w3) 0 rfl (.tmp 33) (.tmp 34) 40 90 _ 24 rfl Tryz.underlying40 K.info90 (by rfl) (by decide) (by decide) (.slice A1 la.length c1) la lb A2 lb.length c2 (fun _ => True) (fun _ => False) rfl rfl HR1.out HCC.out (fun _ _ h => h) (fun _ h => h.elim) (fun _ _ => trivial) (Below.refl _ _) (Nat.zero_le _) (by omega) ?_); intro v7 w7 ho7 hb7 hg7 hat7)
    go_ret2
    unfold DRPrep
    rw [HM.out]
    have h7 : K.ChRow w7 v7 (la ++ lb) := ho7
    obtain ⟨A7, c7, rfl, hc7, hat⟩ := h7.at_
    have hfr7 := Fr.of_grown hg7
    refine ⟨A7, c7, rfl, ⟨_, HX2.out.fr hfr7 (fun i hi q => HB1.out i q hi), (K.Grew.trans (fun i hi => (HG1.out i hi).imp id (fun q => Nat.le_trans HF1.out.size q)) HG2.out (Nat.le_trans HF1.out.size HSZ.out)), fun k off e => ?_⟩, ChAt.ofK hat, hc7, ?_⟩
    · have ho := own_addr (n := (la ++ lb).length) (c := c7) e
      rcases hat7 with r | ⟨j, r, hj⟩
      · rw [r] at ho
        exact ⟨Nat.le_trans HF1.out.size (HB0.out k ho), HB1.out k ho⟩
      · rw [r] at ho
        cases ho
        have h1 := HSZ.out
        have h2 := HSZ2.out
        have h3 := HF1.out.size
        exact ⟨by omega, fun q => by have := HX2.out.fb _ q; omega⟩
    have f1 : Fr F w w2 := ((Fr.of_below HF1.out (Nat.le_refl _)).mono (fun _ q => q.elim)).trans HFR1.out (fun i hi => .inl hi)
    have f2 : Fr F w w3 := f1.trans HF2.out (fun i hi => (HG1.out i hi).imp id (fun q => Nat.le_trans HF1.out.size q))
    refine f2.trans hfr7 (fun i hi => .inr ?_)
    have := (HB0.out i hi)
    have := HF1.out.size
    omega
end Go.Proofs.YtdejbinmnoabeaaGreat
namespace Go.Mine
set_option linter.unusedVariables false
theorem cutN_app' : ∀ (a b : List Ch), (∀ c ∈ a, kvKind c = true) → (∀ c, b[0]? = some c → kvKind c = false) → cutN (a ++ b) = a.length
  | [], [], _, _ => rfl
  | [], c :: b, _, h => by
    show (if kvKind c = true then _ else 0) = 0
    rw [if_neg (by rw [h c rfl]; simp)]
  | c :: a, b, h1, h2 => by
    show (if kvKind c = true then cutN (a ++ b) + 1 else 0) = a.length + 1
    rw [if_pos (h1 c (by simp)), cutN_app' a b (fun x hx => h1 x (List.mem_cons_of_mem _ hx)) h2]
theorem restore_bad {s : RM} {n : Int} {l la lb : List Ch} {i : Nat} {y : Ch} (h1 : ¬ n < 1) (hy : l[i]? = some y) (ht : l.take i = la ++ lb) (ha : ∀ c ∈ la, kvKind c = true) (hb : ∀ c ∈ lb, kvKind c = false) (hne : lb ≠ []) (hk : kvKind y = true) : s.restore n l = (3, s) := by
  have e : l = la ++ (lb ++ l.drop i) := by rw [← List.append_assoc, ← ht, List.take_append_drop]
  have hc : cutN l = la.length := by
    rw [e]
    refine cutN_app' la _ ha (fun c hc => ?_)
    cases lb with
    | nil => exact absurd rfl hne
    | cons z zs =>
      simp at hc
      subst hc
      exact hb z (by simp)
  have hd : l.drop la.length = lb ++ l.drop i := by
    conv => lhs; rw [e]
    rw [List.drop_left]
  have hy2 : y ∈ l.drop la.length := by
    rw [hd]
    refine List.mem_append_right _ ?_
    have : (l.drop i)[0]? = some y := by rw [List.getElem?_drop]; simpa using hy
    exact List.mem_of_getElem? this
  unfold RM.restore
  rw [if_neg h1, hc, if_pos (List.any_eq_true.2 ⟨y, hy2, hk⟩)]
theorem restore_parts {s : RM} {n : Int} {l la lb : List Ch} (h1 : ¬ n < 1) (hl : l = la ++ lb) (ha : ∀ c ∈ la, kvKind c = true) (hb : ∀ c ∈ lb, kvKind c = false) : s.restore n l =
    if (s.k.restore n la).1 ≠ 0 then ((s.k.restore n la).1, ⟨(s.k.restore n la).2, s.q⟩)
    else if (s.q.restore n lb).1 ≠ 0 then ((s.q.restore n lb).1, ⟨if 0 < la.length then ((s.k.restore n la).2.backout n).2 else (s.k.restore n la).2, (s.q.restore n lb).2⟩)
    else (0, ⟨(s.k.restore n la).2, (s.q.restore n lb).2⟩) := by
  subst hl
  have hc : cutN (la ++ lb) = la.length := cutN_app' la lb ha (fun c hc => hb c (List.mem_of_getElem? hc))
  have hany : ¬ (lb.any kvKind = true) := by
    rw [List.any_eq_true]
    rintro ⟨y, hy, hk⟩
    rw [hb y hy] at hk
    cases hk
  unfold RM.restore
  rw [if_neg h1, hc, List.drop_left, List.take_left, if_neg hany]
end Go.Mine
namespace Go.Proofs.YtdejbinmnoabeaaGreat
open Go.RowKit Go.Mine Go.Proofs.YtdejbinmnoabeaaGreatW.PrintWords
set_option linter.unusedVariables false
set_option linter.unusedSimpArgs false
theorem chrow_low {w : World} {B : Nat} {v : Value} {l : List Ch} (h : K.kch.R 90 w B (fun _ => True) v l) : K.ChRow w v l := Kd.R_lower h (Nat.zero_le _)
theorem kch_keep {w w1 : World} {B : Nat} {v : Value} {l : List Ch} (h : K.kch.R 90 w B (fun _ => True) v l) (hm : ∀ k, v.ownBlock = some k → w1.heap[k]? = w.heap[k]?) : K.kch.R 90 w1 B (fun _ => True) v l := by
  obtain ⟨h0, inner, ho, hr⟩ := h
  exact ⟨h0, inner, own_move ho hm, hr⟩
theorem k_restore_len {s : KS} (hok : s.Ok) (n : Int) (l : List Ch) : (s.restore n l).2.ws.length ≤ s.ws.length + 1 := by
  unfold KS.restore
  split
  · simp
  · split
    · simp
    · split
      · simp
      · split
        · simp
        · show (if l = [] then s.ws else s.ws ++ [(n, ⟨l, true⟩)]).length ≤ _
          split
          · omega
          · simp
set_option maxRecDepth 100000 in
set_option maxHeartbeats 8000000 in
theorem drestore_any {F : Nat → Prop} {w : World} {b : Nat} {L : List (Int × Int)} {s : RM} (h : DR F w b L s) (hk : s.k.ws.length ≤ 900) (hok : s.Ok) (n : Int) (A : Option Addr) (l : List Ch) (c : Nat) (hl : ChAt w w.heap.size A l) (hn : l.length ≤ 900) :
    Calls Tryz.prog 36 #[.pointer (some ⟨b, 0, none⟩), .int .i64 n, .slice A l.length c] w (DRPost F w b (.int .i64 (s.restore n l).1) L (s.restore n l).2) := by
  have H := hid h
  have HL := hid hl
  have HOK := hid hok
  have HK := hid hk
  clear h hl hok hk
  by_cases h1 : n < 1
  · have HM := hid (show s.restore n l = (1, s) from by unfold RM.restore; rw [if_pos h1])
    go_enter Tryz.func36, Tryz.ntmps36
    go_wp2_with fail
    go_ret
    rw [HM.out]
    exact DRPost.same H.out (Below.refl _ _) _
  · have H1 := hid h1
    go_enter Tryz.func36, Tryz.ntmps36
    go_wp2_with fail
    go_loopg [7, 8, 9] (l.length + 1) (fun g v7 v8 v9 wr => ∃ (i : Nat) (la lb : List Ch), v9 = .int .i64 i ∧ i ≤ l.length ∧ g = l.length + 1 - i ∧ l.take i = la ++ lb ∧ (∀ c ∈ la, kvKind c = true) ∧ (∀ c ∈ lb, kvKind c = false) ∧ K.kch.R 90 wr w.heap.size (fun _ => True) v7 la ∧ K.kch.R 90 wr w.heap.size (fun _ => True) v8 lb ∧ (∀ k, v7.ownBlock = some k → v8.ownBlock ≠ some k) ∧ Below w.heap.size w wr)
    case atStart => exact ⟨0, [], [], rfl, Nat.zero_le _, rfl, rfl, fun c hc => by simp at hc, fun c hc => by simp at hc, Kd.R_nil _ _ _ _ _, Kd.R_nil _ _ _ _ _, fun k hk => by simp [Value.ownBlock] at hk, Below.refl _ _⟩
    case round =>
      obtain ⟨i, la, lb, rfl, hi, hg, htk, hka, hkb, hRa, hRb, hap, hb⟩ := hrel
      obtain ⟨A7, c7, rfl⟩ := Kd.R_slice hRa
      obtain ⟨A8, c8, rfl⟩ := Kd.R_slice hRb
      have hlen : la.length + lb.length = i := by
        have := congrArg List.length htk
        rw [List.length_take, List.length_append] at this
        omega
      have HG := hid hg
      have HTK := hid htk
      have HKA := hid hka
      have HKB := hid hkb
      have HRA := hid hRa
      have HRB := hid hRb
      have HAP := hid hap
      have HB := hid hb
      clear hg htk hka hkb hRa hRb hap
      by_cases hil : i < l.length
      · obtain ⟨y, hy⟩ : ∃ y, l[i]? = some y := ⟨_, List.getElem?_eq_getElem hil⟩
        obtain ⟨pb, po, rfl, hlt, hcell⟩ := HL.out i y hy
        have k0 : wr.cell? ⟨pb, po + i * 3, none⟩ = some (.int .i64 y.kind) := (hb.cell (p := ⟨pb, po + i * 3, none⟩) hlt).trans (hcell 0 _ rfl)
        have k1 : wr.cell? ⟨pb, po + i * 3 + 1, none⟩ = some (.int .i64 y.key) := (hb.cell (p := ⟨pb, po + i * 3 + 1, none⟩) hlt).trans (hcell 1 _ rfl)
        have k2 : wr.cell? ⟨pb, po + i * 3 + 2, none⟩ = some (.int .u64 y.val) := (hb.cell (p := ⟨pb, po + i * 3 + 2, none⟩) hlt).trans (hcell 2 _ rfl)
        have htk2 : l.take (i + 1) = l.take i ++ [y] := by
          rw [List.take_succ_eq_append_getElem hil]
          congr 2
          rw [List.getElem?_eq_getElem hil] at hy
          exact Option.some.inj hy
        have HTK2 := hid htk2
        have HY := hid hy
        clear hcell hy htk2 hb
        cases hq : kvKind y
        · have e1 : (y.kind == 1) = false := by unfold kvKind at hq; rw [Bool.or_eq_false_iff] at hq; exact hq.1
          have e2 : (y.kind == 2) = false := by unfold kvKind at hq; rw [Bool.or_eq_false_iff] at hq; exact hq.2
          have HQ := hid hq
          clear hq
          go_wp2_with (at_builtin; go_loud (refine Kd.R_append K.kch (w0 := w) w.heap.size rfl (.tmp 43) (.tmp 48) 40 90 _ 24 rfl Tryz.underlying40 K.info90 (by rfl) (by decide) (by decide) (.slice A8 lb.length c8) lb y (K.encCh y) (fun _ => True) (fun _ => False) rfl rfl rfl (fun _ q => q.elim) (fun _ _ => trivial) HRB.out HB.out HB.out.size (by omega) ?_); intro x7 w7 ho7 hb7 hg7 hat7)
          have hra7 : K.kch.R 90 w7 w.heap.size (fun _ => True) (.slice A7 la.length c7) la := kch_keep HRA.out (fun k hk => hg7.block k (K.ChRow.lt (chrow_low HRA.out) k hk) (fun q => HAP.out k hk q.symm))
          go_roundg (l.length + 1 - (i + 1))
          case measure => rw [HG.out]; omega
          case rel =>
            refine ⟨i + 1, la, lb ++ [y], by go_num, by omega, rfl, by rw [HTK2.out, HTK.out, List.append_assoc], HKA.out, fun c hc => ?_, hra7, ho7, fun k hk q => ?_, hb7⟩
            · rcases List.mem_append.1 hc with hc | hc
              · exact HKB.out c hc
              · obtain rfl := List.mem_singleton.1 hc; exact HQ.out
            · rcases hat7 with r | ⟨j, r, hj⟩
              · exact HAP.out k hk (r ▸ q)
              · rw [r] at q
                cases q
                have := K.ChRow.lt (chrow_low HRA.out) _ hk
                omega
        · have HQ := hid hq
          by_cases hlb : lb = []
          · subst hlb
            have h12 : (y.kind == 1) = true ∨ ((y.kind == 1) = false ∧ (y.kind == 2) = true) := by
              unfold kvKind at hq
              cases e : (y.kind == 1)
              · rw [e, Bool.false_or] at hq; exact .inr ⟨rfl, hq⟩
              · exact .inl rfl
            clear hq
            rcases h12 with e1 | ⟨e1, e2⟩
            all_goals
              go_wp2_with (at_builtin; go_loud (refine Kd.R_append K.kch (w0 := w) w.heap.size rfl (.tmp 36) (.tmp 41) 40 90 _ 24 rfl Tryz.underlying40 K.info90 (by rfl) (by decide) (by decide) (.slice A7 la.length c7) la y (K.encCh y) (fun _ => True) (fun _ => False) rfl rfl rfl (fun _ q => q.elim) (fun _ _ => trivial) HRA.out HB.out HB.out.size (by omega) ?_); intro x7 w7 ho7 hb7 hg7 hat7)
              have hrb7 : K.kch.R 90 w7 w.heap.size (fun _ => True) (.slice A8 ([] : List Ch).length c8) [] := kch_keep HRB.out (fun k hk => hg7.block k (K.ChRow.lt (chrow_low HRB.out) k hk) (fun q => HAP.out k q.symm hk))
              go_roundg (l.length + 1 - (i + 1))
              case measure => rw [HG.out]; omega
              case rel =>
                refine ⟨i + 1, la ++ [y], [], by go_num, by omega, rfl, by rw [HTK2.out, HTK.out, List.append_nil, List.append_nil], fun c hc => ?_, HKB.out, ho7, hrb7, fun k hk q => ?_, hb7⟩
                · rcases List.mem_append.1 hc with hc | hc
                  · exact HKA.out c hc
                  · obtain rfl := List.mem_singleton.1 hc; exact HQ.out
                · rcases hat7 with r | ⟨j, r, hj⟩
                  · exact HAP.out k (r ▸ hk) q
                  · rw [r] at hk
                    cases hk
                    have := K.ChRow.lt (chrow_low HRB.out) _ q
                    omega
          · have HM := hid (restore_bad (s := s) (n := n) (by have := H1.out; omega) HY.out HTK.out HKA.out HKB.out hlb hq)
            have hpos : 0 < lb.length := List.length_pos_iff.2 hlb
            have h12 : (y.kind == 1) = true ∨ ((y.kind == 1) = false ∧ (y.kind == 2) = true) := by
              unfold kvKind at hq
              cases e : (y.kind == 1)
              · rw [e, Bool.false_or] at hq; exact .inr ⟨rfl, hq⟩
              · exact .inl rfl
            clear hq hlb
            rcases h12 with e1 | ⟨e1, e2⟩
            all_goals
              go_wp2_with fail
              go_ret
              rw [HM.out]
              exact DRPost.same H.out HB.out _
      · have hie : i = l.length := by omega
        have hl2 : l = la ++ lb := by have := HTK.out; rwa [hie, List.take_of_length_le (Nat.le_refl _)] at this
        have HM := hid (restore_parts (s := s) (show ¬ n < 1 by have := H1.out; omega) hl2 HKA.out HKB.out)
        have hlb : la.length + lb.length ≤ 900 := by omega
        have hrA := chrow_low HRA.out
        have hrB := chrow_low HRB.out
        obtain ⟨A7', c7', e7, hc7, hat7⟩ := hrA.at_
        injection e7 with x1 x2 x3
        subst x1 x3
        have hbA : ∀ k, (Value.slice A7 la.length c7).ownBlock = some k → w.heap.size ≤ k ∧ k < wr.heap.size := fun k hk => ⟨Kd.R_base HRA.out k hk, K.ChRow.lt hrA k hk⟩
        have hbB : ∀ k, (Value.slice A8 lb.length c8).ownBlock = some k → w.heap.size ≤ k ∧ k < wr.heap.size := fun k hk => ⟨Kd.R_base HRB.out k hk, K.ChRow.lt hrB k hk⟩
        have hFb := H.out.fb
        obtain ⟨FD, Ze, I, pv, qv, tv, hsub, hd, hw, hst⟩ := (H.out.below HB.out).st
        have HC := D.drestore_any hd hw (by rw [wsK_len hw]; exact HK.out) HOK.out.k n A7 la c7 hat7 (fun hne k off e => ⟨fun q => by have := hbA k (own_addr e); have := hFb k (hsub k q); omega, (hbA k (own_addr e)).2⟩) (by omega) hc7
        have hk1ok := HOK.out.k.restore n la
        have hk1len := k_restore_len HOK.out.k n la
        obtain ⟨e1, he1⟩ : ∃ e1, (s.k.restore n la).1 = e1 := ⟨_, rfl⟩
        obtain ⟨k1, hk1⟩ : ∃ k1, (s.k.restore n la).2 = k1 := ⟨_, rfl⟩
        rw [he1, hk1] at HC HM
        rw [hk1] at hk1ok hk1len
        have HC := hid HC
        have HST := hid hst
        have HSUB := hid hsub
        have HRB2 := hid hrB
        have HBB := hid hbB
        have HFB := hid hFb
        have HK1 := hid hk1ok
        have HK1L := hid (show k1.ws.length ≤ 901 from by have := HK.out; omega)
        clear hrA hrB hat7 hc7 hbA hbB hFb hsub hd hw hst he1 hk1 hk1ok hk1len HRA HRB HAP HTK HKA HKB HG hie hl2 hlen hb
        go_wp2_with fail
        refine HC.out.mono ?_
        rintro e w1 ⟨rfl, FD', I', pv', qv', tv', hd', hg, hw', hf⟩
        have hx := HST.out w1 FD' L k1 I' pv' qv' tv' hd' hw' hg hf
        by_cases hz1 : e1 = 0
        · subst hz1
          have hrB1 : K.ChRow w1 (.slice A8 lb.length c8) lb := HRB2.out.move (fun k hk => hf.block k (HBB.out k hk).2 (fun q => by have := HBB.out k hk; have := HFB.out k (HSUB.out k q); omega))
          obtain ⟨A8', c8', e8, hc8, hat8⟩ := hrB1.at_
          injection e8 with x1 x2 x3
          subst x1 x3
          obtain ⟨FE, Zd, hsq, hq, hqt⟩ := hx.qu
          have hFx := hx.fb
          have HCQ := E.drestore_any hq HOK.out.q n A8 lb c8 (ChAt.ofK hat8) (fun hne k off e q => by
            have h1 := HBB.out k (own_addr e)
            rcases hsq k q with r | r
            · have := HFB.out k r; omega
            · rcases hg k r with r | r
              · have := HFB.out k (HSUB.out k r); omega
              · omega) (by omega)
          obtain ⟨e2, he2⟩ : ∃ e2, (s.q.restore n lb).1 = e2 := ⟨_, rfl⟩
          obtain ⟨q1, hq1⟩ : ∃ q1, (s.q.restore n lb).2 = q1 := ⟨_, rfl⟩
          rw [he2, hq1] at HCQ HM
          have HCQ := hid HCQ
          have HQT := hid hqt
          have HSQ := hid hsq
          have HG1 := hid (grew_or HSUB.out hg)
          have HF1 := hid (hf.mono HSUB.out)
          have HSZ := hid hf.size
          clear hrB1 hc8 hat8 hsq hq hqt hFx he2 hq1 hx hd' hg hw' hf HRB2 HBB HFB HC HST
          go_wp2_with fail
          refine HCQ.out.mono ?_
          rintro e w2 ⟨rfl, ⟨FE', hd2, hg2⟩, hf2⟩
          have hx2 := HQT.out w2 FE' _ hd2 hg2 hf2
          have hG2 := HG1.out.trans (grew_or HSQ.out hg2) HSZ.out
          have hF2 := HF1.out.trans (hf2.mono HSQ.out) (fun i hi => HG1.out i hi)
          by_cases hz2 : e2 = 0
          · subst hz2
            have HX := hid hx2
            have HG2 := hid hG2
            have HF2 := hid hF2
            clear hx2 hG2 hF2 hd2 hg2 hf2
            go_wp2_with fail
            go_ret
            rw [HM.out, if_neg (by simp), if_neg (by simp)]
            exact DRPost.after HB.out ⟨rfl, ⟨_, HX.out, HG2.out⟩, HF2.out⟩
          · have hne2 : (e2 == 0) = false := by simpa using hz2
            by_cases hla : la = []
            · subst hla
              have HX := hid hx2
              have HG2 := hid hG2
              have HF2 := hid hF2
              clear hx2 hG2 hF2 hd2 hg2 hf2
              go_wp2_with fail
              go_ret
              rw [HM.out, if_neg (by simp), if_pos hz2]
              exact DRPost.after HB.out ⟨rfl, ⟨_, HX.out, HG2.out⟩, HF2.out⟩
            · have hpos : 0 < la.length := List.length_pos_iff.2 hla
              obtain ⟨FD2, Ze2, I2, pv2, qv2, tv2, hsub2, hd3, hw3, hst3⟩ := hx2.st
              have HCB := hid (D.dbackout_any hd3 hw3 (by rw [wsK_len hw3]; have := HK1L.out; show k1.ws.length ≤ 1000; omega) HK1.out.rk n)
              have HST3 := hid hst3
              have HSUB2 := hid hsub2
              have HG2 := hid hG2
              have HF2 := hid hF2
              have HSZ2 := hid (Nat.le_trans HSZ.out hf2.size)
              clear hx2 hG2 hF2 hd2 hg2 hf2 hsub2 hd3 hw3 hst3 hla
              go_wp2_with fail
              refine HCB.out.mono ?_
              rintro e w3 ⟨rfl, FD3, I3, pv3, qv3, tv3, hd4, hg4, hw4, hf4⟩
              have hx3 := HST3.out w3 FD3 L _ I3 pv3 qv3 tv3 hd4 hw4 hg4 hf4
              have HX := hid hx3
              have HG3 := hid (HG2.out.trans (grew_or HSUB2.out hg4) HSZ2.out)
              have HF3 := hid (HF2.out.trans (hf4.mono HSUB2.out) (fun i hi => HG2.out i hi))
              clear hd4 hg4 hw4 hf4 hx3
              go_wp2_with fail
              go_ret
              rw [HM.out, if_neg (by simp), if_pos hz2, if_pos hpos]
              exact DRPost.after HB.out ⟨rfl, ⟨_, HX.out, HG3.out⟩, HF3.out⟩
        · have hne : (e1 == 0) = false := by simpa using hz1
          have HX := hid hx
          have HG1 := hid (grew_or HSUB.out hg)
          have HF1 := hid (hf.mono HSUB.out)
          clear hx hd' hg hw' hf
          go_wp2_with fail
          go_ret
          rw [HM.out, if_pos hz1]
          exact DRPost.after HB.out ⟨rfl, ⟨_, HX.out, HG1.out⟩, HF1.out⟩
end Go.Proofs.YtdejbinmnoabeaaGreat
namespace Go.Proofs.YtdejbinmnoabeaaGreat
open Go.RowKit Go.Mine Go.Proofs.YtdejbinmnoabeaaGreatW.PrintWords
set_option linter.unusedVariables false
set_option linter.unusedSimpArgs false
theorem run_deleteO {w : World} {mo : Option Nat} {L : List (Int × Bool × Nat)} (h : MapO (Value.int .i64) Value.bool w mo L) (n : Int) :
    ∃ w', (Builtin.delete_ #[79, 3] 0 #[.map mo, .int .i64 n]).run Tryz.prog w = .ok (.tuple #[]) w' ∧ MapO (Value.int .i64) Value.bool w' mo (mdel n L) ∧ Fr (fun i => mo = some i) w w' ∧ w'.heap.size = w.heap.size := by
  cases mo with
  | none =>
    have hL : L = [] := h
    subst hL
    exact ⟨w, run_delete_nil Tryz.underlying79 K.key3 w n, rfl, Fr.refl _ _, rfl⟩
  | some c =>
    obtain ⟨cc, hm⟩ := h
    obtain ⟨w2, hrun, hm2, f2, s2⟩ := run_delete (P := Tryz.prog) (ty := 0) Tryz.underlying79 K.key3 hm n
    exact ⟨w2, hrun, ⟨cc, hm2⟩, f2.mono (fun i hi => by rw [hi]), s2⟩
section
variable {F : Nat → Prop} {w : World} {b : Nat} {k : KS} {q : QS} {f0 f1 : Int → Bool} {s : RM}
theorem RX.del0 (h : RX F w b k q f0 f1) (n : Int) : ∃ mo, w.cell? ⟨b, 37, none⟩ = some (.map mo) ∧ ∃ w', (Builtin.delete_ #[79, 3] 0 #[.map mo, .int .i64 n]).run Tryz.prog w = .ok (.tuple #[]) w' ∧ RX F w' b k q (fun m => f0 m && !(m == n)) f1 ∧ Fr F w w' := by
  obtain ⟨FK, FQ, I, L, mo, lo, J, iv, qv, m0, m1, L0, L1, h, h0, h1⟩ := h
  obtain ⟨w', hrun, hm, hf, hs⟩ := run_deleteO h.a0 n
  refine ⟨m0, by rw [cell_of_row w b 37 _ _ _ h.kr.blk]; exact sc37 h.kr.lv h.kr.lth, w', hrun, ?_, hf.mono (fun i hi => (h.z0 i hi).1)⟩
  have hb := hf.at_ h.kr.blk (fun q => (h.z0 b q).2.1 h.kr.b)
  have hr := h.map0 (hf.mono (fun i hi => .inr hi)) hb hm (.inl rfl)
  have e : (fun i => F i ∨ m0 = some i) = F := by
    funext i
    exact propext ⟨fun q => q.elim id (fun q => (h.z0 i q).1), .inl⟩
  rw [e] at hr
  exact ⟨FK, FQ, I, L, mo, lo, J, iv, qv, m0, m1, _, _, hr, fun m => by rw [mget_del, h0], h1⟩
theorem RX.del1 (h : RX F w b k q f0 f1) (n : Int) : ∃ mo, w.cell? ⟨b, 38, none⟩ = some (.map mo) ∧ ∃ w', (Builtin.delete_ #[79, 3] 0 #[.map mo, .int .i64 n]).run Tryz.prog w = .ok (.tuple #[]) w' ∧ RX F w' b k q f0 (fun m => f1 m && !(m == n)) ∧ Fr F w w' := by
  obtain ⟨FK, FQ, I, L, mo, lo, J, iv, qv, m0, m1, L0, L1, h, h0, h1⟩ := h
  obtain ⟨w', hrun, hm, hf, hs⟩ := run_deleteO h.a1 n
  refine ⟨m1, by rw [cell_of_row w b 38 _ _ _ h.kr.blk]; exact sc38 h.kr.lv h.kr.lth, w', hrun, ?_, hf.mono (fun i hi => (h.z1 i hi).1)⟩
  have hb := hf.at_ h.kr.blk (fun q => (h.z1 b q).2.1 h.kr.b)
  have hr := h.map1 (hf.mono (fun i hi => .inr hi)) hb hm (.inl rfl)
  have e : (fun i => F i ∨ m1 = some i) = F := by
    funext i
    exact propext ⟨fun q => q.elim id (fun q => (h.z1 i q).1), .inl⟩
  rw [e] at hr
  exact ⟨FK, FQ, I, L, mo, lo, J, iv, qv, m0, m1, _, _, hr, h0, fun m => by rw [mget_del, h1]⟩
set_option maxRecDepth 100000 in
set_option maxHeartbeats 4000000 in
theorem decide_commit (h : RAt F w b s) (n : Int) :
    Calls Tryz.prog 60 #[.pointer (some ⟨b, 0, none⟩), .int .i64 n, .bool true] w (RPost F w b (.int .i64 (s.commit n).1) (s.commit n).2) := by
  have HF := hid (fit_any h n)
  have H := hid h
  clear h
  rcases s.fit_cases n with ⟨hn, he⟩ | ⟨hn, he, hp⟩ | ⟨hn, he, hp0, hp1⟩
  · have HM := hid (show s.commit n = (1, s) from by unfold RM.commit; rw [if_pos he])
    rw [he] at HF
    go_enter Tryz.func60, Tryz.ntmps60
    go_wp2_with fail
    refine HF.out.mono ?_
    rintro e w1 ⟨rfl, rfl⟩
    go_wp2_with fail
    go_ret
    rw [HM.out]
    exact RPost.same H.out _
  · have HM := hid (show s.commit n = _ from by unfold RM.commit; rw [if_neg (by rw [he]; decide)])
    have hqok := H.out.qok
    have HQOK := hid hqok
    obtain ⟨FK, Pz, hsub, hk, hst⟩ := H.out.kv
    have HC := hid (K.commit_any hk n)
    have HST := hid hst
    have HSUB := hid hsub
    clear hk hst hqok hsub
    rw [he] at HF
    clear he hp
    go_enter Tryz.func60, Tryz.ntmps60
    go_wp2_with fail
    refine HF.out.mono ?_
    rintro e w1 ⟨rfl, rfl⟩
    go_wp2_with fail
    refine HC.out.mono ?_
    rintro e w1 ⟨rfl, ⟨FK', hk', hg1⟩, hf1⟩
    have hx1 := HST.out w1 FK' _ hk' hg1 hf1
    obtain ⟨FQ, Z, hsq, hq, hqt⟩ := hx1.qu
    have HCQ := hid (Q.commit_any hq HQOK.out.bd n)
    have HQT := hid hqt
    have hg01 : ∀ i, (F i ∨ FK' i) → F i ∨ w.heap.size ≤ i := fun i hi => hi.elim .inl (fun q => (hg1 i q).imp (HSUB.out i) id)
    have hf01 : Fr F w w1 := hf1.mono HSUB.out
    have HSQ := hid hsq
    have HG1 := hid hg01
    have HF1 := hid hf01
    clear hk' hx1 hq hqt hsq hg1 hf1 HC HST hg01 hf01
    go_wp2_with fail
    refine HCQ.out.mono ?_
    rintro e w2 ⟨rfl, ⟨FQ', hq', hg2⟩, hf2⟩
    have hx2 := HQT.out w2 FQ' _ hq' (HQOK.out.commit n) hg2 hf2
    have hf02 : Fr F w w2 := HF1.out.trans hf2 (fun i hi => HG1.out i (HSQ.out i hi))
    have hg02 : ∀ i, ((F i ∨ FK' i) ∨ FQ' i) → F i ∨ w.heap.size ≤ i := fun i hi => hi.elim (HG1.out i) (fun q => (hg2 i q).elim (fun r => HG1.out i (HSQ.out i r)) (fun r => .inr (Nat.le_trans HF1.out.size r)))
    obtain ⟨m0, c0, w3, hr3, hx3, hf3⟩ := hx2.del0 n
    have hf03 := hf02.trans hf3 hg02
    obtain ⟨m1, c1, w4, hr4, hx4, hf4⟩ := hx3.del1 n
    have hf04 := hf03.trans hf4 hg02
    have hxr : RAt (fun i => (F i ∨ FK' i) ∨ FQ' i) w4 b ⟨(s.k.commit n).2, (s.q.commit n).2⟩ := hx4.marks (fun m => by show _ = prepd m (s.k.commit n).2.ws; rw [kcommit_ws hn]; exact prepd_adel.symm) (fun m => by show _ = prepd m (s.q.commit n).2.ws; rw [qcommit_ws hn]; exact prepd_adel.symm)
    have HX := hid hxr
    have HG := hid hg02
    have HF4 := hid hf04
    clear hq' hx2 hg2 hf2 hx3 hx4 hf3 hf4 hf02 hf03 hf04 hg02 hxr HCQ HQT
    go_wp2_with fail
    go_ret
    rw [HM.out]
    exact ⟨rfl, ⟨_, HX.out, HG.out⟩, HF4.out⟩
  · have HM := hid (show s.commit n = _ from by unfold RM.commit; rw [if_neg (by rw [he]; decide)])
    have hqok := H.out.qok
    have HQOK := hid hqok
    obtain ⟨FK, Pz, hsub, hk, hst⟩ := H.out.kv
    have HC := hid (K.commit_any hk n)
    have HST := hid hst
    have HSUB := hid hsub
    clear hk hst hqok hsub
    rw [he] at HF
    clear he hp0 hp1
    go_enter Tryz.func60, Tryz.ntmps60
    go_wp2_with fail
    refine HF.out.mono ?_
    rintro e w1 ⟨rfl, rfl⟩
    go_wp2_with fail
    refine HC.out.mono ?_
    rintro e w1 ⟨rfl, ⟨FK', hk', hg1⟩, hf1⟩
    have hx1 := HST.out w1 FK' _ hk' hg1 hf1
    obtain ⟨FQ, Z, hsq, hq, hqt⟩ := hx1.qu
    have HCQ := hid (Q.commit_any hq HQOK.out.bd n)
    have HQT := hid hqt
    have hg01 : ∀ i, (F i ∨ FK' i) → F i ∨ w.heap.size ≤ i := fun i hi => hi.elim .inl (fun q => (hg1 i q).imp (HSUB.out i) id)
    have hf01 : Fr F w w1 := hf1.mono HSUB.out
    have HSQ := hid hsq
    have HG1 := hid hg01
    have HF1 := hid hf01
    clear hk' hx1 hq hqt hsq hg1 hf1 HC HST hg01 hf01
    go_wp2_with fail
    refine HCQ.out.mono ?_
    rintro e w2 ⟨rfl, ⟨FQ', hq', hg2⟩, hf2⟩
    have hx2 := HQT.out w2 FQ' _ hq' (HQOK.out.commit n) hg2 hf2
    have hf02 : Fr F w w2 := HF1.out.trans hf2 (fun i hi => HG1.out i (HSQ.out i hi))
    have hg02 : ∀ i, ((F i ∨ FK' i) ∨ FQ' i) → F i ∨ w.heap.size ≤ i := fun i hi => hi.elim (HG1.out i) (fun q => (hg2 i q).elim (fun r => HG1.out i (HSQ.out i r)) (fun r => .inr (Nat.le_trans HF1.out.size r)))
    obtain ⟨m0, c0, w3, hr3, hx3, hf3⟩ := hx2.del0 n
    have hf03 := hf02.trans hf3 hg02
    obtain ⟨m1, c1, w4, hr4, hx4, hf4⟩ := hx3.del1 n
    have hf04 := hf03.trans hf4 hg02
    have hxr : RAt (fun i => (F i ∨ FK' i) ∨ FQ' i) w4 b ⟨(s.k.commit n).2, (s.q.commit n).2⟩ := hx4.marks (fun m => by show _ = prepd m (s.k.commit n).2.ws; rw [kcommit_ws hn]; exact prepd_adel.symm) (fun m => by show _ = prepd m (s.q.commit n).2.ws; rw [qcommit_ws hn]; exact prepd_adel.symm)
    have HX := hid hxr
    have HG := hid hg02
    have HF4 := hid hf04
    clear hq' hx2 hg2 hf2 hx3 hx4 hf3 hf4 hf02 hf03 hf04 hg02 hxr HCQ HQT
    go_wp2_with fail
    go_ret
    rw [HM.out]
    exact ⟨rfl, ⟨_, HX.out, HG.out⟩, HF4.out⟩
set_option maxRecDepth 100000 in
set_option maxHeartbeats 4000000 in
theorem decide_backout (h : RAt F w b s) (n : Int) :
    Calls Tryz.prog 60 #[.pointer (some ⟨b, 0, none⟩), .int .i64 n, .bool false] w (RPost F w b (.int .i64 (s.backout n).1) (s.backout n).2) := by
  have HF := hid (fit_any h n)
  have H := hid h
  clear h
  rcases s.fit_cases n with ⟨hn, he⟩ | ⟨hn, he, hp⟩ | ⟨hn, he, hp0, hp1⟩
  · have HM := hid (show s.backout n = (1, s) from by unfold RM.backout; rw [if_pos he])
    rw [he] at HF
    go_enter Tryz.func60, Tryz.ntmps60
    go_wp2_with fail
    refine HF.out.mono ?_
    rintro e w1 ⟨rfl, rfl⟩
    go_wp2_with fail
    go_ret
    rw [HM.out]
    exact RPost.same H.out _
  · have HM := hid (show s.backout n = _ from by unfold RM.backout; rw [if_neg (by rw [he]; decide)])
    have hqok := H.out.qok
    have HQOK := hid hqok
    obtain ⟨FK, Pz, hsub, hk, hst⟩ := H.out.kv
    have HC := hid (K.backout_any hk n)
    have HST := hid hst
    have HSUB := hid hsub
    clear hk hst hqok hsub
    rw [he] at HF
    clear he hp
    go_enter Tryz.func60, Tryz.ntmps60
    go_wp2_with fail
    refine HF.out.mono ?_
    rintro e w1 ⟨rfl, rfl⟩
    go_wp2_with fail
    refine HC.out.mono ?_
    rintro e w1 ⟨rfl, ⟨FK', hk', hg1⟩, hf1⟩
    have hx1 := HST.out w1 FK' _ hk' hg1 hf1
    obtain ⟨FQ, Z, hsq, hq, hqt⟩ := hx1.qu
    have HCQ := hid (Q.backout_any hq HQOK.out.bd n)
    have HQT := hid hqt
    have hg01 : ∀ i, (F i ∨ FK' i) → F i ∨ w.heap.size ≤ i := fun i hi => hi.elim .inl (fun q => (hg1 i q).imp (HSUB.out i) id)
    have hf01 : Fr F w w1 := hf1.mono HSUB.out
    have HSQ := hid hsq
    have HG1 := hid hg01
    have HF1 := hid hf01
    clear hk' hx1 hq hqt hsq hg1 hf1 HC HST hg01 hf01
    go_wp2_with fail
    refine HCQ.out.mono ?_
    rintro e w2 ⟨rfl, ⟨FQ', hq', hg2⟩, hf2⟩
    have hx2 := HQT.out w2 FQ' _ hq' (HQOK.out.backout n) hg2 hf2
    have hf02 : Fr F w w2 := HF1.out.trans hf2 (fun i hi => HG1.out i (HSQ.out i hi))
    have hg02 : ∀ i, ((F i ∨ FK' i) ∨ FQ' i) → F i ∨ w.heap.size ≤ i := fun i hi => hi.elim (HG1.out i) (fun q => (hg2 i q).elim (fun r => HG1.out i (HSQ.out i r)) (fun r => .inr (Nat.le_trans HF1.out.size r)))
    obtain ⟨m0, c0, w3, hr3, hx3, hf3⟩ := hx2.del0 n
    have hf03 := hf02.trans hf3 hg02
    obtain ⟨m1, c1, w4, hr4, hx4, hf4⟩ := hx3.del1 n
    have hf04 := hf03.trans hf4 hg02
    have hxr : RAt (fun i => (F i ∨ FK' i) ∨ FQ' i) w4 b ⟨(s.k.backout n).2, (s.q.backout n).2⟩ := hx4.marks (fun m => by show _ = prepd m (s.k.backout n).2.ws; rw [kback_ws hn]; exact prepd_adel.symm) (fun m => by show _ = prepd m (s.q.backout n).2.ws; rw [qback_ws hn]; exact prepd_adel.symm)
    have HX := hid hxr
    have HG := hid hg02
    have HF4 := hid hf04
    clear hq' hx2 hg2 hf2 hx3 hx4 hf3 hf4 hf02 hf03 hf04 hg02 hxr HCQ HQT
    go_wp2_with fail
    go_ret
    rw [HM.out]
    exact ⟨rfl, ⟨_, HX.out, HG.out⟩, HF4.out⟩
  · have HM := hid (show s.backout n = _ from by unfold RM.backout; rw [if_neg (by rw [he]; decide)])
    have hqok := H.out.qok
    have HQOK := hid hqok
    obtain ⟨FK, Pz, hsub, hk, hst⟩ := H.out.kv
    have HC := hid (K.backout_any hk n)
    have HST := hid hst
    have HSUB := hid hsub
    clear hk hst hqok hsub
    rw [he] at HF
    clear he hp0 hp1
    go_enter Tryz.func60, Tryz.ntmps60
    go_wp2_with fail
    refine HF.out.mono ?_
    rintro e w1 ⟨rfl, rfl⟩
    go_wp2_with fail
    refine HC.out.mono ?_
    rintro e w1 ⟨rfl, ⟨FK', hk', hg1⟩, hf1⟩
    have hx1 := HST.out w1 FK' _ hk' hg1 hf1
    obtain ⟨FQ, Z, hsq, hq, hqt⟩ := hx1.qu
    have HCQ := hid (Q.backout_any hq HQOK.out.bd n)
    have HQT := hid hqt
    have hg01 : ∀ i, (F i ∨ FK' i) → F i ∨ w.heap.size ≤ i := fun i hi => hi.elim .inl (fun q => (hg1 i q).imp (HSUB.out i) id)
    have hf01 : Fr F w w1 := hf1.mono HSUB.out
    have HSQ := hid hsq
    have HG1 := hid hg01
    have HF1 := hid hf01
    clear hk' hx1 hq hqt hsq hg1 hf1 HC HST hg01 hf01
    go_wp2_with fail
    refine HCQ.out.mono ?_
    rintro e w2 ⟨rfl, ⟨FQ', hq', hg2⟩, hf2⟩
    have hx2 := HQT.out w2 FQ' _ hq' (HQOK.out.backout n) hg2 hf2
    have hf02 : Fr F w w2 := HF1.out.trans hf2 (fun i hi => HG1.out i (HSQ.out i hi))
    have hg02 : ∀ i, ((F i ∨ FK' i) ∨ FQ' i) → F i ∨ w.heap.size ≤ i := fun i hi => hi.elim (HG1.out i) (fun q => (hg2 i q).elim (fun r => HG1.out i (HSQ.out i r)) (fun r => .inr (Nat.le_trans HF1.out.size r)))
    obtain ⟨m0, c0, w3, hr3, hx3, hf3⟩ := hx2.del0 n
    have hf03 := hf02.trans hf3 hg02
    obtain ⟨m1, c1, w4, hr4, hx4, hf4⟩ := hx3.del1 n
    have hf04 := hf03.trans hf4 hg02
    have hxr : RAt (fun i => (F i ∨ FK' i) ∨ FQ' i) w4 b ⟨(s.k.backout n).2, (s.q.backout n).2⟩ := hx4.marks (fun m => by show _ = prepd m (s.k.backout n).2.ws; rw [kback_ws hn]; exact prepd_adel.symm) (fun m => by show _ = prepd m (s.q.backout n).2.ws; rw [qback_ws hn]; exact prepd_adel.symm)
    have HX := hid hxr
    have HG := hid hg02
    have HF4 := hid hf04
    clear hq' hx2 hg2 hf2 hx3 hx4 hf3 hf4 hf02 hf03 hf04 hg02 hxr HCQ HQT
    go_wp2_with fail
    go_ret
    rw [HM.out]
    exact ⟨rfl, ⟨_, HX.out, HG.out⟩, HF4.out⟩
theorem commit_any (h : RAt F w b s) (n : Int) :
    Calls Tryz.prog 26 #[.pointer (some ⟨b, 0, none⟩), .int .i64 n] w (RPost F w b (.int .i64 (s.commit n).1) (s.commit n).2) := by
  have HC := hid (decide_commit h n)
  clear h
  go_enter Tryz.func26, Tryz.ntmps26
  go_wp2_with fail
  refine HC.out.mono ?_
  rintro e w1 ⟨rfl, hfin⟩
  go_wp2_with fail
  go_ret
  exact ⟨rfl, hfin⟩
theorem backout_any (h : RAt F w b s) (n : Int) :
    Calls Tryz.prog 27 #[.pointer (some ⟨b, 0, none⟩), .int .i64 n] w (RPost F w b (.int .i64 (s.backout n).1) (s.backout n).2) := by
  have HC := hid (decide_backout h n)
  clear h
  go_enter Tryz.func27, Tryz.ntmps27
  go_wp2_with fail
  refine HC.out.mono ?_
  rintro e w1 ⟨rfl, hfin⟩
  go_wp2_with fail
  go_ret
  exact ⟨rfl, hfin⟩
end
end Go.Proofs.YtdejbinmnoabeaaGreat

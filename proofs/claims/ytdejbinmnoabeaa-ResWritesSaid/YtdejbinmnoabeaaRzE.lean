/- Walks of the resources' decide, Commit, Backout. Conditions: the resources read as RAt says. -/
import Derived.Test.YtdejbinmnoabeaaRzD
namespace Go.Proofs.Ytdejbinmnoabeaa
open Go.RowKit Go.Mine Go.Proofs.YtdejbinmnoabeaaW.PrintWords
set_option linter.unusedVariables false
set_option linter.unusedSimpArgs false
theorem run_deleteO {w : World} {mo : Option Nat} {L : List (Int × Bool × Nat)} (h : MapO (Value.int .i64) Value.bool w mo L) (n : Int) :
    ∃ w', (Builtin.delete_ #[88, 3] 0 #[.map mo, .int .i64 n]).run Try.prog w = .ok (.tuple #[]) w' ∧ MapO (Value.int .i64) Value.bool w' mo (mdel n L) ∧ Fr (fun i => mo = some i) w w' ∧ w'.heap.size = w.heap.size := by
  cases mo with
  | none =>
    have hL : L = [] := h
    subst hL
    exact ⟨w, run_delete_nil Try.underlying88 K.key3 w n, rfl, Fr.refl _ _, rfl⟩
  | some c =>
    obtain ⟨cc, hm⟩ := h
    obtain ⟨w2, hrun, hm2, f2, s2⟩ := run_delete (P := Try.prog) (ty := 0) Try.underlying88 K.key3 hm n
    exact ⟨w2, hrun, ⟨cc, hm2⟩, f2.mono (fun i hi => by rw [hi]), s2⟩
section
variable {F : Nat → Prop} {w : World} {b : Nat} {k : KS} {q : QS} {f0 f1 : Int → Bool} {s : RM}
theorem RX.del0 (h : RX F w b k q f0 f1) (n : Int) : ∃ mo, w.cell? ⟨b, 37, none⟩ = some (.map mo) ∧ ∃ w', (Builtin.delete_ #[88, 3] 0 #[.map mo, .int .i64 n]).run Try.prog w = .ok (.tuple #[]) w' ∧ RX F w' b k q (fun m => f0 m && !(m == n)) f1 ∧ Fr F w w' := by
  obtain ⟨FK, FQ, I, L, mo, lo, J, iv, qv, m0, m1, L0, L1, h, h0, h1⟩ := h
  obtain ⟨w', hrun, hm, hf, hs⟩ := run_deleteO h.a0 n
  refine ⟨m0, by rw [cell_of_row w b 37 _ _ _ h.kr.blk]; exact sc37 h.kr.lv h.kr.lth, w', hrun, ?_, hf.mono (fun i hi => (h.z0 i hi).1)⟩
  have hb := hf.at_ h.kr.blk (fun q => (h.z0 b q).2.1 h.kr.b)
  have hr := h.map0 (hf.mono (fun i hi => .inr hi)) hb hm (.inl rfl)
  have e : (fun i => F i ∨ m0 = some i) = F := by
    funext i
    exact propext ⟨fun q => q.elim id (fun q => (h.z0 i q).1), .inl⟩
  rw [e] at hr
  exact ⟨FK, FQ, I, L, mo, lo, J, iv, qv, m0, m1, _, _, hr, fun m => by rw [mget_del, h0], h1⟩
theorem RX.del1 (h : RX F w b k q f0 f1) (n : Int) : ∃ mo, w.cell? ⟨b, 38, none⟩ = some (.map mo) ∧ ∃ w', (Builtin.delete_ #[88, 3] 0 #[.map mo, .int .i64 n]).run Try.prog w = .ok (.tuple #[]) w' ∧ RX F w' b k q f0 (fun m => f1 m && !(m == n)) ∧ Fr F w w' := by
  obtain ⟨FK, FQ, I, L, mo, lo, J, iv, qv, m0, m1, L0, L1, h, h0, h1⟩ := h
  obtain ⟨w', hrun, hm, hf, hs⟩ := run_deleteO h.a1 n
  refine ⟨m1, by rw [cell_of_row w b 38 _ _ _ h.kr.blk]; exact sc38 h.kr.lv h.kr.lth, w', hrun, ?_, hf.mono (fun i hi => (h.z1 i hi).1)⟩
  have hb := hf.at_ h.kr.blk (fun q => (h.z1 b q).2.1 h.kr.b)
  have hr := h.map1 (hf.mono (fun i hi => .inr hi)) hb hm (.inl rfl)
  have e : (fun i => F i ∨ m1 = some i) = F := by
    funext i
    exact propext ⟨fun q => q.elim id (fun q => (h.z1 i q).1), .inl⟩
  rw [e] at hr
  exact ⟨FK, FQ, I, L, mo, lo, J, iv, qv, m0, m1, _, _, hr, h0, fun m => by rw [mget_del, h1]⟩
set_option maxRecDepth 100000 in
set_option maxHeartbeats 4000000 in
theorem decide_commit (h : RAt F w b s) (n : Int) :
    Calls Try.prog 48 #[.pointer (some ⟨b, 0, none⟩), .int .i64 n, .bool true] w (RPost F w b (.int .i64 (s.commit n).1) (s.commit n).2) := by
  have HF := hid (fit_any h n)
  have H := hid h
  clear h
  rcases s.fit_cases n with ⟨hn, he⟩ | ⟨hn, he, hp⟩ | ⟨hn, he, hp0, hp1⟩
  · have HM := hid (show s.commit n = (1, s) from by unfold RM.commit; rw [if_pos he])
    rw [he] at HF
    go_enter Try.func48, Try.ntmps48
    go_wp2_with fail
    refine HF.out.mono ?_
    rintro e w1 ⟨rfl, rfl⟩
    go_wp2_with fail
    go_ret
    rw [HM.out]
    exact RPost.same H.out _
  · have HM := hid (show s.commit n = _ from by unfold RM.commit; rw [if_neg (by rw [he]; decide)])
    have hqok := H.out.qok
    have HQOK := hid hqok
    obtain ⟨FK, Pz, hsub, hk, hst⟩ := H.out.kv
    have HC := hid (K.commit_any hk n)
    have HST := hid hst
    have HSUB := hid hsub
    clear hk hst hqok hsub
    rw [he] at HF
    clear he hp
    go_enter Try.func48, Try.ntmps48
    go_wp2_with fail
    refine HF.out.mono ?_
    rintro e w1 ⟨rfl, rfl⟩
    go_wp2_with fail
    refine HC.out.mono ?_
    rintro e w1 ⟨rfl, ⟨FK', hk', hg1⟩, hf1⟩
    have hx1 := HST.out w1 FK' _ hk' hg1 hf1
    obtain ⟨FQ, Z, hsq, hq, hqt⟩ := hx1.qu
    have HCQ := hid (Q.commit_any hq HQOK.out.bd n)
    have HQT := hid hqt
    have hg01 : ∀ i, (F i ∨ FK' i) → F i ∨ w.heap.size ≤ i := fun i hi => hi.elim .inl (fun q => (hg1 i q).imp (HSUB.out i) id)
    have hf01 : Fr F w w1 := hf1.mono HSUB.out
    have HSQ := hid hsq
    have HG1 := hid hg01
    have HF1 := hid hf01
    clear hk' hx1 hq hqt hsq hg1 hf1 HC HST hg01 hf01
    go_wp2_with fail
    refine HCQ.out.mono ?_
    rintro e w2 ⟨rfl, ⟨FQ', hq', hg2⟩, hf2⟩
    have hx2 := HQT.out w2 FQ' _ hq' (HQOK.out.commit n) hg2 hf2
    have hf02 : Fr F w w2 := HF1.out.trans hf2 (fun i hi => HG1.out i (HSQ.out i hi))
    have hg02 : ∀ i, ((F i ∨ FK' i) ∨ FQ' i) → F i ∨ w.heap.size ≤ i := fun i hi => hi.elim (HG1.out i) (fun q => (hg2 i q).elim (fun r => HG1.out i (HSQ.out i r)) (fun r => .inr (Nat.le_trans HF1.out.size r)))
    obtain ⟨m0, c0, w3, hr3, hx3, hf3⟩ := hx2.del0 n
    have hf03 := hf02.trans hf3 hg02
    obtain ⟨m1, c1, w4, hr4, hx4, hf4⟩ := hx3.del1 n
    have hf04 := hf03.trans hf4 hg02
    have hxr : RAt (fun i => (F i ∨ FK' i) ∨ FQ' i) w4 b ⟨(s.k.commit n).2, (s.q.commit n).2⟩ := hx4.marks (fun m => by show _ = prepd m (s.k.commit n).2.ws; rw [kcommit_ws hn]; exact prepd_adel.symm) (fun m => by show _ = prepd m (s.q.commit n).2.ws; rw [qcommit_ws hn]; exact prepd_adel.symm)
    have HX := hid hxr
    have HG := hid hg02
    have HF4 := hid hf04
    clear hq' hx2 hg2 hf2 hx3 hx4 hf3 hf4 hf02 hf03 hf04 hg02 hxr HCQ HQT
    go_wp2_with fail
    go_ret
    rw [HM.out]
    exact ⟨rfl, ⟨_, HX.out, HG.out⟩, HF4.out⟩
  · have HM := hid (show s.commit n = _ from by unfold RM.commit; rw [if_neg (by rw [he]; decide)])
    have hqok := H.out.qok
    have HQOK := hid hqok
    obtain ⟨FK, Pz, hsub, hk, hst⟩ := H.out.kv
    have HC := hid (K.commit_any hk n)
    have HST := hid hst
    have HSUB := hid hsub
    clear hk hst hqok hsub
    rw [he] at HF
    clear he hp0 hp1
    go_enter Try.func48, Try.ntmps48
    go_wp2_with fail
    refine HF.out.mono ?_
    rintro e w1 ⟨rfl, rfl⟩
    go_wp2_with fail
    refine HC.out.mono ?_
    rintro e w1 ⟨rfl, ⟨FK', hk', hg1⟩, hf1⟩
    have hx1 := HST.out w1 FK' _ hk' hg1 hf1
    obtain ⟨FQ, Z, hsq, hq, hqt⟩ := hx1.qu
    have HCQ := hid (Q.commit_any hq HQOK.out.bd n)
    have HQT := hid hqt
    have hg01 : ∀ i, (F i ∨ FK' i) → F i ∨ w.heap.size ≤ i := fun i hi => hi.elim .inl (fun q => (hg1 i q).imp (HSUB.out i) id)
    have hf01 : Fr F w w1 := hf1.mono HSUB.out
    have HSQ := hid hsq
    have HG1 := hid hg01
    have HF1 := hid hf01
    clear hk' hx1 hq hqt hsq hg1 hf1 HC HST hg01 hf01
    go_wp2_with fail
    refine HCQ.out.mono ?_
    rintro e w2 ⟨rfl, ⟨FQ', hq', hg2⟩, hf2⟩
    have hx2 := HQT.out w2 FQ' _ hq' (HQOK.out.commit n) hg2 hf2
    have hf02 : Fr F w w2 := HF1.out.trans hf2 (fun i hi => HG1.out i (HSQ.out i hi))
    have hg02 : ∀ i, ((F i ∨ FK' i) ∨ FQ' i) → F i ∨ w.heap.size ≤ i := fun i hi => hi.elim (HG1.out i) (fun q => (hg2 i q).elim (fun r => HG1.out i (HSQ.out i r)) (fun r => .inr (Nat.le_trans HF1.out.size r)))
    obtain ⟨m0, c0, w3, hr3, hx3, hf3⟩ := hx2.del0 n
    have hf03 := hf02.trans hf3 hg02
    obtain ⟨m1, c1, w4, hr4, hx4, hf4⟩ := hx3.del1 n
    have hf04 := hf03.trans hf4 hg02
    have hxr : RAt (fun i => (F i ∨ FK' i) ∨ FQ' i) w4 b ⟨(s.k.commit n).2, (s.q.commit n).2⟩ := hx4.marks (fun m => by show _ = prepd m (s.k.commit n).2.ws; rw [kcommit_ws hn]; exact prepd_adel.symm) (fun m => by show _ = prepd m (s.q.commit n).2.ws; rw [qcommit_ws hn]; exact prepd_adel.symm)
    have HX := hid hxr
    have HG := hid hg02
    have HF4 := hid hf04
    clear hq' hx2 hg2 hf2 hx3 hx4 hf3 hf4 hf02 hf03 hf04 hg02 hxr HCQ HQT
    go_wp2_with fail
    go_ret
    rw [HM.out]
    exact ⟨rfl, ⟨_, HX.out, HG.out⟩, HF4.out⟩
set_option maxRecDepth 100000 in
set_option maxHeartbeats 4000000 in
theorem decide_backout (h : RAt F w b s) (n : Int) :
    Calls Try.prog 48 #[.pointer (some ⟨b, 0, none⟩), .int .i64 n, .bool false] w (RPost F w b (.int .i64 (s.backout n).1) (s.backout n).2) := by
  have HF := hid (fit_any h n)
  have H := hid h
  clear h
  rcases s.fit_cases n with ⟨hn, he⟩ | ⟨hn, he, hp⟩ | ⟨hn, he, hp0, hp1⟩
  · have HM := hid (show s.backout n = (1, s) from by unfold RM.backout; rw [if_pos he])
    rw [he] at HF
    go_enter Try.func48, Try.ntmps48
    go_wp2_with fail
    refine HF.out.mono ?_
    rintro e w1 ⟨rfl, rfl⟩
    go_wp2_with fail
    go_ret
    rw [HM.out]
    exact RPost.same H.out _
  · have HM := hid (show s.backout n = _ from by unfold RM.backout; rw [if_neg (by rw [he]; decide)])
    have hqok := H.out.qok
    have HQOK := hid hqok
    obtain ⟨FK, Pz, hsub, hk, hst⟩ := H.out.kv
    have HC := hid (K.backout_any hk n)
    have HST := hid hst
    have HSUB := hid hsub
    clear hk hst hqok hsub
    rw [he] at HF
    clear he hp
    go_enter Try.func48, Try.ntmps48
    go_wp2_with fail
    refine HF.out.mono ?_
    rintro e w1 ⟨rfl, rfl⟩
    go_wp2_with fail
    refine HC.out.mono ?_
    rintro e w1 ⟨rfl, ⟨FK', hk', hg1⟩, hf1⟩
    have hx1 := HST.out w1 FK' _ hk' hg1 hf1
    obtain ⟨FQ, Z, hsq, hq, hqt⟩ := hx1.qu
    have HCQ := hid (Q.backout_any hq HQOK.out.bd n)
    have HQT := hid hqt
    have hg01 : ∀ i, (F i ∨ FK' i) → F i ∨ w.heap.size ≤ i := fun i hi => hi.elim .inl (fun q => (hg1 i q).imp (HSUB.out i) id)
    have hf01 : Fr F w w1 := hf1.mono HSUB.out
    have HSQ := hid hsq
    have HG1 := hid hg01
    have HF1 := hid hf01
    clear hk' hx1 hq hqt hsq hg1 hf1 HC HST hg01 hf01
    go_wp2_with fail
    refine HCQ.out.mono ?_
    rintro e w2 ⟨rfl, ⟨FQ', hq', hg2⟩, hf2⟩
    have hx2 := HQT.out w2 FQ' _ hq' (HQOK.out.backout n) hg2 hf2
    have hf02 : Fr F w w2 := HF1.out.trans hf2 (fun i hi => HG1.out i (HSQ.out i hi))
    have hg02 : ∀ i, ((F i ∨ FK' i) ∨ FQ' i) → F i ∨ w.heap.size ≤ i := fun i hi => hi.elim (HG1.out i) (fun q => (hg2 i q).elim (fun r => HG1.out i (HSQ.out i r)) (fun r => .inr (Nat.le_trans HF1.out.size r)))
    obtain ⟨m0, c0, w3, hr3, hx3, hf3⟩ := hx2.del0 n
    have hf03 := hf02.trans hf3 hg02
    obtain ⟨m1, c1, w4, hr4, hx4, hf4⟩ := hx3.del1 n
    have hf04 := hf03.trans hf4 hg02
    have hxr : RAt (fun i => (F i ∨ FK' i) ∨ FQ' i) w4 b ⟨(s.k.backout n).2, (s.q.backout n).2⟩ := hx4.marks (fun m => by show _ = prepd m (s.k.backout n).2.ws; rw [kback_ws hn]; exact prepd_adel.symm) (fun m => by show _ = prepd m (s.q.backout n).2.ws; rw [qback_ws hn]; exact prepd_adel.symm)
    have HX := hid hxr
    have HG := hid hg02
    have HF4 := hid hf04
    clear hq' hx2 hg2 hf2 hx3 hx4 hf3 hf4 hf02 hf03 hf04 hg02 hxr HCQ HQT
    go_wp2_with fail
    go_ret
    rw [HM.out]
    exact ⟨rfl, ⟨_, HX.out, HG.out⟩, HF4.out⟩
  · have HM := hid (show s.backout n = _ from by unfold RM.backout; rw [if_neg (by rw [he]; decide)])
    have hqok := H.out.qok
    have HQOK := hid hqok
    obtain ⟨FK, Pz, hsub, hk, hst⟩ := H.out.kv
    have HC := hid (K.backout_any hk n)
    have HST := hid hst
    have HSUB := hid hsub
    clear hk hst hqok hsub
    rw [he] at HF
    clear he hp0 hp1
    go_enter Try.func48, Try.ntmps48
    go_wp2_with fail
    refine HF.out.mono ?_
    rintro e w1 ⟨rfl, rfl⟩
    go_wp2_with fail
    refine HC.out.mono ?_
    rintro e w1 ⟨rfl, ⟨FK', hk', hg1⟩, hf1⟩
    have hx1 := HST.out w1 FK' _ hk' hg1 hf1
    obtain ⟨FQ, Z, hsq, hq, hqt⟩ := hx1.qu
    have HCQ := hid (Q.backout_any hq HQOK.out.bd n)
    have HQT := hid hqt
    have hg01 : ∀ i, (F i ∨ FK' i) → F i ∨ w.heap.size ≤ i := fun i hi => hi.elim .inl (fun q => (hg1 i q).imp (HSUB.out i) id)
    have hf01 : Fr F w w1 := hf1.mono HSUB.out
    have HSQ := hid hsq
    have HG1 := hid hg01
    have HF1 := hid hf01
    clear hk' hx1 hq hqt hsq hg1 hf1 HC HST hg01 hf01
    go_wp2_with fail
    refine HCQ.out.mono ?_
    rintro e w2 ⟨rfl, ⟨FQ', hq', hg2⟩, hf2⟩
    have hx2 := HQT.out w2 FQ' _ hq' (HQOK.out.backout n) hg2 hf2
    have hf02 : Fr F w w2 := HF1.out.trans hf2 (fun i hi => HG1.out i (HSQ.out i hi))
    have hg02 : ∀ i, ((F i ∨ FK' i) ∨ FQ' i) → F i ∨ w.heap.size ≤ i := fun i hi => hi.elim (HG1.out i) (fun q => (hg2 i q).elim (fun r => HG1.out i (HSQ.out i r)) (fun r => .inr (Nat.le_trans HF1.out.size r)))
    obtain ⟨m0, c0, w3, hr3, hx3, hf3⟩ := hx2.del0 n
    have hf03 := hf02.trans hf3 hg02
    obtain ⟨m1, c1, w4, hr4, hx4, hf4⟩ := hx3.del1 n
    have hf04 := hf03.trans hf4 hg02
    have hxr : RAt (fun i => (F i ∨ FK' i) ∨ FQ' i) w4 b ⟨(s.k.backout n).2, (s.q.backout n).2⟩ := hx4.marks (fun m => by show _ = prepd m (s.k.backout n).2.ws; rw [kback_ws hn]; exact prepd_adel.symm) (fun m => by show _ = prepd m (s.q.backout n).2.ws; rw [qback_ws hn]; exact prepd_adel.symm)
    have HX := hid hxr
    have HG := hid hg02
    have HF4 := hid hf04
    clear hq' hx2 hg2 hf2 hx3 hx4 hf3 hf4 hf02 hf03 hf04 hg02 hxr HCQ HQT
    go_wp2_with fail
    go_ret
    rw [HM.out]
    exact ⟨rfl, ⟨_, HX.out, HG.out⟩, HF4.out⟩
theorem commit_any (h : RAt F w b s) (n : Int) :
    Calls Try.prog 25 #[.pointer (some ⟨b, 0, none⟩), .int .i64 n] w (RPost F w b (.int .i64 (s.commit n).1) (s.commit n).2) := by
  have HC := hid (decide_commit h n)
  clear h
  go_enter Try.func25, Try.ntmps25
  go_wp2_with fail
  refine HC.out.mono ?_
  rintro e w1 ⟨rfl, hfin⟩
  go_wp2_with fail
  go_ret
  exact ⟨rfl, hfin⟩
theorem backout_any (h : RAt F w b s) (n : Int) :
    Calls Try.prog 24 #[.pointer (some ⟨b, 0, none⟩), .int .i64 n] w (RPost F w b (.int .i64 (s.backout n).1) (s.backout n).2) := by
  have HC := hid (decide_backout h n)
  clear h
  go_enter Try.func24, Try.ntmps24
  go_wp2_with fail
  refine HC.out.mono ?_
  rintro e w1 ⟨rfl, hfin⟩
  go_wp2_with fail
  go_ret
  exact ⟨rfl, hfin⟩
end
end Go.Proofs.Ytdejbinmnoabeaa

/- Texts of this seat, put together: RzE, RyK, Qx0. -/
import Derived.Test.YtdejbinmnoabeaaBd11
import Derived.Test.YtdejbinmnoabeaaProg
import Derived.Below
import Derived.Deep.Draws
import Derived.Deep.AppendLies
import Derived.Maps.AppendAt
import Derived.OwnWalk
import Derived.Laws.BytesArg
import Derived.Laws.MakeOwn
import Derived.Laws.OwnMore
import Derived.Deep.OwnRows
import Derived.Tactics
import Derived.Lib.ConvBytes
import Derived.Laws.Slices
import Derived.WalkKit
import Derived.KernelRfl
import Derived.RowKit3
import Derived.Deep.LoopGhost
import Derived.Deep.QuietTactic
import Derived.BigQuiet
import Derived.WideLaws
import Derived.Deep.DeepCutAuto
import Derived.Deep.CutBlock
import Derived.Deep.RegionHeld3
import Derived.Laws.Rows
import Derived.Lib.AppendStr
import Derived.ArgAppend
import Derived.Laws.IdiomCopy
import Derived.OrdersHeld
import Derived.Laws.BitsLemmas
import Derived.RowKit
import Derived.Test.YtdejbinmnoabeaaBd1
import Derived.Test.YtdejbinmnoabeaaBdW
import Derived.Laws.StructEq
namespace Go.Proofs.Ytdejbinmnoabeaa
open Go.RowKit Go.Mine Go.Proofs.YtdejbinmnoabeaaW.PrintWords
set_option linter.unusedVariables false
set_option linter.unusedSimpArgs false
theorem run_deleteO {w : World} {mo : Option Nat} {L : List (Int × Bool × Nat)} (h : MapO (Value.int .i64) Value.bool w mo L) (n : Int) :
    ∃ w', (Builtin.delete_ #[88, 3] 0 #[.map mo, .int .i64 n]).run Try.prog w = .ok (.tuple #[]) w' ∧ MapO (Value.int .i64) Value.bool w' mo (mdel n L) ∧ Fr (fun i => mo = some i) w w' ∧ w'.heap.size = w.heap.size := by
  cases mo with
  | none =>
    have hL : L = [] := h
    subst hL
    exact ⟨w, run_delete_nil Try.underlying88 K.key3 w n, rfl, Fr.refl _ _, rfl⟩
  | some c =>
    obtain ⟨cc, hm⟩ := h
    obtain ⟨w2, hrun, hm2, f2, s2⟩ := run_delete (P := Try.prog) (ty := 0) Try.underlying88 K.key3 hm n
    exact ⟨w2, hrun, ⟨cc, hm2⟩, f2.mono (fun i hi => by rw [hi]), s2⟩
section
variable {F : Nat → Prop} {w : World} {b : Nat} {k : KS} {q : QS} {f0 f1 : Int → Bool} {s : RM}
theorem RX.del0 (h : RX F w b k q f0 f1) (n : Int) : ∃ mo, w.cell? ⟨b, 37, none⟩ = some (.map mo) ∧ ∃ w', (Builtin.delete_ #[88, 3] 0 #[.map mo, .int .i64 n]).run Try.prog w = .ok (.tuple #[]) w' ∧ RX F w' b k q (fun m => f0 m && !(m == n)) f1 ∧ Fr F w w' := by
  obtain ⟨FK, FQ, I, L, mo, lo, J, iv, qv, m0, m1, L0, L1, h, h0, h1⟩ := h
  obtain ⟨w', hrun, hm, hf, hs⟩ := run_deleteO h.a0 n
  refine ⟨m0, by rw [cell_of_row w b 37 _ _ _ h.kr.blk]; exact sc37 h.kr.lv h.kr.lth, w', hrun, ?_, hf.mono (fun i hi => (h.z0 i hi).1)⟩
  have hb := hf.at_ h.kr.blk (fun q => (h.z0 b q).2.1 h.kr.b)
  have hr := h.map0 (hf.mono (fun i hi => .inr hi)) hb hm (.inl rfl)
  have e : (fun i => F i ∨ m0 = some i) = F := by
    funext i
    exact propext ⟨fun q => q.elim id (fun q => (h.z0 i q).1), .inl⟩
  rw [e] at hr
  exact ⟨FK, FQ, I, L, mo, lo, J, iv, qv, m0, m1, _, _, hr, fun m => by rw [mget_del, h0], h1⟩
theorem RX.del1 (h : RX F w b k q f0 f1) (n : Int) : ∃ mo, w.cell? ⟨b, 38, none⟩ = some (.map mo) ∧ ∃ w', (Builtin.delete_ #[88, 3] 0 #[.map mo, .int .i64 n]).run Try.prog w = .ok (.tuple #[]) w' ∧ RX F w' b k q f0 (fun m => f1 m && !(m == n)) ∧ Fr F w w' := by
  obtain ⟨FK, FQ, I, L, mo, lo, J, iv, qv, m0, m1, L0, L1, h, h0, h1⟩ := h
  obtain ⟨w', hrun, hm, hf, hs⟩ := run_deleteO h.a1 n
  refine ⟨m1, by rw [cell_of_row w b 38 _ _ _ h.kr.blk]; exact sc38 h.kr.lv h.kr.lth, w', hrun, ?_, hf.mono (fun i hi => (h.z1 i hi).1)⟩
  have hb := hf.at_ h.kr.blk (fun q => (h.z1 b q).2.1 h.kr.b)
  have hr := h.map1 (hf.mono (fun i hi => .inr hi)) hb hm (.inl rfl)
  have e : (fun i => F i ∨ m1 = some i) = F := by
    funext i
    exact propext ⟨fun q => q.elim id (fun q => (h.z1 i q).1), .inl⟩
  rw [e] at hr
  exact ⟨FK, FQ, I, L, mo, lo, J, iv, qv, m0, m1, _, _, hr, h0, fun m => by rw [mget_del, h1]⟩
set_option maxRecDepth 100000 in
set_option maxHeartbeats 4000000 in
theorem decide_commit (h : RAt F w b s) (n : Int) :
    Calls Try.prog 48 #[.pointer (some ⟨b, 0, none⟩), .int .i64 n, .bool true] w (RPost F w b (.int .i64 (s.commit n).1) (s.commit n).2) := by
  have HF := hid (fit_any h n)
  have H := hid h
  clear h
  rcases s.fit_cases n with ⟨hn, he⟩ | ⟨hn, he, hp⟩ | ⟨hn, he, hp0, hp1⟩
  · have HM := hid (show s.commit n = (1, s) from by unfold RM.commit; rw [if_pos he])
    rw [he] at HF
    go_enter Try.func48, Try.ntmps48
    go_wp2_with fail
    refine HF.out.mono ?_
    rintro e w1 ⟨rfl, rfl⟩
    go_wp2_with fail
    go_ret
    rw [HM.out]
    exact RPost.same H.out _
  · have HM := hid (show s.commit n = _ from by unfold RM.commit; rw [if_neg (by rw [he]; decide)])
    have hqok := H.out.qok
    have HQOK := hid hqok
    obtain ⟨FK, Pz, hsub, hk, hst⟩ := H.out.kv
    have HC := hid (K.commit_any hk n)
    have HST := hid hst
    have HSUB := hid hsub
    clear hk hst hqok hsub
    rw [he] at HF
    clear he hp
    go_enter Try.func48, Try.ntmps48
    go_wp2_with fail
    refine HF.out.mono ?_
    rintro e w1 ⟨rfl, rfl⟩
    go_wp2_with fail
    refine HC.out.mono ?_
    rintro e w1 ⟨rfl, ⟨FK', hk', hg1⟩, hf1⟩
    have hx1 := HST.out w1 FK' _ hk' hg1 hf1
    obtain ⟨FQ, Z, hsq, hq, hqt⟩ := hx1.qu
    have HCQ := hid (Q.commit_any hq HQOK.out.bd n)
    have HQT := hid hqt
    have hg01 : ∀ i, (F i ∨ FK' i) → F i ∨ w.heap.size ≤ i := fun i hi => hi.elim .inl (fun q => (hg1 i q).imp (HSUB.out i) id)
    have hf01 : Fr F w w1 := hf1.mono HSUB.out
    have HSQ := hid hsq
    have HG1 := hid hg01
    have HF1 := hid hf01
    clear hk' hx1 hq hqt hsq hg1 hf1 HC HST hg01 hf01
    go_wp2_with fail
    refine HCQ.out.mono ?_
    rintro e w2 ⟨rfl, ⟨FQ', hq', hg2⟩, hf2⟩
    have hx2 := HQT.out w2 FQ' _ hq' (HQOK.out.commit n) hg2 hf2
    have hf02 : Fr F w w2 := HF1.out.trans hf2 (fun i hi => HG1.out i (HSQ.out i hi))
    have hg02 : ∀ i, ((F i ∨ FK' i) ∨ FQ' i) → F i ∨ w.heap.size ≤ i := fun i hi => hi.elim (HG1.out i) (fun q => (hg2 i q).elim (fun r => HG1.out i (HSQ.out i r)) (fun r => .inr (Nat.le_trans HF1.out.size r)))
    obtain ⟨m0, c0, w3, hr3, hx3, hf3⟩ := hx2.del0 n
    have hf03 := hf02.trans hf3 hg02
    obtain ⟨m1, c1, w4, hr4, hx4, hf4⟩ := hx3.del1 n
    have hf04 := hf03.trans hf4 hg02
    have hxr : RAt (fun i => (F i ∨ FK' i) ∨ FQ' i) w4 b ⟨(s.k.commit n).2, (s.q.commit n).2⟩ := hx4.marks (fun m => by show _ = prepd m (s.k.commit n).2.ws; rw [kcommit_ws hn]; exact prepd_adel.symm) (fun m => by show _ = prepd m (s.q.commit n).2.ws; rw [qcommit_ws hn]; exact prepd_adel.symm)
    have HX := hid hxr
    have HG := hid hg02
    have HF4 := hid hf04
    clear hq' hx2 hg2 hf2 hx3 hx4 hf3 hf4 hf02 hf03 hf04 hg02 hxr HCQ HQT
    go_wp2_with fail
    go_ret
    rw [HM.out]
    exact ⟨rfl, ⟨_, HX.out, HG.out⟩, HF4.out⟩
  · have HM := hid (show s.commit n = _ from by unfold RM.commit; rw [if_neg (by rw [he]; decide)])
    have hqok := H.out.qok
    have HQOK := hid hqok
    obtain ⟨FK, Pz, hsub, hk, hst⟩ := H.out.kv
    have HC := hid (K.commit_any hk n)
    have HST := hid hst
    have HSUB := hid hsub
    clear hk hst hqok hsub
    rw [he] at HF
    clear he hp0 hp1
    go_enter Try.func48, Try.ntmps48
    go_wp2_with fail
    refine HF.out.mono ?_
    rintro e w1 ⟨rfl, rfl⟩
    go_wp2_with fail
    refine HC.out.mono ?_
    rintro e w1 ⟨rfl, ⟨FK', hk', hg1⟩, hf1⟩
    have hx1 := HST.out w1 FK' _ hk' hg1 hf1
    obtain ⟨FQ, Z, hsq, hq, hqt⟩ := hx1.qu
    have HCQ := hid (Q.commit_any hq HQOK.out.bd n)
    have HQT := hid hqt
    have hg01 : ∀ i, (F i ∨ FK' i) → F i ∨ w.heap.size ≤ i := fun i hi => hi.elim .inl (fun q => (hg1 i q).imp (HSUB.out i) id)
    have hf01 : Fr F w w1 := hf1.mono HSUB.out
    have HSQ := hid hsq
    have HG1 := hid hg01
    have HF1 := hid hf01
    clear hk' hx1 hq hqt hsq hg1 hf1 HC HST hg01 hf01
    go_wp2_with fail
    refine HCQ.out.mono ?_
    rintro e w2 ⟨rfl, ⟨FQ', hq', hg2⟩, hf2⟩
    have hx2 := HQT.out w2 FQ' _ hq' (HQOK.out.commit n) hg2 hf2
    have hf02 : Fr F w w2 := HF1.out.trans hf2 (fun i hi => HG1.out i (HSQ.out i hi))
    have hg02 : ∀ i, ((F i ∨ FK' i) ∨ FQ' i) → F i ∨ w.heap.size ≤ i := fun i hi => hi.elim (HG1.out i) (fun q => (hg2 i q).elim (fun r => HG1.out i (HSQ.out i r)) (fun r => .inr (Nat.le_trans HF1.out.size r)))
    obtain ⟨m0, c0, w3, hr3, hx3, hf3⟩ := hx2.del0 n
    have hf03 := hf02.trans hf3 hg02
    obtain ⟨m1, c1, w4, hr4, hx4, hf4⟩ := hx3.del1 n
    have hf04 := hf03.trans hf4 hg02
    have hxr : RAt (fun i => (F i ∨ FK' i) ∨ FQ' i) w4 b ⟨(s.k.commit n).2, (s.q.commit n).2⟩ := hx4.marks (fun m => by show _ = prepd m (s.k.commit n).2.ws; rw [kcommit_ws hn]; exact prepd_adel.symm) (fun m => by show _ = prepd m (s.q.commit n).2.ws; rw [qcommit_ws hn]; exact prepd_adel.symm)
    have HX := hid hxr
    have HG := hid hg02
    have HF4 := hid hf04
    clear hq' hx2 hg2 hf2 hx3 hx4 hf3 hf4 hf02 hf03 hf04 hg02 hxr HCQ HQT
    go_wp2_with fail
    go_ret
    rw [HM.out]
    exact ⟨rfl, ⟨_, HX.out, HG.out⟩, HF4.out⟩
set_option maxRecDepth 100000 in
set_option maxHeartbeats 4000000 in
theorem decide_backout (h : RAt F w b s) (n : Int) :
    Calls Try.prog 48 #[.pointer (some ⟨b, 0, none⟩), .int .i64 n, .bool false] w (RPost F w b (.int .i64 (s.backout n).1) (s.backout n).2) := by
  have HF := hid (fit_any h n)
  have H := hid h
  clear h
  rcases s.fit_cases n with ⟨hn, he⟩ | ⟨hn, he, hp⟩ | ⟨hn, he, hp0, hp1⟩
  · have HM := hid (show s.backout n = (1, s) from by unfold RM.backout; rw [if_pos he])
    rw [he] at HF
    go_enter Try.func48, Try.ntmps48
    go_wp2_with fail
    refine HF.out.mono ?_
    rintro e w1 ⟨rfl, rfl⟩
    go_wp2_with fail
    go_ret
    rw [HM.out]
    exact RPost.same H.out _
  · have HM := hid (show s.backout n = _ from by unfold RM.backout; rw [if_neg (by rw [he]; decide)])
    have hqok := H.out.qok
    have HQOK := hid hqok
    obtain ⟨FK, Pz, hsub, hk, hst⟩ := H.out.kv
    have HC := hid (K.backout_any hk n)
    have HST := hid hst
    have HSUB := hid hsub
    clear hk hst hqok hsub
    rw [he] at HF
    clear he hp
    go_enter Try.func48, Try.ntmps48
    go_wp2_with fail
    refine HF.out.mono ?_
    rintro e w1 ⟨rfl, rfl⟩
    go_wp2_with fail
    refine HC.out.mono ?_
    rintro e w1 ⟨rfl, ⟨FK', hk', hg1⟩, hf1⟩
    have hx1 := HST.out w1 FK' _ hk' hg1 hf1
    obtain ⟨FQ, Z, hsq, hq, hqt⟩ := hx1.qu
    have HCQ := hid (Q.backout_any hq HQOK.out.bd n)
    have HQT := hid hqt
    have hg01 : ∀ i, (F i ∨ FK' i) → F i ∨ w.heap.size ≤ i := fun i hi => hi.elim .inl (fun q => (hg1 i q).imp (HSUB.out i) id)
    have hf01 : Fr F w w1 := hf1.mono HSUB.out
    have HSQ := hid hsq
    have HG1 := hid hg01
    have HF1 := hid hf01
    clear hk' hx1 hq hqt hsq hg1 hf1 HC HST hg01 hf01
    go_wp2_with fail
    refine HCQ.out.mono ?_
    rintro e w2 ⟨rfl, ⟨FQ', hq', hg2⟩, hf2⟩
    have hx2 := HQT.out w2 FQ' _ hq' (HQOK.out.backout n) hg2 hf2
    have hf02 : Fr F w w2 := HF1.out.trans hf2 (fun i hi => HG1.out i (HSQ.out i hi))
    have hg02 : ∀ i, ((F i ∨ FK' i) ∨ FQ' i) → F i ∨ w.heap.size ≤ i := fun i hi => hi.elim (HG1.out i) (fun q => (hg2 i q).elim (fun r => HG1.out i (HSQ.out i r)) (fun r => .inr (Nat.le_trans HF1.out.size r)))
    obtain ⟨m0, c0, w3, hr3, hx3, hf3⟩ := hx2.del0 n
    have hf03 := hf02.trans hf3 hg02
    obtain ⟨m1, c1, w4, hr4, hx4, hf4⟩ := hx3.del1 n
    have hf04 := hf03.trans hf4 hg02
    have hxr : RAt (fun i => (F i ∨ FK' i) ∨ FQ' i) w4 b ⟨(s.k.backout n).2, (s.q.backout n).2⟩ := hx4.marks (fun m => by show _ = prepd m (s.k.backout n).2.ws; rw [kback_ws hn]; exact prepd_adel.symm) (fun m => by show _ = prepd m (s.q.backout n).2.ws; rw [qback_ws hn]; exact prepd_adel.symm)
    have HX := hid hxr
    have HG := hid hg02
    have HF4 := hid hf04
    clear hq' hx2 hg2 hf2 hx3 hx4 hf3 hf4 hf02 hf03 hf04 hg02 hxr HCQ HQT
    go_wp2_with fail
    go_ret
    rw [HM.out]
    exact ⟨rfl, ⟨_, HX.out, HG.out⟩, HF4.out⟩
  · have HM := hid (show s.backout n = _ from by unfold RM.backout; rw [if_neg (by rw [he]; decide)])
    have hqok := H.out.qok
    have HQOK := hid hqok
    obtain ⟨FK, Pz, hsub, hk, hst⟩ := H.out.kv
    have HC := hid (K.backout_any hk n)
    have HST := hid hst
    have HSUB := hid hsub
    clear hk hst hqok hsub
    rw [he] at HF
    clear he hp0 hp1
    go_enter Try.func48, Try.ntmps48
    go_wp2_with fail
    refine HF.out.mono ?_
    rintro e w1 ⟨rfl, rfl⟩
    go_wp2_with fail
    refine HC.out.mono ?_
    rintro e w1 ⟨rfl, ⟨FK', hk', hg1⟩, hf1⟩
    have hx1 := HST.out w1 FK' _ hk' hg1 hf1
    obtain ⟨FQ, Z, hsq, hq, hqt⟩ := hx1.qu
    have HCQ := hid (Q.backout_any hq HQOK.out.bd n)
    have HQT := hid hqt
    have hg01 : ∀ i, (F i ∨ FK' i) → F i ∨ w.heap.size ≤ i := fun i hi => hi.elim .inl (fun q => (hg1 i q).imp (HSUB.out i) id)
    have hf01 : Fr F w w1 := hf1.mono HSUB.out
    have HSQ := hid hsq
    have HG1 := hid hg01
    have HF1 := hid hf01
    clear hk' hx1 hq hqt hsq hg1 hf1 HC HST hg01 hf01
    go_wp2_with fail
    refine HCQ.out.mono ?_
    rintro e w2 ⟨rfl, ⟨FQ', hq', hg2⟩, hf2⟩
    have hx2 := HQT.out w2 FQ' _ hq' (HQOK.out.backout n) hg2 hf2
    have hf02 : Fr F w w2 := HF1.out.trans hf2 (fun i hi => HG1.out i (HSQ.out i hi))
    have hg02 : ∀ i, ((F i ∨ FK' i) ∨ FQ' i) → F i ∨ w.heap.size ≤ i := fun i hi => hi.elim (HG1.out i) (fun q => (hg2 i q).elim (fun r => HG1.out i (HSQ.out i r)) (fun r => .inr (Nat.le_trans HF1.out.size r)))
    obtain ⟨m0, c0, w3, hr3, hx3, hf3⟩ := hx2.del0 n
    have hf03 := hf02.trans hf3 hg02
    obtain ⟨m1, c1, w4, hr4, hx4, hf4⟩ := hx3.del1 n
    have hf04 := hf03.trans hf4 hg02
    have hxr : RAt (fun i => (F i ∨ FK' i) ∨ FQ' i) w4 b ⟨(s.k.backout n).2, (s.q.backout n).2⟩ := hx4.marks (fun m => by show _ = prepd m (s.k.backout n).2.ws; rw [kback_ws hn]; exact prepd_adel.symm) (fun m => by show _ = prepd m (s.q.backout n).2.ws; rw [qback_ws hn]; exact prepd_adel.symm)
    have HX := hid hxr
    have HG := hid hg02
    have HF4 := hid hf04
    clear hq' hx2 hg2 hf2 hx3 hx4 hf3 hf4 hf02 hf03 hf04 hg02 hxr HCQ HQT
    go_wp2_with fail
    go_ret
    rw [HM.out]
    exact ⟨rfl, ⟨_, HX.out, HG.out⟩, HF4.out⟩
theorem commit_any (h : RAt F w b s) (n : Int) :
    Calls Try.prog 25 #[.pointer (some ⟨b, 0, none⟩), .int .i64 n] w (RPost F w b (.int .i64 (s.commit n).1) (s.commit n).2) := by
  have HC := hid (decide_commit h n)
  clear h
  go_enter Try.func25, Try.ntmps25
  go_wp2_with fail
  refine HC.out.mono ?_
  rintro e w1 ⟨rfl, hfin⟩
  go_wp2_with fail
  go_ret
  exact ⟨rfl, hfin⟩
theorem backout_any (h : RAt F w b s) (n : Int) :
    Calls Try.prog 24 #[.pointer (some ⟨b, 0, none⟩), .int .i64 n] w (RPost F w b (.int .i64 (s.backout n).1) (s.backout n).2) := by
  have HC := hid (decide_backout h n)
  clear h
  go_enter Try.func24, Try.ntmps24
  go_wp2_with fail
  refine HC.out.mono ?_
  rintro e w1 ⟨rfl, hfin⟩
  go_wp2_with fail
  go_ret
  exact ⟨rfl, hfin⟩
end
end Go.Proofs.Ytdejbinmnoabeaa
namespace Go.Proofs.Ytdejbinmnoabeaa
open Go.RowKit Go.Mine Go.Proofs.YtdejbinmnoabeaaW.PrintWords
set_option linter.unusedVariables false
set_option linter.unusedSimpArgs false
theorem read_one (A : Option Addr) (c : Nat) (w : World) : Calls Try.prog 11 #[.slice A 1 c] w fun e w' => e = .returned (.tuple #[.slice none 0 0, .int .i64 11]) ∧ w = w' := by
  go_enter Try.func11, Try.ntmps11
  go_wp2_with fail
  go_ret2
  exact ⟨rfl, rfl⟩
set_option maxRecDepth 100000 in
set_option maxHeartbeats 4000000 in
theorem alive_any (w : World) : Calls Try.prog 8 #[] w fun e w' => e = .returned (.bool true) ∧ Below w.heap.size w w' := by
  obtain ⟨s1, hs1⟩ : ∃ s1, s1 = (RM.new.change 1 ⟨1, 3, 9⟩).2 := ⟨_, rfl⟩
  obtain ⟨s2, hs2⟩ : ∃ s2, s2 = (s1.push 1 7).2 := ⟨_, rfl⟩
  obtain ⟨s3, hs3⟩ : ∃ s3, s3 = (s2.prepare 1).2 := ⟨_, rfl⟩
  have e2 : (s2.prepare 1).1 = ([⟨1, 3, 9⟩, ⟨3, 0, 7⟩], 0) := by rw [hs2, hs1]; kernel_rfl
  have e3 : (s3.push 1 8).1 = 7 := by rw [hs3, hs2, hs1]; kernel_rfl
  have h0 := new_rat w
  have C1 := hid (put_any h0 1 3 9)
  have hb0 : Below w.heap.size w (w.alloc (.cells nilRes 91)) := (Below.refl _ _).alloc (Nat.le_refl _) _
  rw [← hs1] at C1
  have HB0 := hid hb0
  have HS2 := hid hs2
  have HS3 := hid hs3
  have E2 := hid e2
  have E3 := hid e3
  clear h0 hb0 hs1 hs2 hs3 e2 e3
  go_enter Try.func8, Try.ntmps8
  go_wp2_with fail
  refine (new_any w).mono ?_
  rintro e w1 ⟨rfl, rfl⟩
  go_wp2_with fail
  refine C1.out.mono ?_
  rintro e w2 ⟨rfl, ⟨F2, h2, g2⟩, f2⟩
  have C2 := hid (push_any h2 1 7)
  rw [← HS2.out] at C2
  have hg2 : ∀ i, F2 i → w.heap.size ≤ i := fun i hi => (g2 i hi).elim (fun q => Nat.le_of_eq q.symm) (fun q => Nat.le_trans HB0.out.size q)
  have hb2 : Below w.heap.size w w2 := HB0.out.trans (f2.below HB0.out.size (fun k hk q => by omega))
  have HG2 := hid hg2
  have HB2 := hid hb2
  clear C1 h2 g2 f2 hg2 hb2 HB0
  go_wp2_with fail
  refine C2.out.mono ?_
  rintro e w3 ⟨rfl, ⟨F3, h3, g3⟩, f3⟩
  have C3 := hid (prepare_any h3 1)
  have hg3 : ∀ i, F3 i → w.heap.size ≤ i := fun i hi => (g3 i hi).elim (HG2.out i) (fun q => Nat.le_trans HB2.out.size q)
  have hb3 : Below w.heap.size w w3 := HB2.out.trans (f3.below HB2.out.size (fun k hk q => by have := HG2.out k q; omega))
  have HG3 := hid hg3
  have HB3 := hid hb3
  clear C2 h3 g3 f3 hg3 hb3 HG2 HB2
  go_wp2_with fail
  refine C3.out.mono ?_
  rintro e w4 ⟨A4, c4, rfl, ⟨F4, h4, g4, o4⟩, u4, hc4, f4⟩
  have hg4 : ∀ i, F4 i → w.heap.size ≤ i := fun i hi => (g4 i hi).elim (HG3.out i) (fun q => Nat.le_trans HB3.out.size q)
  have hb4 : Below w.heap.size w w4 := HB3.out.trans (f4.below HB3.out.size (fun k hk q => by have := HG3.out k q; omega))
  rw [← HS3.out] at h4
  have C4 := hid (push_any h4 1 8)
  rw [E2.out] at u4 hc4 ⊢
  rw [E3.out] at C4
  have HG4 := hid hg4
  have HB4 := hid hb4
  have HU4 := hid u4
  have HO4 := hid o4
  clear C3 h4 g4 f4 hg4 hb4 HG3 HB3 u4 o4
  go_wp2_with fail
  refine C4.out.mono ?_
  rintro e w5 ⟨rfl, ⟨F5, h5, g5⟩, f5⟩
  have hb5 : Below w.heap.size w w5 := HB4.out.trans (f5.below HB4.out.size (fun k hk q => by have := HG4.out k q; omega))
  have hu5 : ChAt w5 w5.heap.size A4 [⟨1, 3, 9⟩, ⟨3, 0, 7⟩] := row_fr HU4.out f5 (fun k off e => (HO4.out k off e).2)
  have hb6 : Below w5.heap.size w5 (w5.alloc (.cells #[.int .u8 1] 5)) := (Below.refl _ _).alloc (Nat.le_refl _) _
  have hu6 := (Q.RowAt.below hu5 hb6)
  have HB6 := hid (hb5.trans (hb6.mono hb5.size))
  obtain ⟨b4, off4, rfl, hlt4, hcc⟩ := hu6 0 _ rfl
  obtain ⟨b4', off4', e4, hlt4', hcc2⟩ := hu6 1 _ rfl
  cases e4
  have HK := hid hcc
  have HK2 := hid hcc2
  clear C4 h5 g5 f5 hb5 hu5 hb6 hu6 HU4 HO4 HB4 HG4 hcc hcc2 hlt4'
  go_wp2_with fail
  generalize (w5.alloc (.cells #[.int .u8 1] 5)) = w6 at *
  refine (read_one _ _ _).mono ?_
  rintro e w7 ⟨rfl, rfl⟩
  have k0 : w6.cell? ⟨b4, off4, none⟩ = some (.int .i64 1) := HK.out 0 _ rfl
  have k1 : w6.cell? ⟨b4, off4 + 1, none⟩ = some (.int .i64 3) := HK.out 1 _ rfl
  have k2 : w6.cell? ⟨b4, off4 + 2, none⟩ = some (.int .u64 9) := HK.out 2 _ rfl
  have k3 : w6.cell? ⟨b4, off4 + 3, none⟩ = some (.int .i64 3) := HK2.out 0 _ rfl
  have k4 : w6.cell? ⟨b4, off4 + 4, none⟩ = some (.int .i64 0) := HK2.out 1 _ rfl
  have k5 : w6.cell? ⟨b4, off4 + 5, none⟩ = some (.int .u64 7) := HK2.out 2 _ rfl
  go_wp2_with fail
  go_ret
  exact ⟨rfl, HB6.out⟩
end Go.Proofs.Ytdejbinmnoabeaa
namespace Go.Proofs.Ytdejbinmnoabeaa.P
open Go.RowKit Go.Proofs.YtdejbinmnoabeaaW.PrintWords Go.Proofs.YtdejbinmnoabeaaW.PrintLast Go.Proofs.YtdejbinmnoabeaaW.PrintMore
attribute [local go_sem] max2_int min2_int max_two min_two max_three min_three max_four min_four   
set_option linter.unusedVariables false
set_option linter.unusedSimpArgs false
def errW : Option Int → Value
  | none => .nilIface
  | some c => .iface 0 (.int .i64 c)
theorem errW_none : errW none = .nilIface := rfl
theorem errW_some (c : Int) : errW (some c) = .iface 0 (.int .i64 c) := rfl
theorem info5 : (Try.prog.info? 5).map (fun i => (i.zero, i.size, i.bytes)) = some (some (.int .u8 0), 1, 1) := by kernel_rfl
theorem info62 : (Try.prog.info? 62).map (fun i => (i.zero, i.size, i.bytes)) = some (some (.agg #[(.int .i64 0), (.int .i64 0), (.int .u64 0)]), 3, 24) := by kernel_rfl
structure S62 where
  f0 : Int
  f1 : Int
  f2 : Int
def z62 : S62 := ⟨(0 : Int), (0 : Int), (0 : Int)⟩
def k62 : Kd S62 := Kd.iso (Kd.pair (Kd.int .i64) (Kd.pair (Kd.int .i64) (Kd.int .u64))) (fun x : S62 => (x.f0, x.f1, x.f2))
theorem k62_open {w : World} {x : S62} {cs : List Value} (h : k62.K w x cs) : cs = [.int .i64 x.f0, .int .i64 x.f1, .int .u64 x.f2] := by
  obtain ⟨_, _, rfl, rfl, ⟨_, _, rfl, rfl, rfl⟩⟩ := h
  exact rfl
theorem k62_mk (w : World) (x : S62)  : k62.K w x [.int .i64 x.f0, .int .i64 x.f1, .int .u64 x.f2] := ⟨[.int .i64 x.f0], [.int .i64 x.f1, .int .u64 x.f2], rfl, rfl, ⟨[.int .i64 x.f1], [.int .u64 x.f2], rfl, rfl, rfl⟩⟩
theorem k62_mkM (w : World) (base : Nat) (ok : Nat → Prop) (x : S62)  : k62.M w base ok x [.int .i64 x.f0, .int .i64 x.f1, .int .u64 x.f2] := ⟨[.int .i64 x.f0], [.int .i64 x.f1, .int .u64 x.f2], rfl, rfl, ⟨[.int .i64 x.f1], [.int .u64 x.f2], rfl, rfl, rfl⟩⟩
def rd_T62 (xs : List S62) (i : Int) : S62 := xs.getD i.toNat z62
theorem at_T62 {w : World} {A : Option Addr} {n : Nat} {xs : List S62} (h : Kd.C k62 w A n xs) (i : Int) (h0 : 0 ≤ i) (h1 : i < n) : ∃ ad , A = some ad ∧ w.cell? (ad.add (i.toNat * 3)) = some (.int .i64 (rd_T62 xs i).f0) ∧ w.cell? ⟨(ad.add (i.toNat * 3)).block, (ad.add (i.toNat * 3)).off + 1, none⟩ = some (.int .i64 (rd_T62 xs i).f1) ∧ w.cell? ⟨(ad.add (i.toNat * 3)).block, (ad.add (i.toNat * 3)).off + 2, none⟩ = some (.int .u64 (rd_T62 xs i).f2) := by
  obtain ⟨ad, c, e, _, hK, hc0⟩ := Kd.C_get h z62 i h0 h1
  have hc : ∀ j u, c[j]? = some u → w.cell? (ad.add (i.toNat * 3 + j)) = some u := hc0
  obtain rfl := k62_open hK
  exact ⟨ad, e, hc 0 _ rfl, by rw [← add_field _ _ 1 (by omega)]; exact hc 1 _ rfl, by rw [← add_field _ _ 2 (by omega)]; exact hc 2 _ rfl⟩
end Go.Proofs.Ytdejbinmnoabeaa.P

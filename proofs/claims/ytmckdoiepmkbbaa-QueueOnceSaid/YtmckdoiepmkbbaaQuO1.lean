/- Walk of trothlaw14.QueueOnce: it answers true. Condition: the list of calls came in. -/
import Derived.Test.YtmckdoiepmkbbaaQuZ
namespace Go.Mine
set_option linter.unusedVariables false
set_option linter.unusedSimpArgs false
theorem call_same {s : QS} {o : QOp} (h2 : o.kind ≠ 2) (h3 : o.kind ≠ 3) (h4 : o.kind ≤ 4) : (callQ s o).2.its.length = s.its.length ∧ (callQ s o).2.gv = s.gv := by
  unfold callQ
  split
  · unfold QS.put
    split
    · exact ⟨rfl, rfl⟩
    · split <;> exact ⟨rfl, rfl⟩
  · split
    · unfold QS.take
      split
      · exact ⟨rfl, rfl⟩
      · split
        · exact ⟨rfl, rfl⟩
        · split
          · exact ⟨rfl, rfl⟩
          · exact ⟨by simp, rfl⟩
    · split
      · unfold QS.backout
        split
        · exact ⟨rfl, rfl⟩
        · exact ⟨by simp, rfl⟩
      · rw [if_neg (show ¬ o.kind = 5 by omega), if_neg (show ¬ o.kind = 6 by omega)]
        exact ⟨rfl, rfl⟩
end Go.Mine
namespace Go.Proofs.Ytmckdoiepmkbbaa
open Go.RowKit Go.Mine Go.Proofs.YtmckdoiepmkbbaaW.PrintWords
set_option linter.unusedVariables false
set_option linter.unusedSimpArgs false
theorem prepare_stk {B : Nat} {w0 w : World} {b : Nat} {s : QS} (h : St B w0 b s) (hbe : Below w0.heap.size w0 w) (hb : s.Bd) (n : Int) {bx : Nat} (hx0 : w0.heap.size ≤ bx) (hx1 : bx < w.heap.size) : Calls Try.prog 19 #[.pointer (some ⟨b, 0, none⟩), .int .i64 n] w fun e w' => ∃ A c, e = .returned (.tuple #[.slice A (s.prepare n).1.1.length c, .int .i64 (s.prepare n).1.2]) ∧ StL B w' b (s.prepare n).2 A (s.prepare n).1.1 ∧ (s.prepare n).1.1.length ≤ c ∧ Below B w w' ∧ w'.heap[bx]? = w.heap[bx]? := by
  obtain ⟨⟨F, h1, h2⟩, h3⟩ := h
  have hlt := h1.fb
  have h4 := Nat.le_trans h3 hbe.size
  refine (prepare_any (h1.below hbe) hb n).mono ?_
  rintro e w' ⟨v, rfl, ⟨F', hk, hg, ho⟩, hr, hf⟩
  obtain ⟨A, c, rfl, hc, hat⟩ := hr.at_
  have := St.of h4 h2 hk hg hf
  exact ⟨A, c, rfl, ⟨⟨F', hk, fun i hi => (hg i hi).elim (h2 i) (fun q => Nat.le_trans h4 q), fun q b off e => (ho b (by rw [e]; rfl)).2⟩, hat, this.1.2⟩, hc, this.2, hf.block _ hx1 (fun q => by have := hlt bx q; omega)⟩
set_option maxRecDepth 100000 in
set_option maxHeartbeats 8000000 in
theorem once_any (A : Option Addr) (ops : List QOp) (c : Nat) (w : World) (hl : OpsAt w w.heap.size A ops) :
    Calls Try.prog 5 #[.slice A ops.length c] w fun e w' => e = .returned (.bool true) ∧ Below w.heap.size w w' := by
  go_enter Try.func5, Try.ntmps5
  go_wp2_with fail
  refine (new_st w).mono ?_
  rintro e w1 ⟨b, rfl, t1, f1⟩
  go_wp2_with fail
  go_loopg [4, 5, 6] 61 (fun m v4 v5 v6 wr => ∃ (i : Nat) (s : QS) (pt tk : Int), v4 = .int .i64 pt ∧ v5 = .int .i64 tk ∧ v6 = .int .i64 i ∧ i ≤ ops.length ∧ i ≤ 60 ∧ m = 61 - i ∧ s.Ok ∧ pt = s.gv ∧ tk = s.gv - s.its.length ∧ St w.heap.size wr b s ∧ Below w.heap.size w wr)
  case atStart => exact ⟨0, QS.new, 0, 0, rfl, rfl, rfl, Nat.zero_le _, Nat.zero_le _, rfl, QS.Ok.new, rfl, rfl, t1, f1⟩
  case round =>
    obtain ⟨i, s, pt, tk, rfl, rfl, rfl, hi1, hi2, hm, hok, hpt, htk, ht, hf⟩ := hrel
    have HN := hid hm
    have HOK := hid hok
    have HPT := hid hpt
    have HTK := hid htk
    have HT := hid ht
    have hg0 := hok.g0
    have hg1 := hok.g1
    have hsz := hok.sz
    have hpt0 : 0 ≤ pt := by omega
    have hpt1 : pt ≤ 4611686018427387904 := by omega
    have htk0 : 0 ≤ tk := by omega
    have htk1 : tk ≤ pt := by omega
    clear hm hok hpt htk ht
    by_cases h1 : i < ops.length
    · by_cases h2 : (i : Int) < 60
      · obtain ⟨x, hx⟩ : ∃ x, ops[i]? = some x := ⟨_, List.getElem?_eq_getElem h1⟩
        obtain ⟨b', off, rfl, hb, hc, hch⟩ := (hl.below hf) i x hx
        have k0 : wr.cell? ⟨b', off + i * 6, none⟩ = some (.int .i64 x.kind) := hc 0 _ rfl
        have k1 := hc 1 _ rfl
        have k2 := hc 2 _ rfl
        have k3 := hc 3 _ rfl
        have k4 : wr.cell? ⟨b', off + i * 6 + 4, none⟩ = some (.slice x.la x.l.length x.lc) := hc 4 _ rfl
        have k5 : wr.cell? ⟨b', off + i * 6 + 5, none⟩ = some (.slice x.va x.v.length x.vc) := hc 5 _ rfl
        have hba : Below w.heap.size w (wr.alloc (.cells #[.int .i64 x.kind, .int .i64 x.work, .int .i64 x.next, .int .u64 x.val, .slice x.la x.l.length x.lc, .slice x.va x.v.length x.vc] 46)) := hf.alloc hf.size _
        have hba2 : Below wr.heap.size wr (wr.alloc (.cells #[.int .i64 x.kind, .int .i64 x.work, .int .i64 x.next, .int .u64 x.val, .slice x.la x.l.length x.lc, .slice x.va x.v.length x.vc] 46)) := (Below.refl _ _).alloc (Nat.le_refl _) _
        have hx1 : (wr.alloc (.cells #[.int .i64 x.kind, .int .i64 x.work, .int .i64 x.next, .int .u64 x.val, .slice x.la x.l.length x.lc, .slice x.va x.v.length x.vc] 46)).heap[wr.heap.size]? = some (.cells #[.int .i64 x.kind, .int .i64 x.work, .int .i64 x.next, .int .u64 x.val, .slice x.la x.l.length x.lc, .slice x.va x.v.length x.vc] 46 (0, 0)) := (MapKept.heap_alloc wr _).1
        have HLG := hid (long_any x (wr.alloc (.cells #[.int .i64 x.kind, .int .i64 x.work, .int .i64 x.next, .int .u64 x.val, .slice x.la x.l.length x.lc, .slice x.va x.v.length x.vc] 46)))
        have HTA := hid (HT.out.below hba2)
        have HBA2 := hid hba2
        have HCH := hid (hch.below ((Below.refl _ _).alloc hf.size _ : Below w.heap.size wr (wr.alloc (.cells #[.int .i64 x.kind, .int .i64 x.work, .int .i64 x.next, .int .u64 x.val, .slice x.la x.l.length x.lc, .slice x.va x.v.length x.vc] 46))))
        have HBA := hid hba
        have HX1 := hid hx1
        clear hc hx hch hba hba2 hx1
        go_wp2_with fail
        refine HLG.out.mono ?_
        rintro e w2 ⟨rfl, f2⟩
        generalize (wr.alloc (.cells #[.int .i64 x.kind, .int .i64 x.work, .int .i64 x.next, .int .u64 x.val, .slice x.la x.l.length x.lc, .slice x.va x.v.length x.vc] 46)) = wa at *
        have ht2 := HTA.out.below f2
        have hb2 := HBA.out.trans (f2.mono HBA.out.size)
        have hx2 := (f2.block _ (blk_lt HX1.out)).trans HX1.out
        have HT2 := hid ht2
        have hwz : wr.heap.size ≤ wa.heap.size := HBA2.out.size
        have HPQ := hid (prepare_stk HT.out (HBA2.out.trans (f2.mono hwz)) HOK.out.bd x.work (Nat.le_refl _) (blk_lt hx2))
        have HX2 := hid hx2
        have HCH2 := hid (HCH.out.below (f2.mono HBA.out.size))
        have HB2 := hid hb2
        have e0 := cell_of_row w2 wr.heap.size 0 _ _ _ hx2
        have e1 := cell_of_row w2 wr.heap.size 1 _ _ _ hx2
        have e2 := cell_of_row w2 wr.heap.size 2 _ _ _ hx2
        have e3 := cell_of_row w2 wr.heap.size 3 _ _ _ hx2
        have e4 := cell_of_row w2 wr.heap.size 4 _ _ _ hx2
        have e5 := cell_of_row w2 wr.heap.size 5 _ _ _ hx2
        clear k0 k1 k2 k3 k4 k5 hx2 HX1 HLG HTA HBA ht2 hb2 HBA2 hwz HT
        generalize wr.heap.size = bx at *
        cases hlg : longQ x
        case true =>
          go_wp2_with fail
          go_roundg (61 - (i + 1))
          case measure => rw [HN.out]; omega
          case rel => exact ⟨i + 1, s, pt, tk, rfl, rfl, by go_num, by omega, by omega, rfl, HOK.out, HPT.out, HTK.out, HT2.out, HB2.out⟩
        case false =>
          by_cases h4 : x.kind ≤ 4
          case neg =>
            have h4' : 4 < x.kind := by omega
            clear h4
            go_wp2_with fail
            go_roundg (61 - (i + 1))
            case measure => rw [HN.out]; omega
            case rel => exact ⟨i + 1, s, pt, tk, rfl, rfl, by go_num, by omega, by omega, rfl, HOK.out, HPT.out, HTK.out, HT2.out, HB2.out⟩
          case pos =>
            have HK4 := hid h4
            have h4' : decide (4 < x.kind) = false := by simp; omega
            cases q3 : (x.kind == 3)
            case false =>
              have hk3 : x.kind ≠ 3 := by simpa using q3
              cases q2 : (x.kind != 2)
              case false =>
                clear h4 hk3
                go_wp2_with fail
                go_roundg (61 - (i + 1))
                case measure => rw [HN.out]; omega
                case rel => exact ⟨i + 1, s, pt, tk, rfl, rfl, by go_num, by omega, by omega, rfl, HOK.out, HPT.out, HTK.out, HT2.out, HB2.out⟩
              case true =>
                have hk2 : x.kind ≠ 2 := by simpa using q2
                have hsm := call_same (s := s) hk2 hk3 HK4.out
                have HSM := hid hsm
                have HC := hid (call_st HT2.out HOK.out x HCH2.out (Nat.le_refl _) hlg)
                clear h4 hk3 hk2 hsm
                go_wp2_with fail
                refine HC.out.mono ?_
                rintro e w3 ⟨⟨v, rfl⟩, t3, f3⟩
                go_wp2_with fail
                go_roundg (61 - (i + 1))
                case measure => rw [HN.out]; omega
                case rel => exact ⟨i + 1, (callQ s x).2, pt, tk, rfl, rfl, by go_num, by omega, by omega, rfl, HOK.out.call x, by rw [HSM.out.2]; exact HPT.out, by rw [HSM.out.1, HSM.out.2]; exact HTK.out, t3, HB2.out.trans f3⟩
            case true =>
              clear h4
              go_wp2_with fail
              refine HPQ.out.mono ?_
              rintro e w3 ⟨A3, c3, rfl, t3, hc3, f3, hx3⟩
              have e31 := cell_of_row w3 bx 1 _ _ _ (hx3.trans HX2.out)
              have HX3 := hid hx3
              clear hx3 e0 e1 e2 e3 e4 e5
              have hb3 := HB2.out.trans f3
              by_cases he : (s.prepare x.work).1.2 = 0
              · have hk := kept_of HOK.out he
                have hok2 := HOK.out.prepare x.work
                have hok3 := hok2.commit x.work
                rw [he]
                obtain ⟨p1, p2, p3, p4, p5, p6, p7, -⟩ := hk
                rw [p3] at hok3
                have HCM := hid (fun w' (h : StL w.heap.size w' b (s.prepare x.work).2 A3 (s.prepare x.work).1.1) => commit_stl h hok2.bd x.work)
                rw [p3] at HCM
                generalize (s.prepare x.work).1.1 = pl at *
                generalize (s.prepare x.work).2 = s2 at *
                have hlen : (keptI x.work s.its ++ newI pl s.gv).length = (keptI x.work s.its).length + putsL pl := by rw [List.length_append, newI_len]
                have hls := len_split p5
                have hsz3 := hok3.sz
                simp only [hlen] at hsz3
                have HOK3 := hid hok3
                have HLEN := hid hlen
                have HCH3 := hid t3.at_
                have HP1 := hid (putsr_any A3 pl c3 _ w3 t3.at_ (by omega))
                have hl40 : pl.length ≤ 40 := p6
                obtain ⟨P, hP⟩ : ∃ P, P = putsL pl := ⟨_, rfl⟩
                obtain ⟨N, hN⟩ : ∃ N, N = pl.length := ⟨_, rfl⟩
                obtain ⟨L, hL⟩ : ∃ L, L = (keptI x.work s.its).length + putsL pl := ⟨_, rfl⟩
                rw [← hP] at HP1
                have hP16 : P ≤ 16 := by omega
                have hgN : (s.gv + P : Int) ≤ 4611686018427387904 := by have := hok3.g1; simp only at this; omega
                have w1 : wrap64 (pt + (P : Int)) = pt + P := by unfold wrap64; omega
                have w2 : wrap64 (tk + (pl.length : Int)) = tk + pl.length := by unfold wrap64; omega
                have w3' : wrap64 (tk + (pl.length : Int) - (P : Int)) = tk + pl.length - P := by unfold wrap64; omega
                have hfin1 : ¬ (tk + (pl.length : Int) - (P : Int) > pt + P) := by have := HPT.out; have := HTK.out; omega
                have hfin2 : pt + (P : Int) - (tk + (pl.length : Int) - (P : Int)) = (L : Int) := by have := HPT.out; have := HTK.out; omega
                have hpt' : pt + (P : Int) = s.gv + putsL pl := by rw [HPT.out, hP]
                have htk' : tk + (pl.length : Int) - (P : Int) = (s.gv + putsL pl) - (keptI x.work s.its ++ newI pl s.gv).length := by rw [hlen]; have := HPT.out; have := HTK.out; omega
                have HPT' := hid hpt'
                have HTK' := hid htk'
                have HF1 := hid hfin1
                have HF2 := hid hfin2
                have HL := hid hL
                have hptn0 : 0 ≤ pt + (P : Int) := by omega
                have hptn1 : pt + (P : Int) ≤ 4611686018427387904 := by have := HPT.out; omega
                have htkn0 : 0 ≤ tk + (pl.length : Int) - (P : Int) := by have := HTK.out; omega
                have htkn1 : tk + (pl.length : Int) - (P : Int) ≤ 4611686018427387904 := by omega
                have HB4 := hid (show 0 ≤ pt + (P : Int) ∧ pt + (P : Int) ≤ 4611686018427387904 ∧ 0 ≤ tk + (pl.length : Int) - (P : Int) ∧ tk + (pl.length : Int) - (P : Int) ≤ 4611686018427387904 from ⟨hptn0, hptn1, htkn0, htkn1⟩)
                clear p1 p2 p3 p4 p5 p7 hok3 hlen hls hsz3 hP hN hL hfin1 hfin2 hpt' htk' he hok2 hgN hptn0 hptn1 htkn0 htkn1
                go_wp2_with fail
                refine HP1.out.mono ?_
                rintro e w4 ⟨rfl, rfl⟩
                go_wp2_with fail
                refine HP1.out.mono ?_
                rintro e w5 ⟨rfl, rfl⟩
                go_wp2_with fail
                refine (HCM.out _ t3).mono ?_
                rintro e w6 ⟨rfl, t6, f6⟩
                have hv := values_st t6.st (by show (keptI x.work s.its ++ newI pl s.gv).length ≤ _; have := HOK3.out.sz; simp only at this; omega)
                simp only [HLEN.out] at hv
                rw [← HL.out] at hv
                have HV := hid hv
                generalize hpn : pt + (P : Int) = pn at *
                generalize htn : tk + (pl.length : Int) - (P : Int) = tn at *
                clear hv hpn htn w1 w2 w3' HCM HP1
                obtain ⟨b4, b5, b6, b7⟩ := HB4.out
                have g1 : decide (tn > pn) = false := by have := HF1.out; simp; omega
                have g2 : wrap64 (pn - tn) = pn - tn := by unfold wrap64; omega
                have g3 : ((L : Int) != pn - tn) = false := by have := HF2.out; simp; omega
                go_wp2_with fail
                refine HV.out.mono ?_
                rintro e w7 ⟨A7, c7, rfl, _, _, f7⟩
                go_wp2_with fail
                go_roundg (61 - (i + 1))
                case measure => rw [HN.out]; omega
                case rel => exact ⟨i + 1, _, pn, tn, rfl, rfl, by go_num, by omega, by omega, rfl, HOK3.out, HPT'.out, HTK'.out, t6.st.below f7, (hb3.trans f6).trans (f7.mono (hb3.trans f6).size)⟩
              · have hz : ((s.prepare x.work).1.2 == 0) = false := by simpa using he
                have HOK2 := hid (HOK.out.prepare x.work)
                have hsame : (s.prepare x.work).2.its = s.its ∧ (s.prepare x.work).2.gv = s.gv := by
                  unfold QS.prepare
                  split
                  · exact ⟨rfl, rfl⟩
                  · cases aget x.work s.ws <;> exact ⟨rfl, rfl⟩
                have HSM := hid hsame
                clear hsame he
                go_wp2_with fail
                go_roundg (61 - (i + 1))
                case measure => rw [HN.out]; omega
                case rel => exact ⟨i + 1, (s.prepare x.work).2, pt, tk, rfl, rfl, by go_num, by omega, by omega, rfl, HOK2.out, by rw [HSM.out.2]; exact HPT.out, by rw [HSM.out.1, HSM.out.2]; exact HTK.out, t3.st, hb3⟩
      · have h2' : ¬ i < 60 := by omega
        clear h2
        have h2 : ¬ (i : Int) < 60 := by omega
        go_wp2_with fail
        refine (alive_any _).mono ?_
        rintro e w7 ⟨rfl, f7⟩
        have t7 := HT.out.below f7
        have HV := hid (values_st t7 (by omega))
        go_wp2_with fail
        refine HV.out.mono ?_
        rintro e w8 ⟨A8, c8, rfl, _, _, f8⟩
        have HX := hid (next_st (t7.below f8) HOK.out.bd)
        have g2 : wrap64 (pt - tk) = pt - tk := by unfold wrap64; omega
        have g3 : ((s.its.length : Int) == pt - tk) = true := by have := HPT.out; have := HTK.out; simp; omega
        have g4 : wrap64 (pt + 1) = pt + 1 := by unfold wrap64; omega
        have g5 : (s.gv + 1 == pt + 1) = true := by have := HPT.out; simp; omega
        have hb8 := (hf.trans (f7.mono hf.size)).trans (f8.mono (Nat.le_trans hf.size f7.size))
        go_wp2_with fail
        refine HX.out.mono ?_
        rintro e w9 ⟨rfl, rfl⟩
        go_wp2_with fail
        go_ret
        exact ⟨by first | rfl | simp, hb8⟩
    · have h1' : ¬ i < ops.length := h1
      go_wp2_with fail
      refine (alive_any _).mono ?_
      rintro e w7 ⟨rfl, f7⟩
      have t7 := HT.out.below f7
      have HV := hid (values_st t7 (by omega))
      go_wp2_with fail
      refine HV.out.mono ?_
      rintro e w8 ⟨A8, c8, rfl, _, _, f8⟩
      have HX := hid (next_st (t7.below f8) HOK.out.bd)
      have g2 : wrap64 (pt - tk) = pt - tk := by unfold wrap64; omega
      have g3 : ((s.its.length : Int) == pt - tk) = true := by have := HPT.out; have := HTK.out; simp; omega
      have g4 : wrap64 (pt + 1) = pt + 1 := by unfold wrap64; omega
      have g5 : (s.gv + 1 == pt + 1) = true := by have := HPT.out; simp; omega
      have hb8 := (hf.trans (f7.mono hf.size)).trans (f8.mono (Nat.le_trans hf.size f7.size))
      go_wp2_with fail
      refine HX.out.mono ?_
      rintro e w9 ⟨rfl, rfl⟩
      go_wp2_with fail
      go_ret
      exact ⟨by first | rfl | simp, hb8⟩
end Go.Proofs.Ytmckdoiepmkbbaa

/- Walks of the document's queue: Prepare, Commit. Conditions: the queue reads as DAt says. -/
import Derived.Test.YtmckdoiepmkbbaaQdD
namespace Go.Proofs.Ytmckdoiepmkbbaa
open Go.RowKit Go.Mine Go.Proofs.YtmckdoiepmkbbaaW.PrintWords
set_option linter.unusedVariables false
set_option linter.unusedSimpArgs false
def DPrepPost (F : Nat → Prop) (w : World) (b : Nat) (R : (List Ch × Int) × QS) (e : Ending) (w' : World) : Prop :=
  ∃ v, e = .returned (.tuple #[v, .int .i64 R.1.2]) ∧ (∃ F', DAt F' w' b R.2 ∧ Grew F F' w ∧ (∀ k, v.ownBlock = some k → w.heap.size ≤ k ∧ ¬ F' k)) ∧ ChRow w' v R.1.1 ∧ Fr F w w'
set_option maxRecDepth 100000 in
set_option maxHeartbeats 4000000 in
theorem dprepare_any {F : Nat → Prop} {w : World} {b : Nat} {s : QS} (h : DAt F w b s) (hb : s.Bd) (n : Int) :
    Calls Try.prog 42 #[.pointer (some ⟨b, 0, none⟩), .int .i64 n] w (DPrepPost F w b (s.prepare n)) := by
  have hf := dmay_any h (by have := hb.ws; omega) n
  have HF := hid hf
  have H := hid h
  obtain ⟨I, iv, qv, hR, hws⟩ := h
  have hIl : I.length ≤ 1000 := by have := hb.ws; rw [hws] at this; simpa [wsOf] using this
  have hfd := dfind_any hR (by omega) n
  have hg := aget_ws n I
  rw [← hws] at hg
  unfold findB at hfd
  have HR := hid hR
  have HWS := hid hws
  have HB := hid hb
  clear hf hR hws hb
  go_enter Try.func42, Try.ntmps42
  by_cases h1 : s.fit n = 0
  · cases hq : I.find? (fun x => decide (x.n = n)) with
    | none =>
      rw [hq] at hfd hg
      simp only [Option.map_none] at hfd hg
      have HE := hid (show s.prepare n = (([], 0), s) from by unfold QS.prepare; rw [if_neg (by simp [h1]), hg])
      have HFD := hid hfd
      clear hfd hg hq
      go_wp2_with fail
      refine HF.out.mono ?_
      rintro e w1 ⟨rfl, rfl⟩
      rw [h1]
      go_wp2_with fail
      refine HFD.out.mono ?_
      rintro e w2 ⟨rfl, rfl⟩
      simp only [Option.map_none]
      go_wp2_with fail
      go_ret2
      unfold DPrepPost
      rw [HE.out]
      exact ⟨.slice none 0 0, rfl, ⟨F, H.out, Grew.refl _ _, fun k hk => by simp [Value.ownBlock] at hk⟩, FR.nil _ _ _, Fr.refl _ _⟩
    | some x =>
      obtain ⟨J1, J2, hJ, hxn, _⟩ := find_split hq
      have hxw := HR.out.wk x (List.mem_of_find?_eq_some hq)
      have hxle : x.l.length ≤ 1000 := HB.out.ls (x.n, ⟨x.l, x.p⟩) (by rw [HWS.out]; exact List.mem_map.2 ⟨x, List.mem_of_find?_eq_some hq, rfl⟩)
      obtain ⟨A, cp, hv, hAc, hat⟩ := hxw.2.2.1.at_
      have c2 : w.cell? ⟨x.wb, 2, none⟩ = some (.bool x.p) := by rw [cell_of_row _ _ 2 _ _ _ hxw.2.1]; rfl
      have hz1 : w.frozen? ⟨x.wb, 2, none⟩ = false := by simp [World.frozen?, hxw.2.1]
      rw [hq] at hfd hg
      simp only [Option.map_some] at hfd hg
      have HE := hid (show s.prepare n = ((x.l, 0), ⟨s.its, aput n ⟨x.l, true⟩ s.ws, s.gv⟩) from by unfold QS.prepare; rw [if_neg (by simp [h1]), hg])
      have HFD := hid hfd
      subst hJ
      have hf1 : Fr (fun i => i = x.wb ∨ x.v.ownBlock = some i) w (w.setCell ⟨x.wb, 2, none⟩ (.bool true)) := Fr.setCell (p := ⟨x.wb, 2, none⟩) (Fr.refl _ w) (.inl (.inl rfl)) _
      have hb1 : (w.setCell ⟨x.wb, 2, none⟩ (.bool true)).heap[x.wb]? = some (.cells #[.int .i64 x.n, x.v, .bool true] 87 (0, 0)) := blk_set' hxw.2.1 2 _
      have hr1 : ChRow (w.setCell ⟨x.wb, 2, none⟩ (.bool true)) x.v x.l := hxw.2.2.1.move (fun k hk => Below.heap_setCell _ _ _ _ (fun q => by
        have q' : k = x.wb := q
        subst q'
        exact types_ne (hxw.2.2.1.typed hk) ⟨_, hxw.2.1⟩ (by decide)))
      have hK := HR.out.work hf1 hb1 hr1 (.inl rfl)
      have hfr : Fr F w (w.setCell ⟨x.wb, 2, none⟩ (.bool true)) := hf1.mono (fun j hj => by
        rcases hj with q | q
        · rw [q]; exact hxw.1
        · exact hxw.2.2.2 j q)
      have hcl1 : (w.setCell ⟨x.wb, 2, none⟩ (.bool true)).cell? ⟨x.wb, 1, none⟩ = some (.slice A x.l.length cp) := by
        rw [cell_of_row _ _ 1 _ _ _ hb1, ← hv]; rfl
      have hrow := hr1
      rw [hv] at hrow
      have hC := (Kd.R_reads' hrow).2.2
      have HROW := hid hC
      have HK := hid hK
      have HFR := hid hfr
      clear hfd hg hq hat hxw hf1 hb1 hr1 hK hfr hv hrow hC
      go_wp2_with fail
      refine HF.out.mono ?_
      rintro e w1 ⟨rfl, rfl⟩
      rw [h1]
      go_wp2_with fail
      refine HFD.out.mono ?_
      rintro e w2 ⟨rfl, rfl⟩
      simp only [Option.map_some]
      go_wp2_with (at_builtin; go_loud (refine Kd.R_append_rows eCh.kd (Rr := fun x cs => cs = encCh x) (w0 := (w.setCell ⟨x.wb, 2, none⟩ (.bool true))) (w.setCell ⟨x.wb, 2, none⟩ (.bool true)).heap.size rfl (.tmp 23) (.tmp 27) 38 43 _ 24 rfl Try.underlying38 info43 (by rfl) (by decide) (by decide) (.slice none 0 0) [] x.l A x.l.length cp (fun _ => True) (fun _ => False) rfl rfl (Kd.R_nil _ _ _ _ _) HROW.out (fun _ _ h => h) (fun _ h => h.elim) (fun _ _ => trivial) (Below.refl _ _) (Nat.le_refl _) (by simp only [List.length_nil]; omega) ?_); intro v7 w7 ho7 hb7 hg7 hat7)
      go_ret2
      unfold DPrepPost
      rw [HE.out]
      have hfb := HK.out.fb
      have hro := Kd.R_base ho7
      refine ⟨v7, rfl, ⟨_, ⟨_, _, _, HK.out.below hb7, ?_⟩, grew_more _ _ _, fun k hk => ⟨Nat.le_trans HFR.out.size (hro k hk), fun q => ?_⟩⟩, by simpa using Kd.R_lower ho7 (Nat.zero_le _), HFR.out.trans ((Fr.of_below hb7 (Nat.le_refl _)).mono (fun _ q => q.elim)) (fun i hi => .inl hi)⟩
      · exact aput_ws HB.out.keys HWS.out hxn _ _ _
      · have := hro k hk; have := hfb k q; omega
  · have HE := hid (show s.prepare n = (([], s.fit n), s) from by unfold QS.prepare; rw [if_pos h1])
    have hz : (s.fit n == 0) = false := by simpa using h1
    clear hfd hg
    go_wp2_with fail
    refine HF.out.mono ?_
    rintro e w1 ⟨rfl, rfl⟩
    go_wp2_with fail
    go_ret2
    unfold DPrepPost
    rw [HE.out]
    exact ⟨.slice none 0 0, rfl, ⟨F, H.out, Grew.refl _ _, fun k hk => by simp [Value.ownBlock] at hk⟩, FR.nil _ _ _, Fr.refl _ _⟩
theorem QR.same {α : Type} {E : Enc α} {T : QT} {F : Nat → Prop} {w w' : World} {b : Nat} {L : List α} {I : List WI} {g : Int} {iv qv : Value} (h : QR E T (more F w w') w' b L I g iv qv) (hs : w'.heap.size = w.heap.size) (hF : ∀ i, F i → i < w.heap.size) : QR E T F w' b L I g iv qv :=
  h.sub (fun i hi => hi.elim id (fun q => by omega)) (fun i hi => by rw [hs]; exact hF i hi)
theorem own_len (A : Option Addr) (n m c : Nat) : (Value.slice A n c).ownBlock = (Value.slice A m c).ownBlock := by cases A <;> rfl
theorem FR.own {α : Type} {E : Enc α} {e n c b off : Nat} {w : World} {v : Value} {A : Option Addr} {l : List α} (h : FR E e w v l) (hv : v = .slice A n c) (hp : 0 < l.length) (ha : A = some ⟨b, off, none⟩) : v.ownBlock = some b := by
  subst hv
  obtain ⟨g, hg⟩ := FR.form h hp
  rw [hg] at ha
  cases ha
  rw [hg]
  rfl
set_option maxRecDepth 100000 in
set_option maxHeartbeats 8000000 in
theorem dcommit_any {F : Nat → Prop} {w : World} {b : Nat} {s : QS} (h : DAt F w b s) (hok : s.Ok) (n : Int) :
    Calls Try.prog 43 #[.pointer (some ⟨b, 0, none⟩), .int .i64 n] w (DPost F w b (.int .i64 (s.commit n).1) (s.commit n).2) := by
  have hb := hok.bd
  have H := hid h
  obtain ⟨I, iv, qv, hR, hws⟩ := h
  have hIl : I.length ≤ 1000 := by have := hb.ws; rw [hws] at this; simpa [wsOf] using this
  have hfd := dfind_any hR (by omega) n
  have hg := aget_ws n I
  rw [← hws] at hg
  unfold findB at hfd
  have hil := hok.sz
  have hg1 := hok.g1
  have hg0 := hok.g0
  obtain ⟨A, c, hiv, hAc, hat⟩ := hR.it.at_
  have hc : w.cell? ⟨b, 0, none⟩ = some (.slice A s.its.length c) := by rw [cell_of_row w b 0 _ _ _ hR.blk, ← hiv]; rfl
  have HAT : Hid (RowAt encD 2 w w.heap.size A s.its) := hid hat
  have hblt := hR.fb _ hR.bF
  have HR := hid hR
  have HWS := hid hws
  have HB := hid hb
  have HOK := hid hok
  clear hR hws hb hok hat hiv
  go_enter Try.func43, Try.ntmps43
  by_cases h1 : n < 1
  · have HE := hid (show s.commit n = (1, s) from by unfold QS.commit; rw [if_pos h1])
    clear hfd hg
    go_wp2_with fail
    go_ret
    exact ⟨by rw [HE.out]; rfl, ⟨F, by rw [HE.out]; exact H.out, Grew.refl _ _⟩, Fr.refl _ _⟩
  · have HC := hid (show s.commit n = (0, ⟨keptI n s.its ++ newI (listOfW n s.ws) s.gv, adel n s.ws, s.gv + putsL (listOfW n s.ws)⟩) from by unfold QS.commit; rw [if_neg h1])
    have hn1 : 1 ≤ n := by omega
    have HN1 := hid hn1
    cases hq : I.find? (fun x => decide (x.n = n)) with
    | none =>
      rw [hq] at hfd hg
      simp only [Option.map_none] at hfd hg
      have hkp : keptI n s.its = s.its := by
        have h2 := HOK.out.held n (by omega)
        rw [listOfW_free hg] at h2
        have h3 : (heldI n s.its).length = 0 := by
          have := congrArg List.length h2
          simpa [takesOf] using this
        unfold keptI
        refine List.filter_eq_self.2 (fun x hx => ?_)
        have h4 := List.filter_eq_nil_iff.1 (List.eq_nil_of_length_eq_zero h3) x hx
        simpa using h4
      have HE := hid (show s.commit n = (0, s) from by rw [HC.out, listOfW_free hg, hkp, adel_none hg]; simp [newI, putsL])
      have HFD := hid hfd
      clear hfd hg hq hkp hn1
      go_wp2_with fail
      refine HFD.out.mono ?_
      rintro e w1 ⟨rfl, rfl⟩
      simp only [Option.map_none]
      go_wp2_with fail
      go_ret
      exact ⟨by rw [HE.out]; rfl, ⟨F, by rw [HE.out]; exact H.out, Grew.refl _ _⟩, Fr.refl _ _⟩
    | some x =>
      have hxI := List.mem_of_find?_eq_some hq
      have hxle : x.l.length ≤ 1000 := HB.out.ls (x.n, ⟨x.l, x.p⟩) (by rw [HWS.out]; exact List.mem_map.2 ⟨x, hxI, rfl⟩)
      rw [hq] at hfd hg
      simp only [Option.map_some] at hfd hg
      have hl0 : listOfW n s.ws = x.l := by unfold listOfW; rw [hg]; rfl
      rw [hl0] at HC
      have hpx : putsL x.l ≤ putsW s.ws := putsW_mem (x := (n, ⟨x.l, x.p⟩)) (aget_mem hg)
      have HXI := hid hxI
      have HFD := hid hfd
      clear hfd hg hq hl0 hxI hn1
      go_wp2_with fail
      refine HFD.out.mono ?_
      rintro e w1 ⟨rfl, rfl⟩
      simp only [Option.map_some]
      go_wp2_with fail
      go_loopg [6, 7] (s.its.length + 1) (fun m v6 v7 wr => ∃ i : Nat, v7 = .int .i64 i ∧ i ≤ s.its.length ∧ m = s.its.length + 1 - i ∧ eD.kd.R 85 wr w.heap.size (fun _ => True) v6 (keptI n (s.its.take i)) ∧ Below w.heap.size w wr)
      case atStart => exact ⟨0, rfl, Nat.zero_le _, rfl, Kd.R_nil _ _ _ _ _, Below.refl _ _⟩
      case round =>
        obtain ⟨i, rfl, hi, hm, hv, hbl⟩ := hrel
        have HN := hid hm
        have HBL := hid hbl
        have hcr : wr.cell? ⟨b, 0, none⟩ = some (.slice A s.its.length c) := (hbl.cell (World.block_lt_of_cell? _ _ hc)).trans hc
        obtain ⟨A3, c3, hv3⟩ := Kd.R_slice hv
        subst hv3
        have HV := hid hv
        clear hm hv
        by_cases h2 : i < s.its.length
        · obtain ⟨z, hz⟩ : ∃ z, s.its[i]? = some z := ⟨_, List.getElem?_eq_getElem h2⟩
          obtain ⟨b', off, rfl, hbb, hcc⟩ := HAT.out i z hz
          have i0 : w.cell? ⟨b', off + i * 2, none⟩ = some (.int .i64 z.num) := hcc 0 _ rfl
          have i1 : w.cell? ⟨b', off + i * 2 + 1, none⟩ = some (.int .u64 z.val) := hcc 1 _ rfl
          have m0 := (hbl.cell (World.block_lt_of_cell? _ _ i0)).trans i0
          have m1 := (hbl.cell (World.block_lt_of_cell? _ _ i1)).trans i1
          have htk := HOK.out.taker (List.mem_of_getElem? hz)
          have HT := hid (dtaker_any (H.out.below hbl) HB.out z.num)
          rw [htk] at HT
          have hst : keptI n (s.its.take (i + 1)) = keptI n (s.its.take i) ++ (if z.by_ = n then [] else [z]) := by
            unfold keptI
            rw [List.take_succ_eq_append_getElem h2, List.filter_append, (List.getElem?_eq_some_iff.1 hz).2]
            congr 1
            by_cases q : z.by_ = n <;> simp [q]
          have hkl : (keptI n (s.its.take i)).length ≤ 1000 := by
            have := List.length_filter_le (fun x : It => !(x.by_ == n)) (s.its.take i)
            rw [List.length_take] at this
            unfold keptI
            omega
          have HST := hid hst
          clear hcc hz i0 i1 hst htk
          generalize keptI n (s.its.take i) = xs at *
          by_cases q : z.by_ = n
          · have q' : (z.by_ != n) = false := by simpa using q
            have HQ := hid q
            clear q
            go_wp2_with fail
            refine HT.out.mono ?_
            rintro e w2 ⟨rfl, f2⟩
            go_wp2_with fail
            go_roundg (s.its.length + 1 - (i + 1))
            case measure => rw [HN.out]; omega
            case rel => exact ⟨i + 1, by go_num, by omega, rfl, by rw [HST.out, if_pos HQ.out, List.append_nil]; exact Kd.R_below HV.out f2, HBL.out.trans (f2.mono HBL.out.size)⟩
          · have q' : (z.by_ != n) = true := by simpa using q
            have HQ := hid q
            clear q
            go_wp2_with fail
            refine HT.out.mono ?_
            rintro e w2 ⟨rfl, f2⟩
            have p0 := (f2.cell (World.block_lt_of_cell? _ _ m0)).trans m0
            have p1 := (f2.cell (World.block_lt_of_cell? _ _ m1)).trans m1
            have p2 := (f2.cell (World.block_lt_of_cell? _ _ hcr)).trans hcr
            have hb2 := HBL.out.trans (f2.mono HBL.out.size)
            have HB2 := hid hb2
            have hsz2 : w.heap.size ≤ w2.heap.size := hb2.size
            have HV2 := hid (Kd.R_below HV.out f2)
            clear m0 m1 hcr HV HBL hb2 HT
            go_wp2_with (at_builtin; go_loud (refine Kd.R_append eD.kd (w0 := w) w.heap.size rfl (.tmp 37) (.tmp 45) 52 85 _ 16 rfl Try.underlying52 info85 (by rfl) (by decide) (by decide) (.slice A3 xs.length c3) xs z (encD z) (fun _ => True) (fun _ => False) rfl (by first | rfl | (simp; rfl)) rfl (fun _ q => q.elim) (fun _ _ => trivial) HV2.out HB2.out hsz2 (by omega) ?_); intro v7 w7 ho7 hb7 hg7 hat7; have HO7 := hid ho7; have HB7 := hid hb7; clear ho7 hb7 hg7 hat7)
            go_roundg (s.its.length + 1 - (i + 1))
            case measure => rw [HN.out]; omega
            case rel => exact ⟨i + 1, by go_num, by omega, rfl, by rw [HST.out, if_neg HQ.out]; exact HO7.out, HB7.out⟩
        · have hie : i = s.its.length := by omega
          subst hie
          have ht : keptI n (s.its.take s.its.length) = keptI n s.its := by rw [List.take_length]
          rw [ht] at HV ⊢
          obtain ⟨KP, hKP⟩ : ∃ KP, KP = keptI n s.its := ⟨_, rfl⟩
          rw [← hKP] at HV HC ⊢
          have hkl : KP.length ≤ 16 := by
            have := List.length_filter_le (fun x : It => !(x.by_ == n)) s.its
            rw [hKP]; unfold keptI; omega
          have HVO := hid (Kd.R_base HV.out)
          have HVF := hid (Kd.R_lower HV.out (Nat.zero_le _))
          have HRW := hid (HR.out.below HBL.out)
          have hfw : Fr F w wr := (Fr.of_below HBL.out (Nat.le_refl _)).mono (fun _ q => q.elim)
          have HFW := hid hfw
          clear ht hKP hfw HV
          go_wp2_with fail
          have hvo0 := HVO.out
          have hblk0 : ∀ k, (Value.slice A3 KP.length c3).ownBlock = some k → w.heap.size ≤ k := HVO.out
          go_loopg [6, 8] (x.l.length + 1) (fun m v6 v8 wr => ∃ i : Nat, v8 = .int .i64 i ∧ i ≤ x.l.length ∧ m = x.l.length + 1 - i ∧ FR eD 85 wr v6 (KP ++ newI (x.l.take i) s.gv) ∧ (∀ k, v6.ownBlock = some k → w.heap.size ≤ k) ∧ QR eD T1 F wr b s.its I (s.gv + putsL (x.l.take i)) iv qv ∧ Fr F w wr)
          case atStart => exact ⟨0, rfl, Nat.zero_le _, rfl, by simpa [newI] using HVF.out, HVO.out, by simpa [putsL] using HRW.out, HFW.out⟩
          case round =>
            obtain ⟨i, rfl, hi2, hm, hv, hvo, hQ, hfr⟩ := hrel
            clear HFW HRW HVF HVO hvo0 hblk0 HBL HN
            have HN := hid hm
            have HVO := hid hvo
            have HQ := hid hQ
            have HFR := hid hfr
            obtain ⟨A5, c5, hv5⟩ := Kd.R_slice hv
            subst hv5
            have HV := hid hv
            have hwk := hQ.wk x HXI.out
            obtain ⟨A4, c4, hv4, hc4, hat4⟩ := hwk.2.2.1.at_
            have kx : wr.cell? ⟨x.wb, 1, none⟩ = some (.slice A4 x.l.length c4) := by rw [cell_of_row _ _ 1 _ _ _ hwk.2.1, ← hv4]; rfl
            have HOWN := hid (fun (hp : 0 < x.l.length) (b' off : Nat) (e : A4 = some ⟨b', off, none⟩) => FR.own hwk.2.2.1 hv4 hp e)
            have hltr := hQ.fb
            have hbF := hQ.bF
            have HLT := hid HR.out.fb
            clear hm hvo hQ hfr hv hwk hv4
            by_cases h3 : i < x.l.length
            · obtain ⟨y, hy⟩ : ∃ y, x.l[i]? = some y := ⟨_, List.getElem?_eq_getElem h3⟩
              obtain ⟨b', off, rfl, hbb, hcc⟩ := hat4 i y hy
              have k0 : wr.cell? ⟨b', off + i * 3, none⟩ = some (.int .i64 y.kind) := hcc 0 _ rfl
              have k2 : wr.cell? ⟨b', off + i * 3 + 2, none⟩ = some (.int .u64 y.val) := hcc 2 _ rfl
              have hst : x.l.take (i + 1) = x.l.take i ++ [y] := by
                rw [List.take_succ_eq_append_getElem h3]
                congr 2
                exact (List.getElem?_eq_some_iff.1 hy).2
              have hns := newI_snoc (x.l.take i) y s.gv
              rw [← hst] at hns
              have hpt := putsL_take hy
              have hple : putsL (x.l.take i) ≤ putsL x.l := by
                have h4 := putsL_append (x.l.take i) (x.l.drop i)
                rw [List.take_append_drop] at h4
                omega
              have hnl := newI_len (x.l.take i) s.gv
              have HNS := hid hns
              have HPT := hid hpt
              have HNL := hid hnl
              have hlst : b' ≠ b := fun q => types_ne ((HQ.out.wk x HXI.out).2.2.1.typed (HOWN.out (by omega) b' off rfl)) ⟨_, by rw [q]; exact HQ.out.blk⟩ (by decide)
              clear hcc hy hat4 hst hns hpt hnl
              generalize putsL (x.l.take i) = P at *
              generalize newI (x.l.take i) s.gv = NI at *
              cases q : (y.kind == 3)
              · go_wp2_with fail
                go_roundg (x.l.length + 1 - (i + 1))
                case measure => rw [HN.out]; omega
                case rel => exact ⟨i + 1, by go_num, by omega, rfl, by rw [HNS.out, q]; simpa using HV.out, HVO.out, by rw [HPT.out, q]; simpa using HQ.out, HFR.out⟩
              · have kg : wr.cell? ⟨b, 2, none⟩ = some (.int .i64 (s.gv + P)) := by rw [cell_of_row _ b 2 _ _ _ HQ.out.blk]; rfl
                have hzg : wr.frozen? ⟨b, 2, none⟩ = false := by simp [World.frozen?, HQ.out.blk]
                have ww : IntKind.i64.wrap (s.gv + (P : Int) + 1) = s.gv + P + 1 := wr64 (by omega) (by omega)
                have hf1 : Fr (fun k => k = b) wr (wr.setCell ⟨b, 2, none⟩ (.int .i64 (s.gv + P + 1))) := Fr.setCell (S := fun k => k = b) (p := ⟨b, 2, none⟩) (Fr.refl _ _) (.inl rfl) _
                have hsz1 : (wr.setCell ⟨b, 2, none⟩ (.int .i64 (s.gv + P + 1))).heap.size = wr.heap.size := by simp [World.setCell]
                have hQ1 := (HQ.out.turn (hf1.mono (fun k hk => .inl hk)) (blk_set' HQ.out.blk 2 (.int .i64 (s.gv + P + 1))) (HQ.out.it.move (fun k hk => hf1.block k (HQ.out.it.lt hk) (fun q => HQ.out.iv_ne.1 (by rw [hk, q])))) (HQ.out.wp.move (fun k hk => hf1.block k (HQ.out.wp.lt hk) (fun q => HQ.out.iv_ne.2.1 (by rw [hk, q])))) (List.Sublist.refl _) (fun j hj => .inl hj) (fun j hj => .inl hj)).same hsz1 hltr
                have hV1 : FR eD 85 (wr.setCell ⟨b, 2, none⟩ (.int .i64 (s.gv + P + 1))) (.slice A5 (KP ++ NI).length c5) (KP ++ NI) := FR.move HV.out (fun k hk => hf1.block k (FR.lt HV.out hk) (fun q => by have := HVO.out k hk; omega))
                have hfz := HFR.out.trans hf1 (fun j hj => .inl (by rw [hj]; exact hbF))
                have kx1 : (wr.setCell ⟨b, 2, none⟩ (.int .i64 (s.gv + P + 1))).cell? ⟨x.wb, 1, none⟩ = some (.slice (some ⟨b', off, none⟩) x.l.length c4) := hf1.cell kx (HQ.out.wb_ne HXI.out).1
                have k21 : (wr.setCell ⟨b, 2, none⟩ (.int .i64 (s.gv + P + 1))).cell? ⟨b', off + i * 3 + 2, none⟩ = some (.int .u64 y.val) := hf1.cell k2 hlst
                have HQ1 := hid hQ1
                have HV1 := hid hV1
                have HFZ := hid hfz
                clear hf1 hQ1 hV1 hfz hsz1 HQ HV HFR
                go_wp2_with fail
                generalize (wr.setCell ⟨b, 2, none⟩ (.int .i64 (s.gv + P + 1))) = wz at *
                have hll : (KP ++ NI).length ≤ 2000 := by rw [List.length_append, HNL.out]; omega
                generalize hL : KP ++ NI = L at *
                have z2 : wz.cell? ⟨b, 2, none⟩ = some (.int .i64 (s.gv + P + 1)) := by rw [cell_of_row _ b 2 _ _ _ HQ1.out.blk]; rfl
                have HVD := hid (FR.below HV1.out (bd1 wz))
                go_region_law (refine Kd.R_append_step eD.kd (w0 := wz.drew) 0 (by rfl) (.tmp 73) (.tmp 87) 52 85 _ 16 rfl Try.underlying52 info85 (by rfl) (by decide) (by decide) (.slice A5 L.length c5) L ⟨s.gv + P + 1, y.val, 0⟩ (encD ⟨s.gv + P + 1, y.val, 0⟩) (fun _ => True) (fun _ => False) (by simp [Act.eval, Act.put]) (by simp [Act.eval, Act.put]) rfl (fun _ q => q.elim) (fun _ _ => trivial) HVD.out (Below.refl _ _) (Nat.zero_le _) (by omega) ?_; intro v5 w5 ho5 hb5 hg5 hat5; have HO5 := hid ho5; have HG5 := hid hg5; have HT5 := hid hat5; clear ho5 hg5 hat5)
                all_goals
                  have hgr5 : Fr (fun k => (Value.slice A5 L.length c5).ownBlock = some k) wz.drew w5 := (Fr.of_grown HG5.out).mono (fun k hk => hk)
                  have hq5 : QR eD T1 F w5 b s.its I (s.gv + P + 1) iv qv := (HQ1.out.below (bd1 wz)).fr hgr5 (fun k hk q => by have h7 := HVO.out k q; have h8 := HLT.out k hk; omega)
                  have hfr5 : Fr F w w5 := HFZ.out.drew.trans hgr5 (fun j hj => .inr (HVO.out j hj))
                  have hvo5 : ∀ k, v5.ownBlock = some k → w.heap.size ≤ k := fun k hk => by
                    rcases HT5.out with q | ⟨b', q, hb⟩
                    · exact HVO.out k (q ▸ hk)
                    · rw [hk] at q; cases q; exact Nat.le_trans HFZ.out.size hb
                  have HQ5 := hid hq5
                  have HFR5 := hid hfr5
                  have HVO5 := hid hvo5
                  clear hgr5 hq5 hfr5 hvo5
                  go_wp2_with fail
                  go_roundg (x.l.length + 1 - (i + 1))
                  case measure => rw [HN.out]; omega
                  case rel => exact ⟨i + 1, by go_num, by omega, rfl, by
                    rw [HNS.out, q, ← List.append_assoc, hL]
                    exact HO5.out, HVO5.out, by
                    rw [HPT.out, q]
                    have h9 := HQ5.out
                    simpa [Int.add_assoc] using h9, HFR5.out⟩
            · have hil2 : i = x.l.length := by omega
              subst hil2
              have hQe := HQ.out
              have hVe := HV.out
              rw [List.take_length] at hQe hVe
              have e1 : (KP ++ newI (x.l.take x.l.length) s.gv).length = (KP ++ newI x.l s.gv).length := by rw [List.take_length]
              rw [e1]
              obtain ⟨L, hL⟩ : ∃ L, L = KP ++ newI x.l s.gv := ⟨_, rfl⟩
              rw [← hL] at hVe HC ⊢
              have k00 : wr.cell? ⟨b, 0, none⟩ = some iv := by rw [cell_of_row _ b 0 _ _ _ hQe.blk]; rfl
              have hz0 : wr.frozen? ⟨b, 0, none⟩ = false := by simp [World.frozen?, hQe.blk]
              have hf1 : Fr (fun k => k = b) wr (wr.setCell ⟨b, 0, none⟩ (.slice A5 L.length c5)) := Fr.setCell (S := fun k => k = b) (p := ⟨b, 0, none⟩) (Fr.refl _ _) (.inl rfl) _
              have hVO : ∀ k, (Value.slice A5 L.length c5).ownBlock = some k → w.heap.size ≤ k := fun k hk => HVO.out k ((own_len _ _ _ _).trans hk)
              have hi1 : FR eD 85 (wr.setCell ⟨b, 0, none⟩ (.slice A5 L.length c5)) (.slice A5 L.length c5) L := FR.move hVe (fun k hk => hf1.block k (FR.lt hVe hk) (fun q => by have := hVO k hk; omega))
              have hq1 : FR eWI 59 (wr.setCell ⟨b, 0, none⟩ (.slice A5 L.length c5)) qv I := hQe.wp.move (fun k hk => hf1.block k (hQe.wp.lt hk) (fun q => hQe.iv_ne.2.1 (by rw [hk, q])))
              have hfall : Fr F w (wr.setCell ⟨b, 0, none⟩ (.slice A5 L.length c5)) := HFR.out.trans hf1 (fun i hi => .inl (by rw [hi]; exact hbF))
              have hsz1 : (wr.setCell ⟨b, 0, none⟩ (.slice A5 L.length c5)).heap.size = wr.heap.size := by simp [World.setCell]
              have hQfin : QR eD T1 (fun k => F k ∨ (w.heap.size ≤ k ∧ k < wr.heap.size)) (wr.setCell ⟨b, 0, none⟩ (.slice A5 L.length c5)) b L I (s.gv + putsL x.l) (.slice A5 L.length c5) qv := by
                have h0 : QR eD T1 (fun k => F k ∨ (w.heap.size ≤ k ∧ k < wr.heap.size)) wr b s.its I (s.gv + putsL x.l) iv qv := hQe.sub (fun k hk => .inl hk) (fun k hk => hk.elim (hltr k) (fun q => q.2))
                have h1 := QR.mk (E := eD) (T := T1) (F := fun k => F k ∨ (w.heap.size ≤ k ∧ k < wr.heap.size)) (w := (wr.setCell ⟨b, 0, none⟩ (.slice A5 L.length c5))) (b := b) (L := L) (I := I) (g := s.gv + putsL x.l) (iv := .slice A5 L.length c5) (qv := qv) (fun k hk => by rw [hsz1]; exact h0.fb k hk) (.inl hbF) (blk_set' hQe.blk 0 _) hi1 hq1 (fun k hk => .inr ⟨hVO k hk, FR.lt hVe hk⟩) (fun k hk => .inl (hQe.qF k hk)) (fun y hy => ⟨h0.wk y hy |>.1, hf1.at_ (h0.wk y hy).2.1 (h0.wb_ne hy).1, (h0.wk y hy).2.2.1.move (fun k hk => hf1.block k ((h0.wk y hy).2.2.1.lt hk) (h0.row_ne hy hk).1), (h0.wk y hy).2.2.2⟩) h0.apart
                exact h1
              have hgrow : Grew F (fun k => F k ∨ (w.heap.size ≤ k ∧ k < wr.heap.size)) w := fun k hk => hk.imp id (fun q => q.1)
              have HDR := hid (ddrop_any (s := ⟨L, s.ws, s.gv + putsL x.l⟩) ⟨I, _, _, hQfin, HWS.out⟩ HB.out.ws n)
              have HFALL := hid hfall
              have HGR := hid hgrow
              clear hi1 hq1 hf1 hQfin hfall hVe hQe hVO hL e1 HV
              go_wp2_with fail
              refine HDR.out.mono ?_
              rintro e w5 ⟨rfl, ⟨F5, h5, g5⟩, f5⟩
              go_wp2_with fail
              go_ret
              exact ⟨by rw [HC.out]; rfl, ⟨F5, by rw [HC.out]; exact h5, HGR.out.trans g5 HFALL.out.size⟩, HFALL.out.trans f5 (fun j hj => HGR.out j hj)⟩
end Go.Proofs.Ytmckdoiepmkbbaa

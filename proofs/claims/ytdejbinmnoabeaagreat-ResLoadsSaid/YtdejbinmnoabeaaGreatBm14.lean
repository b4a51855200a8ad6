/- Texts of this seat, put together: KvD9, KvDa, KvDb, KvDc, QdE0. -/
import Derived.Test.YtdejbinmnoabeaaGreatBm13
import Derived.Test.YtdejbinmnoabeaaGreatBm11
namespace Go.Mine
set_option linter.unusedVariables false
set_option linter.unusedSimpArgs false
theorem setD_len (L : List (Int × Int)) (c : Ch) : (setD L c).length ≤ L.length + 1 := by
  have := List.length_filter_le (fun e : Int × Int => e.1 != c.key) L
  unfold setD
  split
  · rw [List.length_append, List.length_singleton]; omega
  · omega
theorem setDs_len : ∀ (l : List Ch) (L : List (Int × Int)), (l.foldl setD L).length ≤ L.length + l.length
  | [], L => Nat.le_refl _
  | c :: cs, L => by
    have h1 := setDs_len cs (setD L c)
    have h2 := setD_len L c
    rw [List.foldl_cons, List.length_cons]
    omega
def commitD (L : List (Int × Int)) (s : KS) (n : Int) : List (Int × Int) := if n < 1 then L else (s.listOf n).foldl setD L
end Go.Mine
namespace Go.Proofs.YtdejbinmnoabeaaGreat.D
open Go.Proofs.YtdejbinmnoabeaaGreat.K
variable {Ze : Z3}
open Go.RowKit Go.Mine Go.Proofs.YtdejbinmnoabeaaGreatW.PrintWords
set_option linter.unusedVariables false
set_option linter.unusedSimpArgs false
set_option maxRecDepth 100000 in
set_option maxHeartbeats 4000000 in
theorem dcommit_any {F : Nat → Prop} {w : World} {b1 : Nat} {L : List (Int × Int)} {I : List WI} {pv qv tv : Value} {s : KS} (h : DsR Ze F w b1 L I s.lk pv qv tv) (hws : s.ws = wsOf I) (hn : I.length ≤ 900) (hL : L.length ≤ 900) (hok : s.Ok) (n : Int) :
    Calls Tryz.prog 71 #[.pointer (some ⟨b1, 0, none⟩), .int .i64 n] w (DPost Ze F w b1 (commitD L s n) (s.commit n).1 (s.commit n).2) := by
  have H := hid h
  have HWS := hid hws
  have hfd := dfind_any h (by omega) n
  have hrk := hok.rk
  have hrl := hrk.len
  go_enter Tryz.func71, Tryz.ntmps71
  by_cases h1 : n < 1
  · have he : s.commit n = (1, s) := by simp [KS.commit, h1]
    have hd : commitD L s n = L := by unfold commitD; rw [if_pos h1]
    have HE := hid he
    have HD := hid hd
    clear he h hws hfd hd
    go_wp2_with fail
    go_ret
    unfold DPost
    rw [HE.out, HD.out]
    exact ⟨rfl, F, I, pv, qv, tv, H.out, Grew.refl _ _, HWS.out, Fr.refl _ _⟩
  · have he : s.commit n = (0, ((s.listOf n).foldl setV s).gone n) := commit_do h1
    have hd : commitD L s n = (s.listOf n).foldl setD L := by unfold commitD; rw [if_neg h1]
    have hkp := setVs_keep (s.listOf n) s
    have HE := hid he
    have HD := hid hd
    have HKP := hid hkp
    have hg := aget_ws n I
    rw [← hws] at hg
    unfold findB at hfd
    clear he h hws hd hkp
    cases hf : I.find? (fun x => decide (x.n = n)) with
    | none =>
      rw [hf] at hfd hg
      simp only [Option.map_none] at hfd hg
      have hlo : s.listOf n = [] := by unfold KS.listOf; rw [hg]; rfl
      have hdr := ddrop_any H.out (by omega) (by omega) n
      have HFD := hid hfd
      have HLO := hid hlo
      have HDR := hid hdr
      clear hfd hlo hdr hf hg
      go_wp2_with fail
      refine HFD.out.mono ?_
      rintro e w1 ⟨rfl, rfl⟩
      simp only [Option.map_none]
      go_wp2_with fail
      go_loopg [6] 1 (fun m v wr => v = .int .i64 0 ∧ m = 1 ∧ wr = w)
      case atStart => exact ⟨rfl, rfl, rfl⟩
      case round =>
        obtain ⟨rfl, rfl, hw⟩ := hrel
        subst hw
        go_wp2_with fail
        refine HDR.out.mono ?_
        rintro e w2 ⟨rfl, qv', tv', h2, f2⟩
        go_wp2_with fail
        go_ret
        unfold DPost
        rw [HE.out, HD.out, HLO.out]
        refine ⟨rfl, _, _, _, _, _, h2, grew_more _ _ _, ?_, f2.mono (fun i hi => by rw [hi]; exact H.out.b)⟩
        show adel n s.ws = _
        rw [HWS.out, adel_wsOf]
    | some x =>
      have hxI := List.mem_of_find?_eq_some hf
      rw [hf] at hfd hg
      simp only [Option.map_some] at hfd hg
      have hlo : s.listOf n = x.l := by unfold KS.listOf; rw [hg]; rfl
      have hrw : RW x.l := hok.chs _ (aget_mem hg)
      have hxle := hrw.len
      have HFD := hid hfd
      have HLO := hid hlo
      clear hfd hlo hf hg hrw
      go_wp2_with fail
      refine HFD.out.mono ?_
      rintro e w1 ⟨rfl, rfl⟩
      simp only [Option.map_some]
      go_wp2_with fail
      go_loopg [6] (x.l.length + 1) (fun m v wr => ∃ (i : Nat) (F' : Nat → Prop) (pv' : Value), v = .int .i64 i ∧ i ≤ x.l.length ∧ m = x.l.length + 1 - i ∧ DsR Ze F' wr b1 ((x.l.take i).foldl setD L) I s.lk pv' qv tv ∧ Grew F F' w ∧ Fr (fun j => j = b1) w wr)
      case atStart => exact ⟨0, F, pv, rfl, Nat.zero_le _, rfl, H.out, Grew.refl _ _, Fr.refl _ _⟩
      case round =>
        obtain ⟨i, F', pv', rfl, hi, hm, hds, hgr, hfr⟩ := hrel
        have HN := hid hm
        have HDS := hid hds
        have HGR := hid hgr
        have HFR := hid hfr
        have hxw := hds.wk x hxI
        obtain ⟨A, cp, hv, hAc, hat⟩ := hxw.2.2.1.at_
        have c1 : wr.cell? ⟨x.wb, 1, none⟩ = some (.slice A x.l.length cp) := by rw [cell_of_row _ _ 1 _ _ _ hxw.2.1, ← hv]; rfl
        have HAT := hid hat
        clear hm hds hgr hfr hxw hv hat
        by_cases h2 : i < x.l.length
        · obtain ⟨y, hy⟩ : ∃ y, x.l[i]? = some y := ⟨_, List.getElem?_eq_getElem h2⟩
          obtain ⟨b, off, rfl, hb, hcc⟩ := HAT.out i y hy
          have k0 : wr.cell? ⟨b, off + i * 3, none⟩ = some (.int .i64 y.kind) := hcc 0 _ rfl
          have k1 : wr.cell? ⟨b, off + i * 3 + 1, none⟩ = some (.int .i64 y.key) := hcc 1 _ rfl
          have k2 : wr.cell? ⟨b, off + i * 3 + 2, none⟩ = some (.int .u64 y.val) := hcc 2 _ rfl
          have htk : x.l.take (i + 1) = x.l.take i ++ [y] := by
            rw [List.take_succ_eq_append_getElem h2]
            have : x.l[i] = y := by rw [List.getElem?_eq_getElem h2] at hy; exact Option.some.inj hy
            rw [this]
          have hst := dset_any HDS.out (by
            have := setDs_len (x.l.take i) L
            rw [List.length_take] at this
            omega) y
          have HTK := hid htk
          have HST := hid hst
          clear hcc hy htk hst
          go_wp2_with fail
          refine HST.out.mono ?_
          rintro e w3 ⟨rfl, pv3, h3, f3⟩
          have H3 := hid h3
          have F3 := hid f3
          clear h3 f3
          go_wp2_with fail
          go_roundg (x.l.length + 1 - (i + 1))
          case measure => rw [HN.out]; omega
          case rel =>
            refine ⟨i + 1, _, pv3, by go_num, by omega, rfl, by rw [HTK.out, List.foldl_append]; exact H3.out, HGR.out.trans (grew_more _ _ _) HFR.out.size, HFR.out.trans F3.out (fun j hj => .inl hj)⟩
        · have hi2 : i = x.l.length := by omega
          subst hi2
          have hds := HDS.out
          rw [List.take_length] at hds
          have hdr := ddrop_any hds (by omega) (by omega) n
          have HDR := hid hdr
          clear hdr
          go_wp2_with fail
          refine HDR.out.mono ?_
          rintro e w3 ⟨rfl, qv3, tv3, h3, f3⟩
          go_wp2_with fail
          go_ret
          unfold DPost
          rw [HE.out, HD.out, HLO.out]
          rw [HLO.out] at HKP
          refine ⟨rfl, more F' wr w3, I.filter (fun x => x.n != n), pv', qv3, tv3, ?_, HGR.out.trans (grew_more _ _ _) HFR.out.size, ?_, (HFR.out.trans f3 (fun j hj => .inl hj)).mono (fun j hj => by rw [hj]; exact H.out.b)⟩
          · show DsR Ze _ w3 b1 _ _ (dropA n ((x.l.foldl setV s).lk)) _ _ _
            rw [HKP.out.2]
            exact h3
          · show adel n (x.l.foldl setV s).ws = _
            rw [HKP.out.1, HWS.out, adel_wsOf]
end Go.Proofs.YtdejbinmnoabeaaGreat.D
namespace Go.Proofs.YtdejbinmnoabeaaGreat.D
open Go.Proofs.YtdejbinmnoabeaaGreat.K
variable {Ze : Z3}
open Go.RowKit Go.Mine Go.Proofs.YtdejbinmnoabeaaGreatW.PrintWords
set_option linter.unusedVariables false
set_option linter.unusedSimpArgs false
def DPrep (Ze : Z3) (F : Nat → Prop) (w : World) (b1 : Nat) (L : List (Int × Int)) (pv : Value) (R : (List Ch × Int) × KS) (e : Ending) (w' : World) : Prop :=
  ∃ v, e = .returned (.tuple #[v, .int .i64 R.1.2]) ∧ (∃ F' I' qv' tv', DsR Ze F' w' b1 L I' R.2.lk pv qv' tv' ∧ Grew F F' w ∧ R.2.ws = wsOf I' ∧ (∀ k, v.ownBlock = some k → w.heap.size ≤ k ∧ ¬ F' k)) ∧ ChRow w' v R.1.1 ∧ Fr F w w'
set_option maxRecDepth 100000 in
set_option maxHeartbeats 4000000 in
theorem dprepare_any {F : Nat → Prop} {w : World} {b1 : Nat} {L : List (Int × Int)} {I : List WI} {pv qv tv : Value} {s : KS} (h : DsR Ze F w b1 L I s.lk pv qv tv) (hws : s.ws = wsOf I) (hn : I.length ≤ 900) (hok : s.Ok) (n : Int) :
    Calls Tryz.prog 69 #[.pointer (some ⟨b1, 0, none⟩), .int .i64 n] w (DPrep Ze F w b1 L pv (s.prepare n)) := by
  have H := hid h
  have HWS := hid hws
  have hfd := dfind_any h (by omega) n
  have hrl := hok.rk.len
  have hdr := ddrop_any h (by omega) (by omega) n
  have HDR := hid hdr
  go_enter Tryz.func69, Tryz.ntmps69
  by_cases h1 : n < 1
  · have HE := hid (prep_low (s := s) h1)
    clear h hws hfd hdr
    go_wp2_with fail
    go_ret2
    unfold DPrep
    rw [HE.out]
    exact ⟨.slice none 0 0, rfl, ⟨F, I, qv, tv, H.out, Grew.refl _ _, HWS.out, fun k hk => by simp [Value.ownBlock] at hk⟩, ChRow.none_ _, Fr.refl _ _⟩
  · have HN1 := hid h1
    have hg := aget_ws n I
    rw [← hws] at hg
    unfold findB at hfd
    clear h hws hdr
    cases hf : I.find? (fun x => decide (x.n = n)) with
    | none =>
      rw [hf] at hfd hg
      simp only [Option.map_none] at hfd hg
      have HE := hid (prep_none HN1.out hg)
      have HFD := hid hfd
      clear hfd hf hg
      go_wp2_with fail
      refine HFD.out.mono ?_
      rintro e w1 ⟨rfl, rfl⟩
      simp only [Option.map_none]
      go_wp2_with fail
      refine HDR.out.mono ?_
      rintro e w2 ⟨rfl, qv', tv', h2, f2⟩
      go_wp2_with fail
      go_ret2
      unfold DPrep
      rw [HE.out]
      exact ⟨.slice none 0 0, rfl, ⟨_, _, qv', tv', h2, grew_more _ _ _, by show adel n s.ws = _; rw [HWS.out, adel_wsOf], fun k hk => by simp [Value.ownBlock] at hk⟩, ChRow.none_ _, f2.mono (fun i hi => by rw [hi]; exact H.out.b)⟩
    | some x =>
      obtain ⟨J1, J2, hJ, hxn⟩ := find_split hf
      have hxI := List.mem_of_find?_eq_some hf
      rw [hf] at hfd hg
      simp only [Option.map_some] at hfd hg
      have hrw : RW x.l := hok.chs _ (aget_mem hg)
      have hxle := hrw.len
      have hxw := H.out.wk x hxI
      obtain ⟨A, cp, hv, hAc, hat⟩ := hxw.2.2.1.at_
      have c1 : w.cell? ⟨x.wb, 1, none⟩ = some (.slice A x.l.length cp) := by rw [cell_of_row _ _ 1 _ _ _ hxw.2.1, ← hv]; rfl
      have c2 : w.cell? ⟨x.wb, 2, none⟩ = some (.bool x.p) := by rw [cell_of_row _ _ 2 _ _ _ hxw.2.1]; rfl
      have HFD := hid hfd
      have HG := hid hg
      have HV := hid hv
      have HXW := hid hxw
      clear hfd hf hg hrw hxw hv hat
      cases hxp : x.p
      · rw [hxp] at c2
        by_cases hl0 : x.l = []
        · have HE := hid (prep_empty HN1.out HG.out hxp hl0)
          have hll : (x.l.length : Int) = 0 := by simp [hl0]
          rw [hl0] at c1
          simp only [List.length_nil] at c1
          clear hl0
          go_wp2_with fail
          refine HFD.out.mono ?_
          rintro e w1 ⟨rfl, rfl⟩
          simp only [Option.map_some]
          go_wp2_with fail
          refine HDR.out.mono ?_
          rintro e w2 ⟨rfl, qv', tv', h2, f2⟩
          go_wp2_with fail
          go_ret2
          unfold DPrep
          rw [HE.out]
          exact ⟨.slice none 0 0, rfl, ⟨_, _, qv', tv', h2, grew_more _ _ _, by show adel n s.ws = _; rw [HWS.out, adel_wsOf], fun k hk => by simp [Value.ownBlock] at hk⟩, ChRow.none_ _, f2.mono (fun i hi => by rw [hi]; exact H.out.b)⟩
        · have HE := hid (prep_done HN1.out HG.out hxp hl0)
          have hll : ((x.l.length : Int) == 0) = false := by
            have : x.l.length ≠ 0 := fun q => hl0 (List.eq_nil_of_length_eq_zero q)
            simpa using this
          subst hJ
          have hz1 : w.frozen? ⟨x.wb, 2, none⟩ = false := by simp [World.frozen?, HXW.out.2.1]
          have hcl1 : (w.setCell ⟨x.wb, 2, none⟩ (.bool true)).cell? ⟨x.wb, 1, none⟩ = some (.slice A x.l.length cp) := by
            rw [World.cell?_setCell_other _ _ _ _ (by simp)]; exact c1
          have hf1 : Fr (fun i => i = x.wb ∨ x.v.ownBlock = some i) w (w.setCell ⟨x.wb, 2, none⟩ (.bool true)) := (Fr.refl _ w).setCell (.inl (.inl rfl)) _
          have hb1 : (w.setCell ⟨x.wb, 2, none⟩ (.bool true)).heap[x.wb]? = some (.cells #[.int .i64 x.n, x.v, .bool true] 123 (0, 0)) := blk_set' HXW.out.2.1 2 _
          have hr1 : ChRow (w.setCell ⟨x.wb, 2, none⟩ (.bool true)) x.v x.l := HXW.out.2.2.1.move (fun k hk => Below.heap_setCell _ _ _ _ (fun q => by
            have q' : k = x.wb := q
            subst q'
            exact types_ne (HXW.out.2.2.1.typed _ hk) ⟨_, HXW.out.2.1⟩ (by decide)))
          have hK := H.out.work hf1 hb1 hr1 (.inl rfl)
          have hfr : Fr F w (w.setCell ⟨x.wb, 2, none⟩ (.bool true)) := hf1.mono (fun j hj => by
            rcases hj with q | q
            · rw [q]; exact HXW.out.1
            · exact HXW.out.2.2.2 j q)
          have hrow := hr1
          rw [HV.out] at hrow
          have hC := (Kd.R_reads' hrow).2.2
          have HK := hid hK
          have HFR := hid hfr
          have HROW := hid hC
          clear hf1 hb1 hr1 hK hfr hrow hC hl0
          go_wp2_with fail
          refine HFD.out.mono ?_
          rintro e w1 ⟨rfl, rfl⟩
          simp only [Option.map_some]
          go_wp2_with (at_builtin; go_loud (refine Kd.R_append_rows kch (Rr := fun x cs => cs = encCh x) (w0 := (w.setCell ⟨x.wb, 2, none⟩ (.bool true))) (w.setCell ⟨x.wb, 2, none⟩ (.bool true)).heap.size rfl (.tmp 37) (.tmp 41) 40 90 _ 24 rfl Tryz.underlying40 info90 (by rfl) (by decide) (by decide) (.slice none 0 0) [] x.l A x.l.length cp (fun _ => True) (fun _ => False) rfl rfl (Kd.R_nil _ _ _ _ _) HROW.out (fun _ _ h => h) (fun _ h => h.elim) (fun _ _ => trivial) (Below.refl _ _) (Nat.le_refl _) (by simp only [List.length_nil]; omega) ?_); intro v7 w7 ho7 hb7 hg7 hat7)
          go_ret2
          unfold DPrep
          rw [HE.out]
          have hfb := HK.out.fb
          have hsz : (w.setCell ⟨x.wb, 2, none⟩ (.bool true)).heap.size = w.heap.size := by simp [World.setCell]
          have hv7 : ∀ k, v7.ownBlock = some k → (w.setCell ⟨x.wb, 2, none⟩ (.bool true)).heap.size ≤ k := fun k hk => (Kd.R_bound ho7).1 k hk |>.2.1
          refine ⟨v7, rfl, ⟨_, _, qv, tv, HK.out.below hb7, grew_more _ _ _, ?_, fun k hk => ⟨?_, fun q => ?_⟩⟩, Kd.R_lower ho7 (Nat.zero_le _), HFR.out.trans ((Fr.of_below hb7 (Nat.le_refl _)).mono (fun _ q => q.elim)) (fun i hi => .inl hi)⟩
          · show aput n ⟨x.l, true⟩ s.ws = _
            exact aput_ws hok.keys HWS.out hxn _ _ _
          · have := hv7 k hk; omega
          · have := hv7 k hk; have := hfb k q; omega
      · rw [hxp] at c2
        have HE := hid (prep_again HN1.out HG.out hxp)
        go_wp2_with fail
        refine HFD.out.mono ?_
        rintro e w1 ⟨rfl, rfl⟩
        simp only [Option.map_some]
        go_wp2_with fail
        go_ret2
        unfold DPrep
        rw [HE.out]
        exact ⟨.slice none 0 0, rfl, ⟨F, I, qv, tv, H.out, Grew.refl _ _, HWS.out, fun k hk => by simp [Value.ownBlock] at hk⟩, ChRow.none_ _, Fr.refl _ _⟩
end Go.Proofs.YtdejbinmnoabeaaGreat.D
namespace Go.Mine
theorem seen_step {l : List Ch} {i : Nat} {y : Ch} {sn : List Int} (h : ∀ k : Int, sn.contains k = true ↔ ∃ j z, j < i ∧ l[j]? = some z ∧ z.key = k) (hy : l[i]? = some y) : ∀ k : Int, (y.key :: sn).contains k = true ↔ ∃ j z, j < i + 1 ∧ l[j]? = some z ∧ z.key = k := by
  intro k
  have h1 : (y.key :: sn).contains k = true ↔ (k = y.key ∨ sn.contains k = true) := by simp
  rw [h1, h k]
  constructor
  · rintro (rfl | ⟨j, z, hj, hz, he⟩)
    · exact ⟨i, y, by omega, hy, rfl⟩
    · exact ⟨j, z, by omega, hz, he⟩
  · rintro ⟨j, z, hj, hz, he⟩
    rcases Nat.lt_succ_iff_lt_or_eq.1 hj with q | q
    · exact .inr ⟨j, z, q, hz, he⟩
    · subst q
      rw [hy] at hz
      cases hz
      exact .inl he.symm
end Go.Mine
namespace Go.Proofs.YtdejbinmnoabeaaGreat.D
open Go.Proofs.YtdejbinmnoabeaaGreat.K
variable {Ze : Z3}
open Go.RowKit Go.Mine Go.Proofs.YtdejbinmnoabeaaGreatW.PrintWords
set_option linter.unusedVariables false
set_option linter.unusedSimpArgs false
set_option maxRecDepth 100000 in
set_option maxHeartbeats 4000000 in
theorem drright_any (A : Option Addr) (l : List Ch) (c B : Nat) (w : World) (hl : ChAt w B A l) (hB : B ≤ w.heap.size) (hlen : l.length ≤ 1000000) :
    Calls Tryz.prog 104 #[.slice A l.length c] w fun e w' => e = .returned (.bool (rightL l [])) ∧ Below w.heap.size w w' := by
  go_enter Tryz.func104, Tryz.ntmps104
  go_wp2_with fail
  go_loopg [3] (l.length + 1) (fun m v wr => ∃ (i : Nat) (sn : List Int), v = .int .i64 i ∧ i ≤ l.length ∧ m = l.length + 1 - i ∧ rightL l [] = rightL (l.drop i) sn ∧ (∀ k : Int, sn.contains k = true ↔ ∃ j z, j < i ∧ l[j]? = some z ∧ z.key = k) ∧ Below w.heap.size w wr)
  case atStart => exact ⟨0, [], rfl, Nat.zero_le _, rfl, rfl, fun k => ⟨fun q => by simp at q, fun ⟨j, z, q, _⟩ => by omega⟩, Below.refl _ _⟩
  case round =>
    obtain ⟨i, sn, rfl, hi, hm, hr, hsn, hb⟩ := hrel
    have HN := hid hm
    have HR := hid hr
    have HSN := hid hsn
    clear hm hr hsn
    by_cases h1 : i < l.length
    · obtain ⟨⟨kd, ky, vl⟩, hy⟩ : ∃ y, l[i]? = some y := ⟨_, List.getElem?_eq_getElem h1⟩
      have HY := hid hy
      have HST := hid (HR.out.trans (right_step (sn := sn) hy))
      have hla := hl.below (hb.mono hB)
      obtain ⟨b, off, rfl, hbb, hcc⟩ := hla i _ hy
      have k0 : wr.cell? ⟨b, off + i * 3, none⟩ = some (.int .i64 kd) := hcc 0 _ rfl
      have k1 := hcc 1 _ rfl
      have k2 := hcc 2 _ rfl
      have hba0 : Below wr.heap.size wr (wr.alloc (.cells #[.int .i64 kd, .int .i64 ky, .int .u64 vl] 90)) := (Below.refl _ _).alloc (Nat.le_refl _) _
      have hBr : B ≤ wr.heap.size := Nat.le_trans hB hb.size
      have hla1 := hla.below (hba0.mono hBr)
      have hba := hb.trans (hba0.mono hb.size)
      have e1 : (wr.alloc (.cells #[.int .i64 kd, .int .i64 ky, .int .u64 vl] 90)).cell? ⟨wr.heap.size, 1, none⟩ = some (.int .i64 ky) := by
        rw [cell_of_row _ _ 1 _ _ _ (MapKept.heap_alloc wr _).1]; rfl
      have HLA := hid hla1
      have HBA := hid hba
      have HE1 := hid e1
      have hfalse : chOk ⟨kd, ky, vl⟩ = false ∨ sn.contains ky = true → rightL l [] = false := by
        intro q
        rw [HST.out]
        rcases q with q | q
        · rw [q]; rfl
        · rw [q]; simp
      have HF := hid hfalse
      clear hcc hy hla hla1 hba hba0 e1 hfalse
      by_cases g0 : ky < 0
      · have hbad : chOk ⟨kd, ky, vl⟩ = false := by
          cases hq : chOk ⟨kd, ky, vl⟩ with
          | false => rfl
          | true => have q0 := (chOk_iff ⟨kd, ky, vl⟩).1 hq; dsimp only at q0; omega
        have HBAD := hid (HF.out (.inl hbad))
        clear hbad
        go_wp2_with fail
        go_ret
        exact ⟨by rw [HBAD.out]; rfl, HBA.out⟩
      · by_cases g1 : 15 < ky
        · have hbad : chOk ⟨kd, ky, vl⟩ = false := by
            cases hq : chOk ⟨kd, ky, vl⟩ with
            | false => rfl
            | true => have q0 := (chOk_iff ⟨kd, ky, vl⟩).1 hq; dsimp only at q0; omega
          have HBAD := hid (HF.out (.inl hbad))
          clear hbad
          go_wp2_with fail
          go_ret
          exact ⟨by rw [HBAD.out]; rfl, HBA.out⟩
        · by_cases g2 : kd < 1
          · have hbad : chOk ⟨kd, ky, vl⟩ = false := by
              cases hq : chOk ⟨kd, ky, vl⟩ with
              | false => rfl
              | true => have q0 := (chOk_iff ⟨kd, ky, vl⟩).1 hq; dsimp only at q0; omega
            have HBAD := hid (HF.out (.inl hbad))
            clear hbad
            go_wp2_with fail
            go_ret
            exact ⟨by rw [HBAD.out]; rfl, HBA.out⟩
          · by_cases g3 : 2 < kd
            · have hbad : chOk ⟨kd, ky, vl⟩ = false := by
                cases hq : chOk ⟨kd, ky, vl⟩ with
                | false => rfl
                | true => have q0 := (chOk_iff ⟨kd, ky, vl⟩).1 hq; dsimp only at q0; omega
              have HBAD := hid (HF.out (.inl hbad))
              clear hbad
              go_wp2_with fail
              go_ret
              exact ⟨by rw [HBAD.out]; rfl, HBA.out⟩
            · have hkd : kd = 1 ∨ kd = 2 := by omega
              rcases hkd with rfl | rfl
              · have HCHK := hid ((chOk_iff ⟨1, ky, vl⟩).2 ⟨.inl rfl, by dsimp only; omega, by dsimp only; omega⟩)
                go_wp2_with fail
                generalize hwb : wr.alloc (.cells #[.int .i64 1, .int .i64 ky, .int .u64 vl] 90) = wb at *
                generalize wr.heap.size = nb at *
                have he1 := HE1.out
                clear hwb
                go_loopg [5] (i + 1) (fun m v wq => ∃ j : Nat, v = .int .i64 j ∧ j ≤ i ∧ m = i + 1 - j ∧ (∃ q, wq = wb.drewN q) ∧ ∀ j' z, j' < j → l[j']? = some z → z.key ≠ ky)
                case atStart => exact ⟨0, rfl, Nat.zero_le _, rfl, ⟨0, rfl⟩, fun _ _ q => by omega⟩
                case round =>
                  obtain ⟨j, rfl, hj, hm, ⟨qn, hq⟩, hno⟩ := hrel
                  subst hq
                  have HM := hid hm
                  have HNO := hid hno
                  clear hm hno
                  by_cases h2 : j < i
                  · obtain ⟨z, hz⟩ : ∃ z, l[j]? = some z := ⟨_, List.getElem?_eq_getElem (by omega)⟩
                    obtain ⟨b', off', he, _, hcz⟩ := HLA.out j z hz
                    cases he
                    have z1 : wb.cell? ⟨b, off + j * 3 + 1, none⟩ = some (.int .i64 z.key) := hcz 1 _ rfl
                    have hjl : j < l.length := by omega
                    have HZ := hid hz
                    clear hcz hz
                    cases hne : (z.key == ky)
                    · have HNE := hid hne
                      go_wp2_with fail
                      go_quiet (fail)
                      go_wp2_with fail
                      go_roundg (i + 1 - (j + 1))
                      case measure => rw [HM.out]; omega
                      case rel => exact ⟨j + 1, by go_num, by omega, rfl, ⟨_, rfl⟩, fun j' z' hj' hz' => by
                        rcases Nat.lt_succ_iff_lt_or_eq.1 hj' with q | q
                        · exact HNO.out j' z' q hz'
                        · subst q
                          rw [HZ.out] at hz'
                          cases hz'
                          simpa using HNE.out⟩
                    · have hin : sn.contains ky = true := (HSN.out _).2 ⟨j, z, h2, HZ.out, by simpa using hne⟩
                      have HBAD := hid (HF.out (.inr hin))
                      clear hin
                      go_wp2_with fail
                      go_quiet (fail)
                      go_wp2_with fail
                      go_ret
                      exact ⟨by rw [HBAD.out]; rfl, HBA.out.trans (((bdN wb qn).mono HBA.out.size).trans ((bdN (wb.drewN qn) _).mono (Nat.le_trans HBA.out.size (bdN wb qn).size)))⟩
                  · have hji : j = i := by omega
                    subst hji
                    have hnew : rightL l [] = rightL (l.drop (j + 1)) (ky :: sn) := by
                      rw [HST.out, HCHK.out]
                      have hq : sn.contains ky = false := by
                        cases hc : sn.contains ky with
                        | false => rfl
                        | true =>
                          obtain ⟨j', z, hj', hz, he⟩ := (HSN.out _).1 hc
                          exact absurd he (HNO.out j' z hj' hz)
                      rw [hq]
                      rfl
                    have HNEW := hid hnew
                    clear hnew
                    go_wp2_with fail
                    go_roundg (l.length + 1 - (j + 1))
                    case measure => rw [HN.out]; omega
                    case rel => exact ⟨j + 1, ky :: sn, by go_num, by omega, rfl, HNEW.out, seen_step HSN.out HY.out, HBA.out.trans (by have := bdN wb qn; exact this.mono HBA.out.size)⟩
              · by_cases g4 : vl = 0
                · subst g4
                  have HCHK := hid ((chOk_iff ⟨2, ky, 0⟩).2 ⟨.inr ⟨rfl, rfl⟩, by dsimp only; omega, by dsimp only; omega⟩)
                  go_wp2_with fail
                  generalize hwb : wr.alloc (.cells #[.int .i64 2, .int .i64 ky, .int .u64 0] 90) = wb at *
                  generalize wr.heap.size = nb at *
                  have he1 := HE1.out
                  clear hwb
                  go_loopg [5] (i + 1) (fun m v wq => ∃ j : Nat, v = .int .i64 j ∧ j ≤ i ∧ m = i + 1 - j ∧ (∃ q, wq = wb.drewN q) ∧ ∀ j' z, j' < j → l[j']? = some z → z.key ≠ ky)
                  case atStart => exact ⟨0, rfl, Nat.zero_le _, rfl, ⟨0, rfl⟩, fun _ _ q => by omega⟩
                  case round =>
                    obtain ⟨j, rfl, hj, hm, ⟨qn, hq⟩, hno⟩ := hrel
                    subst hq
                    have HM := hid hm
                    have HNO := hid hno
                    clear hm hno
                    by_cases h2 : j < i
                    · obtain ⟨z, hz⟩ : ∃ z, l[j]? = some z := ⟨_, List.getElem?_eq_getElem (by omega)⟩
                      obtain ⟨b', off', he, _, hcz⟩ := HLA.out j z hz
                      cases he
                      have z1 : wb.cell? ⟨b, off + j * 3 + 1, none⟩ = some (.int .i64 z.key) := hcz 1 _ rfl
                      have hjl : j < l.length := by omega
                      have HZ := hid hz
                      clear hcz hz
                      cases hne : (z.key == ky)
                      · have HNE := hid hne
                        go_wp2_with fail
                        go_quiet (fail)
                        go_wp2_with fail
                        go_roundg (i + 1 - (j + 1))
                        case measure => rw [HM.out]; omega
                        case rel => exact ⟨j + 1, by go_num, by omega, rfl, ⟨_, rfl⟩, fun j' z' hj' hz' => by
                          rcases Nat.lt_succ_iff_lt_or_eq.1 hj' with q | q
                          · exact HNO.out j' z' q hz'
                          · subst q
                            rw [HZ.out] at hz'
                            cases hz'
                            simpa using HNE.out⟩
                      · have hin : sn.contains ky = true := (HSN.out _).2 ⟨j, z, h2, HZ.out, by simpa using hne⟩
                        have HBAD := hid (HF.out (.inr hin))
                        clear hin
                        go_wp2_with fail
                        go_quiet (fail)
                        go_wp2_with fail
                        go_ret
                        exact ⟨by rw [HBAD.out]; rfl, HBA.out.trans (((bdN wb qn).mono HBA.out.size).trans ((bdN (wb.drewN qn) _).mono (Nat.le_trans HBA.out.size (bdN wb qn).size)))⟩
                    · have hji : j = i := by omega
                      subst hji
                      have hnew : rightL l [] = rightL (l.drop (j + 1)) (ky :: sn) := by
                        rw [HST.out, HCHK.out]
                        have hq : sn.contains ky = false := by
                          cases hc : sn.contains ky with
                          | false => rfl
                          | true =>
                            obtain ⟨j', z, hj', hz, he⟩ := (HSN.out _).1 hc
                            exact absurd he (HNO.out j' z hj' hz)
                        rw [hq]
                        rfl
                      have HNEW := hid hnew
                      clear hnew
                      go_wp2_with fail
                      go_roundg (l.length + 1 - (j + 1))
                      case measure => rw [HN.out]; omega
                      case rel => exact ⟨j + 1, ky :: sn, by go_num, by omega, rfl, HNEW.out, seen_step HSN.out HY.out, HBA.out.trans (by have := bdN wb qn; exact this.mono HBA.out.size)⟩
                · have g5 : (vl == 0) = false := by simpa using g4
                  have hbad : chOk ⟨2, ky, vl⟩ = false := by
                    cases hq : chOk ⟨2, ky, vl⟩ with
                    | false => rfl
                    | true => have q0 := (chOk_iff ⟨2, ky, vl⟩).1 hq; dsimp only at q0; omega
                  have HBAD := hid (HF.out (.inl hbad))
                  clear hbad
                  go_wp2_with fail
                  go_ret
                  exact ⟨by rw [HBAD.out]; rfl, HBA.out⟩
    · have : i = l.length := by omega
      subst this
      have HT : Hid (rightL l [] = true) := hid (by rw [HR.out, List.drop_length]; rfl)
      go_wp2_with fail
      go_ret
      exact ⟨by rw [HT.out]; rfl, hb⟩
end Go.Proofs.YtdejbinmnoabeaaGreat.D
namespace Go.Proofs.YtdejbinmnoabeaaGreat.D
open Go.Proofs.YtdejbinmnoabeaaGreat.K
variable {Ze : Z3}
open Go.RowKit Go.Mine Go.Proofs.YtdejbinmnoabeaaGreatW.PrintWords
set_option linter.unusedVariables false
set_option linter.unusedSimpArgs false
theorem _root_.Go.Proofs.YtdejbinmnoabeaaGreat.K.ChAt.fr2 {F : Nat → Prop} {w w' : World} {B : Nat} {A : Option Addr} {l : List Ch} (h : ChAt w B A l) (hf : Fr F w w') (hA : l ≠ [] → Beside F w A) : ChAt w' B A l := by
  intro i x hx
  have hne : l ≠ [] := by rintro rfl; simp at hx
  obtain ⟨b, off, e, hlt, hc⟩ := h i x hx
  exact ⟨b, off, e, hlt, fun j v hv => hf.cell (hc j v hv) (hA hne b off e).1⟩
set_option maxRecDepth 100000 in
set_option maxHeartbeats 4000000 in
theorem drestore_any {F : Nat → Prop} {w : World} {b1 : Nat} {L : List (Int × Int)} {I : List WI} {pv qv tv : Value} {s : KS} (h : DsR Ze F w b1 L I s.lk pv qv tv) (hws : s.ws = wsOf I) (hI : I.length ≤ 900) (hok : s.Ok) (n : Int) (A : Option Addr) (l : List Ch) (c : Nat) (hl : ChAt w w.heap.size A l) (hA : l ≠ [] → Beside F w A) (hn : l.length ≤ 100000) (hc : l.length ≤ c) :
    Calls Tryz.prog 75 #[.pointer (some ⟨b1, 0, none⟩), .int .i64 n, .slice A l.length c] w (DPost Ze F w b1 L (s.restore n l).1 (s.restore n l).2) := by
  have hright := drright_any A l c _ w hl (Nat.le_refl _) (by omega)
  have HRI := hid hright
  have H := hid h
  clear hright
  go_enter Tryz.func75, Tryz.ntmps75
  by_cases hn1 : n < 1
  · have HE := hid (krest_low (s := s) (l := l) hn1)
    go_wp2_with fail
    go_ret
    unfold DPost
    rw [HE.out]
    exact ⟨rfl, F, I, pv, qv, tv, H.out, Grew.refl _ _, hws, Fr.refl _ _⟩
  · have HN1 := hid hn1
    clear hn1
    have hn2 : decide (n < 1) = false := by have := HN1.out; simpa using this
    go_wp2_with fail
    refine HRI.out.mono ?_
    rintro e w1 ⟨rfl, f1⟩
    have f1r : Fr (fun _ => False) w w1 := Fr.of_below f1 (Nat.le_refl _)
    have h1 := h.below f1
    have hl1 := (hl.below f1).up f1.size
    have hA1 : l ≠ [] → Beside F w1 A := fun hne b off e => ⟨(hA hne b off e).1, Nat.lt_of_lt_of_le (hA hne b off e).2 f1.size⟩
    have fr1 : Fr F w w1 := f1r.mono (fun _ q => q.elim)
    clear HRI hl hA h f1r
    cases hr : rightL l []
    · have HE := hid (krest_bad (s := s) (n := n) (by have := HN1.out; omega) hr)
      go_wp2_with fail
      go_ret
      unfold DPost
      rw [HE.out]
      exact ⟨rfl, F, I, pv, qv, tv, h1, Grew.refl _ _, hws, fr1⟩
    · have HRT := hid hr
      clear hr
      have hfd := dfind_any h1 (by omega) n
      unfold findB at hfd
      have hg := aget_ws n I
      rw [← hws] at hg
      have HW := hid hws
      have HR := hid h1
      clear hws h1
      cases hf : I.find? (fun x => decide (x.n = n)) with
      | some x =>
        rw [hf] at hfd hg
        simp only [Option.map_some] at hfd hg
        have HE := hid (krest_there (n := n) (by have := HN1.out; omega) HRT.out (by rw [hg]; rfl))
        have HFD := hid hfd
        clear hf hg hfd
        go_wp2_with fail
        refine HFD.out.mono ?_
        rintro e w2 ⟨rfl, rfl⟩
        go_wp2_with fail
        go_ret
        unfold DPost
        rw [HE.out]
        exact ⟨rfl, F, I, pv, qv, tv, HR.out, Grew.refl _ _, HW.out, fr1⟩
      | none =>
        rw [hf] at hfd hg
        simp only [Option.map_none] at hfd hg
        have HG := hid hg
        have HF := hid hf
        have HFD := hid hfd
        have HOK := hid hok
        clear hg hf hfd hok
        go_wp2_with fail
        refine HFD.out.mono ?_
        rintro e w2 ⟨rfl, rfl⟩
        go_wp2_with fail
        go_loopg [7] (l.length + 1) (fun m v wr => ∃ (i : Nat) (Ai : LTab) (tv' : Value) (F' : Nat → Prop), v = .int .i64 i ∧ i ≤ l.length ∧ m = l.length + 1 - i ∧ takeAll n l s.lk = takeAll n (l.drop i) Ai ∧ Right Ai ∧ DsR Ze F' wr b1 L I Ai pv qv tv' ∧ Grew F F' w1 ∧ Fr F w1 wr)
        case atStart => exact ⟨0, s.lk, tv, F, rfl, Nat.zero_le _, rfl, rfl, HOK.out.rk, HR.out, Grew.refl _ _, Fr.refl _ _⟩
        case round =>
          obtain ⟨i, Ai, tvi, F', rfl, hi, hm, hta, hri, hRi, hgr, hfr⟩ := hrel
          have HN := hid hm
          have HTA := hid hta
          have HRI := hid hri
          have HRi := hid hRi
          clear hm hta hri hRi
          by_cases hil : i < l.length
          · obtain ⟨y, hy⟩ : ∃ y, l[i]? = some y := ⟨_, List.getElem?_eq_getElem hil⟩
            obtain ⟨b, off, rfl, hbb, hcc⟩ := (hl1.fr2 hfr hA1) i y hy
            have k1 : wr.cell? ⟨b, off + i * 3 + 1, none⟩ = some (.int .i64 y.key) := hcc 1 _ rfl
            have HST := hid (HTA.out.trans (takeAll_step (A := Ai) hy))
            clear hcc hy
            go_wp2_with fail
            go_still_tail 9, (by kernel_rfl)
            change wpList _ _ _ _ _ wr.drew
            have fz : Fr (fun _ => False) wr wr.drew := (Fr.refl _ wr).drew
            have HRz := hid (HRi.out.fr fz (fun _ _ => id))
            have hfz := hfr.trans fz (fun _ q => q.elim)
            clear k1 HRi fz
            generalize wr.drew = wz at *
            have HT := hid (ref_take (⟨HRz.out.blk, HRz.out.lr⟩ : RS Ze wz b1 pv qv tvi Ai) HRI.out n y.key true)
            go_wp2_with fail
            refine HT.out.mono ?_
            rintro e w2 ⟨rfl, tv2, ht2, ho2, hf2⟩
            have h2 := HRz.out.lock ht2 hf2 ho2
            have hfF : Fr F' wz w2 := hf2.mono (fun j hj => hj ▸ HRz.out.b)
            have hfr2 : Fr F w1 w2 := hfz.trans hfF (fun j hj => hgr j hj)
            have hgr2 : Grew F (more F' wz w2) w1 := hgr.trans (grew_more F' wz w2) hfz.size
            cases hz : ((takeA Ai n y.key true).1 != 0)
            · have h0 : (takeA Ai n y.key true).1 = 0 := by simpa using hz
              have hst := HST.out
              rw [if_neg (by simp [h0])] at hst
              have HS2 := hid hst
              have HRk := hid (HRI.out.take n y.key true)
              have H2 := hid h2
              clear h0 hst h2 ht2 hf2 hfF hfz HRz HT
              go_wp2_with fail
              go_roundg (l.length + 1 - (i + 1))
              case measure => rw [HN.out]; omega
              case rel => exact ⟨i + 1, _, tv2, _, by go_num, by omega, rfl, HS2.out, HRk.out, H2.out, hgr2, hfr2⟩
            · have hne : (takeA Ai n y.key true).1 ≠ 0 := by simpa using hz
              have hst := HST.out
              rw [if_pos hne] at hst
              have htn : (takeAll n l s.lk).1 ≠ 0 := by rw [hst]; exact hne
              have HE := hid (rest_lock (n := n) (by have := HN1.out; omega) HRT.out HG.out htn)
              have HS2 := hid hst
              rw [takeA_keep hne] at h2 ht2
              have H2 := hid h2
              have HD := hid (ref_drop (⟨h2.blk, h2.lr⟩ : RS Ze w2 b1 pv qv tv2 Ai) (by have := HRI.out.len; omega) n)
              clear hne hst htn h2 ht2 hf2 hfF hfz HRz HT
              go_wp2_with fail
              refine HD.out.mono ?_
              rintro e w3 ⟨rfl, tv3, ht3, ho3, hf3⟩
              have h3 := H2.out.lock ht3 hf3 (fun j hj => .inr (ho3 j hj))
              have hfr3 : Fr F w w3 := fr1.trans (hfr2.trans (hf3.mono (fun j hj => hj ▸ H2.out.b)) (fun j hj => hgr2 j hj)) (fun j hj => .inl hj)
              have H3 := hid h3
              clear h3 ht3
              go_wp2_with fail
              go_ret
              unfold DPost
              rw [HE.out, HS2.out]
              exact ⟨rfl, _, I, pv, qv, tv3, H3.out, fun j hj => ((hgr2.trans (grew_more _ w2 w3) hfr2.size) j hj).imp id (fun q => Nat.le_trans fr1.size q), HW.out, hfr3⟩
          · have : i = l.length := by omega
            subst this
            have hta := HTA.out
            rw [List.drop_length] at hta
            have hz : (takeAll n l s.lk).1 = 0 := by rw [hta]; rfl
            have HE := hid (krest_do (n := n) (by have := HN1.out; omega) HRT.out HG.out hz)
            have HTT := hid hta
            clear hta hz
            have hfrw : Fr F w wr := fr1.trans hfr (fun j hj => .inl hj)
            by_cases hl0 : l = []
            · have hll : (l.length : Int) = 0 := by simp [hl0]
              have HL0 := hid hl0
              clear hl0
              go_wp2_with fail
              go_ret
              unfold DPost
              rw [HE.out, HTT.out]
              refine ⟨rfl, F', I, pv, qv, tvi, HRi.out, fun j hj => (hgr j hj).imp id (fun q => Nat.le_trans fr1.size q), ?_, hfrw⟩
              simp only [HL0.out, if_true]; exact HW.out
            · have hlp : (0 : Int) < l.length := by
                have : l.length ≠ 0 := fun q => hl0 (List.eq_nil_of_length_eq_zero q)
                omega
              have HL0 := hid hl0
              clear hl0
              obtain ⟨Aq, cq, rfl, hAq, _⟩ := wp_at HRi.out.wp
              rw [List.length_map] at hAq HRi
              have hlw := HRi.out.fb _ HRi.out.b
              have hchr := hl1.fr2 hfr hA1
              have hb3 : Below wr.heap.size wr (wr.alloc (.cells #[.int .i64 n, .slice none 0 0, .bool true] 123)) := (Below.refl _ _).alloc (Nat.le_refl _) _
              have hy3 : (wr.alloc (.cells #[.int .i64 n, .slice none 0 0, .bool true] 123)).heap[wr.heap.size]? = some (.cells #[.int .i64 n, .slice none 0 0, .bool true] 123 (0, 0)) := (MapKept.heap_alloc wr _).1
              have hy31 : (wr.alloc (.cells #[.int .i64 n, .slice none 0 0, .bool true] 123)).cell? ⟨wr.heap.size, 1, none⟩ = some (.slice none 0 0) := by rw [cell_of_row _ _ 1 _ _ _ hy3]; rfl
              have hH3 := HRi.out.below hb3
              have hch3 := (hchr.below (hb3.mono hfr.size)).row (by omega)
              have hs3 : (wr.alloc (.cells #[.int .i64 n, .slice none 0 0, .bool true] 123)).heap.size = wr.heap.size + 1 := by simp
              have hw3 : Fr (fun _ => False) wr (wr.alloc (.cells #[.int .i64 n, .slice none 0 0, .bool true] 123)) := (Fr.refl _ wr).alloc _
              have HH3 := hid hH3
              have HCH3 := hid hch3
              have HY3 := hid hy3
              have HW3 := hid hw3
              have HB3 := hid hb3
              have HS3 := hid hs3
              clear hH3 hch3 hchr hy3 hw3 hb3 hs3
              go_wp2_with (first | (at_builtin; go_loud (refine Kd.R_append_rows kch (Rr := fun x cs => cs = encCh x) (w0 := (wr.alloc (.cells #[.int .i64 n, .slice none 0 0, .bool true] 123))) (wr.alloc (.cells #[.int .i64 n, .slice none 0 0, .bool true] 123)).heap.size rfl (.tmp 55) (.tmp 56) 40 90 _ 24 rfl Tryz.underlying40 info90 (by rfl) (by decide) (by decide) (.slice none 0 0) [] l A l.length c (fun _ => True) (fun _ => False) rfl rfl (Kd.R_nil _ _ _ _ _) HCH3.out (fun _ _ h => h) (fun _ h => h.elim) (fun _ _ => trivial) (Below.refl _ _) (Nat.le_refl _) (by simp only [List.length_nil]; omega) ?_); intro v7 w7 ho7 hb7 hg7 hat7; clear hg7 hat7; obtain ⟨A7, c7, hv7⟩ := Kd.R_slice ho7; rw [List.nil_append] at hv7; subst hv7; have hx7 : w7.heap[wr.heap.size]? = some (.cells #[.int .i64 n, .slice none 0 0, .bool true] 123 (0, 0)) := (hb7.block _ (by rw [HS3.out]; omega)).trans HY3.out; have hy7 : w7.cell? ⟨wr.heap.size, 1, none⟩ = some (.slice none 0 0) := (by rw [cell_of_row w7 _ 1 _ _ _ hx7]; rfl); have hz7 : w7.frozen? ⟨wr.heap.size, 1, none⟩ = false := (by simp [World.frozen?, hx7]); have hf8 : Fr (fun i => i = wr.heap.size) (wr.alloc (.cells #[.int .i64 n, .slice none 0 0, .bool true] 123)) (w7.setCell ⟨wr.heap.size, 1, none⟩ (.slice A7 l.length c7)) := Fr.setCell (S := fun i => i = wr.heap.size) (p := ⟨wr.heap.size, 1, none⟩) ((Fr.of_below hb7 (Nat.le_refl _)).mono (fun _ q => q.elim)) (.inl rfl) _; have hH8 := HH3.out.fr hf8 (fun i hi q => (by have := HRi.out.fb i hi; omega)); have hc8 : (w7.setCell ⟨wr.heap.size, 1, none⟩ (.slice A7 l.length c7)).cell? ⟨b1, 1, none⟩ = some (.slice Aq I.length cq) := (by rw [cell_of_row _ b1 1 _ _ _ hH8.blk]; rfl); have hb8 := blk_set' hx7 1 (.slice A7 l.length c7); have ho8 : ∀ k, (Value.slice A7 l.length c7).ownBlock = some k → wr.heap.size + 1 ≤ k := (fun k hk => HS3.out ▸ Kd.R_base ho7 k hk); have hr8 : ChRow (w7.setCell ⟨wr.heap.size, 1, none⟩ (.slice A7 l.length c7)) (.slice A7 l.length c7) l := ChRow.move (Kd.R_lower ho7 (Nat.zero_le _)) (fun k hk => Below.heap_setCell _ _ _ _ (fun q => (by have h0 := ho8 k hk; have q' : k = wr.heap.size := q; omega))); have HF8 := hid hf8; have HH8 := hid hH8; have HB8 := hid hb8; have HO8 := hid ho8; have HR8 := hid hr8; clear ho7 hb7 hx7 hf8 hH8 hb8 ho8 hr8) | (at_builtin; go_loud (refine Kd.R_append kwp (w0 := (w7.setCell ⟨wr.heap.size, 1, none⟩ (.slice A7 l.length c7))) 0 rfl (.tmp 64) (.tmp 66) 27 100 _ 8 rfl Tryz.underlying27 info100 (by rfl) (by decide) (by decide) (.slice Aq I.length cq) (I.map (·.wb)) wr.heap.size [ptrV wr.heap.size] (fun _ => True) (fun _ => False) rfl (by first | rfl | (simp [World.setCell]; rfl)) rfl (fun _ q => q.elim) (fun _ _ => trivial) HH8.out.wp (Below.refl _ _) (Nat.zero_le _) (by rw [List.length_map]; omega) ?_); intro v9 w9 ho9 hb9 hg9 hat9; have hx9 : w9.heap[b1]? = some (.cells #[pv, .slice Aq I.length cq, tvi, Ze.a, Ze.b, Ze.c] 38 (0, 0)) := (hg9.block _ (HH8.out.fb _ HH8.out.b) (fun q => HH8.out.wp.ne HH8.out.blk (by decide) q.symm)).trans HH8.out.blk; have hz9 : w9.frozen? ⟨b1, 1, none⟩ = false := (by simp [World.frozen?, hx9]); have hc9 : w9.cell? ⟨b1, 1, none⟩ = some (.slice Aq I.length cq) := (by rw [cell_of_row w9 _ 1 _ _ _ hx9]; rfl); have HO9 := hid ho9; have HX9 := hid hx9; have HG9 := hid hg9; have HAT9 := hid hat9; clear ho9 hb9 hg9 hat9 hx9; obtain ⟨A9, c9, hv9⟩ := Kd.R_slice HO9.out; rw [List.length_append, List.length_singleton, List.length_map] at hv9; subst hv9))
              have hw8 : Fr (fun _ => False) wr (w7.setCell ⟨wr.heap.size, 1, none⟩ (.slice A7 l.length c7)) := HW3.out.trans HF8.out (fun i hi => .inr (by rw [hi]; exact Nat.le_refl _))
              generalize (w7.setCell ⟨wr.heap.size, 1, none⟩ (.slice A7 l.length c7)) = w8 at *
              have hf10 : Fr (fun i => i = b1 ∨ (Value.slice Aq I.length cq).ownBlock = some i) w8 (w9.setCell ⟨b1, 1, none⟩ (.slice A9 (I.length + 1) c9)) := Fr.setCell (p := ⟨b1, 1, none⟩) ((Fr.of_grown HG9.out).mono (fun j hj => .inr hj)) (.inl (.inl rfl)) _
              have hfw : Fr (fun i => i = b1 ∨ (Value.slice Aq I.length cq).ownBlock = some i) wr (w9.setCell ⟨b1, 1, none⟩ (.slice A9 (I.length + 1) c9)) := (hw8.mono (fun i hi => hi.elim)).trans hf10 (fun i hi => .inl hi)
              have hqlt : ∀ k, (Value.slice Aq I.length cq).ownBlock = some k → k < wr.heap.size := fun k hk => row_lt HRi.out.wp k hk
              have hpr : PrRow (w9.setCell ⟨b1, 1, none⟩ (.slice A9 (I.length + 1) c9)) pv L := HRi.out.pr.move (fun j hj => hfw.block j (row_lt HRi.out.pr j hj) (fun q => by
                rcases q with q | q
                · exact HRi.out.pr.ne HRi.out.blk (by decide) (by rw [hj, q])
                · exact types_ne (HRi.out.wp.typed q) (HRi.out.pr.typed hj) (by decide)))
              have htr : LkRow (w9.setCell ⟨b1, 1, none⟩ (.slice A9 (I.length + 1) c9)) tvi Ai := HRi.out.lr.move (fun j hj => hfw.block j (HRi.out.lr.lt j hj) (fun q => by
                rcases q with q | q
                · exact HRi.out.lr.ne38 HRi.out.blk (by rw [hj, q])
                · exact types_ne (HRi.out.wp.typed q) (HRi.out.lr.typed hj) (by decide)))
              have hqr : WpRow (w9.setCell ⟨b1, 1, none⟩ (.slice A9 (I.length + 1) c9)) (.slice A9 (I.length + 1) c9) (I.map (·.wb) ++ [wr.heap.size]) := by
                have h0 : WpRow w9 (.slice A9 (I.length + 1) c9) (I.map (·.wb) ++ [wr.heap.size]) := HO9.out
                exact h0.move (fun j hj => Below.heap_setCell _ _ _ _ (fun q => h0.ne HX9.out (by decide) (by rw [hj]; exact congrArg some q)))
              have hb10 := blk_set' HX9.out 1 (.slice A9 (I.length + 1) c9)
              have hyk := hf10.at_ HB8.out (fun q => by
                rcases q with q | q
                · have := hlw; omega
                · have := hqlt _ q; omega)
              have hyr := HR8.out.move (fun k hk => hf10.block k (HR8.out.lt k hk) (fun q => by
                have h8 := HO8.out k hk
                rcases q with q | q
                · have := hlw; omega
                · have := hqlt _ q; omega))
              have hfin := HRi.out.addw (y := ⟨n, wr.heap.size, .slice A7 l.length c7, l, true⟩) hfw hb10 hpr (by rw [List.map_append]; exact hqr) htr hyk (Nat.le_refl _) hyr (fun j hj => by have := HO8.out j hj; show wr.heap.size ≤ j; omega) (fun j hj => by
                rcases HAT9.out with q | ⟨b, q, hb⟩
                · exact .inl (q ▸ hj)
                · rw [hj] at q; cases q; exact .inr (Nat.le_trans hw8.size hb)) (fun j hj => .inl hj)
              go_ret
              unfold DPost
              rw [HE.out, HTT.out]
              refine ⟨rfl, _, _, pv, _, tvi, hfin, fun j hj => ((hgr.trans (grew_more _ wr (w9.setCell ⟨b1, 1, none⟩ (.slice A9 (I.length + 1) c9))) hfr.size) j hj).imp id (fun q => Nat.le_trans fr1.size q), ?_, hfrw.trans hfw (fun i hi => ?_)⟩
              · simp only [HL0.out, if_false]
                rw [HW.out]
                simp [wsOf]
              · have hq : F' i := by
                  rcases hi with q | q
                  · rw [q]; exact HRi.out.b
                  · exact HRi.out.qF i q
                exact (hgr i hq).imp id (fun q => Nat.le_trans fr1.size q)
end Go.Proofs.YtdejbinmnoabeaaGreat.D
namespace Go.Proofs.YtdejbinmnoabeaaGreat.E
open Go.Proofs.YtdejbinmnoabeaaGreat.Q
open Go.RowKit Go.Mine Go.Proofs.YtdejbinmnoabeaaGreatW.PrintWords
set_option linter.unusedVariables false
set_option linter.unusedSimpArgs false
variable {Zd : Z3}
def T1 : QT := ⟨129, 38, 102, 125, by decide⟩
structure QR (Zd : Z3) {α : Type} (E : Enc α) (T : QT) (F : Nat → Prop) (w : World) (b : Nat) (L : List α) (I : List WI) (g : Int) (iv qv : Value) : Prop where
  fb : ∀ i, F i → i < w.heap.size
  bF : F b
  blk : w.heap[b]? = some (.cells #[Zd.a, Zd.b, Zd.c, iv, qv, .int .i64 g] T.tq (0, 0))
  it : FR E T.te w iv L
  wp : FR eWI T.tp w qv I
  iF : ∀ k, iv.ownBlock = some k → F k
  qF : ∀ k, qv.ownBlock = some k → F k
  wk : ∀ x ∈ I, F x.wb ∧ w.heap[x.wb]? = some (.cells #[.int .i64 x.n, x.v, .bool x.p] T.tw (0, 0)) ∧ ChRow w x.v x.l ∧ (∀ k, x.v.ownBlock = some k → F k)
  apart : I.Pairwise (fun x y => x.wb ≠ y.wb ∧ ∀ k, x.v.ownBlock = some k → y.v.ownBlock ≠ some k)
section
variable {α : Type} {E : Enc α} {T : QT} {F F' : Nat → Prop} {w w' : World} {b : Nat} {L L' : List α} {I I' I1 I2 : List WI} {g g' : Int} {iv qv iv' qv' : Value}
theorem QR.fr {S : Nat → Prop} (h : QR Zd E T F w b L I g iv qv) (hf : Fr S w w') (hS : ∀ i, F i → ¬ S i) : QR Zd E T F w' b L I g iv qv where
  fb i hi := Nat.lt_of_lt_of_le (h.fb i hi) hf.size
  bF := h.bF
  blk := hf.at_ h.blk (hS _ h.bF)
  it := h.it.move (fun k hk => hf.block k (h.it.lt hk) (hS _ (h.iF k hk)))
  wp := h.wp.move (fun k hk => hf.block k (h.wp.lt hk) (hS _ (h.qF k hk)))
  iF := h.iF
  qF := h.qF
  wk x hx := ⟨(h.wk x hx).1, hf.at_ (h.wk x hx).2.1 (hS _ (h.wk x hx).1), (h.wk x hx).2.2.1.move (fun k hk => hf.block k ((h.wk x hx).2.2.1.lt hk) (hS _ ((h.wk x hx).2.2.2 k hk))), (h.wk x hx).2.2.2⟩
  apart := h.apart
theorem QR.below (h : QR Zd E T F w b L I g iv qv) (hb : Below w.heap.size w w') : QR Zd E T F w' b L I g iv qv := h.fr (Fr.of_below hb (Nat.le_refl _)) (fun _ _ q => q)
theorem QR.wb_ne (h : QR Zd E T F w b L I g iv qv) {x : WI} (hx : x ∈ I) : x.wb ≠ b ∧ iv.ownBlock ≠ some x.wb ∧ qv.ownBlock ≠ some x.wb := by
  have h1 := (h.wk x hx).2.1
  exact ⟨fun e => types_ne ⟨_, h1⟩ ⟨_, e ▸ h.blk⟩ T.ne.2.1.2.1.symm, fun e => types_ne (h.it.typed e) ⟨_, h1⟩ T.ne.1.2.2.1, fun e => types_ne (h.wp.typed e) ⟨_, h1⟩ T.ne.2.2.1.1⟩
theorem QR.row_ne (h : QR Zd E T F w b L I g iv qv) {x : WI} (hx : x ∈ I) {k : Nat} (hk : x.v.ownBlock = some k) : k ≠ b ∧ iv.ownBlock ≠ some k ∧ qv.ownBlock ≠ some k := by
  have h1 := (h.wk x hx).2.2.1.typed hk
  exact ⟨fun e => types_ne h1 ⟨_, e ▸ h.blk⟩ T.ne.2.1.2.2.symm, fun e => types_ne (h.it.typed e) h1 T.ne.1.2.2.2, fun e => types_ne (h.wp.typed e) h1 T.ne.2.2.1.2⟩
theorem QR.iv_ne (h : QR Zd E T F w b L I g iv qv) : iv.ownBlock ≠ some b ∧ qv.ownBlock ≠ some b ∧ ∀ k, iv.ownBlock = some k → qv.ownBlock ≠ some k :=
  ⟨fun e => types_ne (h.it.typed e) ⟨_, h.blk⟩ T.ne.1.1, fun e => types_ne (h.wp.typed e) ⟨_, h.blk⟩ T.ne.2.1.1.symm, fun k hk e => types_ne (h.it.typed hk) (h.wp.typed e) T.ne.1.2.1⟩
theorem QR.turn (h : QR Zd E T F w b L I g iv qv) (hf : Fr (Own3 b iv qv) w w') (hb : w'.heap[b]? = some (.cells #[Zd.a, Zd.b, Zd.c, iv', qv', .int .i64 g'] T.tq (0, 0)))
    (hi : FR E T.te w' iv' L') (hq : FR eWI T.tp w' qv' I') (hI : I'.Sublist I)
    (oi : ∀ j, iv'.ownBlock = some j → iv.ownBlock = some j ∨ w.heap.size ≤ j) (oq : ∀ j, qv'.ownBlock = some j → qv.ownBlock = some j ∨ w.heap.size ≤ j) :
    QR Zd E T (more F w w') w' b L' I' g' iv' qv' where
  fb := more_lt h.fb hf.size
  bF := .inl h.bF
  blk := hb
  it := hi
  wp := hq
  iF k hk := (oi k hk).elim (fun q => .inl (h.iF k q)) (fun q => .inr ⟨q, hi.lt hk⟩)
  qF k hk := (oq k hk).elim (fun q => .inl (h.qF k q)) (fun q => .inr ⟨q, hq.lt hk⟩)
  wk x hx := by
    have hxI := hI.subset hx
    have h1 := h.wk x hxI
    have h2 := h.wb_ne hxI
    refine ⟨.inl h1.1, hf.at_ h1.2.1 (fun q => ?_), h1.2.2.1.move (fun k hk => hf.block k (h1.2.2.1.lt hk) (fun q => ?_)), fun k hk => .inl (h1.2.2.2 k hk)⟩
    · rcases q with q | q | q
      · exact h2.1 q
      · exact h2.2.1 q
      · exact h2.2.2 q
    · have h3 := h.row_ne hxI hk
      rcases q with q | q | q
      · exact h3.1 q
      · exact h3.2.1 q
      · exact h3.2.2 q
  apart := h.apart.sublist hI
theorem QR.addw (h : QR Zd E T F w b L I g iv qv) {y : WI} (hf : Fr (Own3 b iv qv) w w') (hb : w'.heap[b]? = some (.cells #[Zd.a, Zd.b, Zd.c, iv, qv', .int .i64 g] T.tq (0, 0)))
    (hi : FR E T.te w' iv L) (hq : FR eWI T.tp w' qv' (I ++ [y])) (hy : w'.heap[y.wb]? = some (.cells #[.int .i64 y.n, y.v, .bool y.p] T.tw (0, 0)))
    (hyw : w.heap.size ≤ y.wb) (hyr : ChRow w' y.v y.l) (hyo : ∀ k, y.v.ownBlock = some k → w.heap.size ≤ k)
    (oq : ∀ j, qv'.ownBlock = some j → qv.ownBlock = some j ∨ w.heap.size ≤ j) :
    QR Zd E T (more F w w') w' b L (I ++ [y]) g iv qv' where
  fb := more_lt h.fb hf.size
  bF := .inl h.bF
  blk := hb
  it := hi
  wp := hq
  iF k hk := .inl (h.iF k hk)
  qF k hk := (oq k hk).elim (fun q => .inl (h.qF k q)) (fun q => .inr ⟨q, hq.lt hk⟩)
  wk x hx := by
    rcases List.mem_append.1 hx with hxI | hx
    · have h1 := h.wk x hxI
      have h2 := h.wb_ne hxI
      refine ⟨.inl h1.1, hf.at_ h1.2.1 (fun q => ?_), h1.2.2.1.move (fun k hk => hf.block k (h1.2.2.1.lt hk) (fun q => ?_)), fun k hk => .inl (h1.2.2.2 k hk)⟩
      · rcases q with q | q | q
        · exact h2.1 q
        · exact h2.2.1 q
        · exact h2.2.2 q
      · have h3 := h.row_ne hxI hk
        rcases q with q | q | q
        · exact h3.1 q
        · exact h3.2.1 q
        · exact h3.2.2 q
    · obtain rfl := List.mem_singleton.1 hx
      exact ⟨.inr ⟨hyw, (Array.getElem?_eq_some_iff.1 hy).1⟩, hy, hyr, fun k hk => .inr ⟨hyo k hk, hyr.lt hk⟩⟩
  apart := by
    rw [List.pairwise_append]
    refine ⟨h.apart, List.pairwise_singleton _ _, fun x hx z hz => ?_⟩
    obtain rfl := List.mem_singleton.1 hz
    have h1 := h.wk x hx
    refine ⟨fun e => ?_, fun k hk e => ?_⟩
    · have := h.fb _ h1.1
      omega
    · have h2 := h1.2.2.1.lt hk
      have h3 := hyo k e
      omega
theorem QR.work {x : WI} {v' : Value} {l' : List Ch} {p' : Bool} (h : QR Zd E T F w b L (I1 ++ x :: I2) g iv qv) (hf : Fr (fun i => i = x.wb ∨ x.v.ownBlock = some i) w w')
    (hb : w'.heap[x.wb]? = some (.cells #[.int .i64 x.n, v', .bool p'] T.tw (0, 0))) (hr : ChRow w' v' l') (hv : v'.ownBlock = x.v.ownBlock ∨ ∃ b, v'.ownBlock = some b ∧ w.heap.size ≤ b) :
    QR Zd E T (more F w w') w' b L (I1 ++ ⟨x.n, x.wb, v', l', p'⟩ :: I2) g iv qv := by
  have hxm : x ∈ I1 ++ x :: I2 := by simp
  have hx := h.wk x hxm
  have hxn := h.wb_ne hxm
  have hno : ∀ k t, (∃ cells, w.heap[k]? = some (.cells cells t (0, 0))) → t ≠ T.tw → t ≠ 90 → ¬ (k = x.wb ∨ x.v.ownBlock = some k) := by
    intro k t hk h1 h2 q
    rcases q with q | q
    · subst q; exact types_ne hk ⟨_, hx.2.1⟩ h1
    · exact types_ne hk (hx.2.2.1.typed q) h2
  have hap := h.apart
  rw [List.pairwise_append] at hap
  obtain ⟨ha1, ha2, ha3⟩ := hap
  rw [List.pairwise_cons] at ha2
  have hvF : ∀ k, v'.ownBlock = some k → more F w w' k := by
    intro k hk
    rcases hv with q | ⟨b, q, hb'⟩
    · exact .inl (hx.2.2.2 k (q ▸ hk))
    · rw [hk] at q; cases q; exact .inr ⟨hb', hr.lt hk⟩
  have hoth : ∀ y ∈ I1 ++ x :: I2, y.wb ≠ x.wb → (∀ k, y.v.ownBlock = some k → x.v.ownBlock ≠ some k) → more F w w' y.wb ∧ w'.heap[y.wb]? = some (.cells #[.int .i64 y.n, y.v, .bool y.p] T.tw (0, 0)) ∧ ChRow w' y.v y.l ∧ (∀ k, y.v.ownBlock = some k → more F w w' k) := by
    intro y hy h1 h2
    have hyk := h.wk y hy
    refine ⟨.inl hyk.1, hf.at_ hyk.2.1 (fun q => q.elim h1 (fun q => types_ne (hx.2.2.1.typed q) ⟨_, hyk.2.1⟩ T.ne.2.2.2.symm)), hyk.2.2.1.move (fun k hk => hf.block k (hyk.2.2.1.lt hk) (fun q => ?_)), fun k hk => .inl (hyk.2.2.2 k hk)⟩
    rcases q with q | q
    · subst q; exact types_ne (hyk.2.2.1.typed hk) ⟨_, hx.2.1⟩ T.ne.2.2.2.symm
    · exact h2 k hk q
  refine ⟨more_lt h.fb hf.size, .inl h.bF, hf.at_ h.blk (hno _ _ ⟨_, h.blk⟩ T.ne.2.1.2.1 T.ne.2.1.2.2), h.it.move (fun k hk => hf.block k (h.it.lt hk) (hno _ _ (h.it.typed hk) T.ne.1.2.2.1 T.ne.1.2.2.2)), ?_, fun k hk => .inl (h.iF k hk), fun k hk => .inl (h.qF k hk), ?_, ?_⟩
  · exact FR.congr (h.wp.move (fun k hk => hf.block k (h.wp.lt hk) (hno _ _ (h.wp.typed hk) T.ne.2.2.1.1 T.ne.2.2.1.2))) (by simp [eWI])
  · intro y hy
    rcases List.mem_append.1 hy with hy | hy
    · have h1 := ha3 y hy x (by simp)
      exact hoth y (by simp [hy]) h1.1 (fun k hk q => h1.2 k hk q)
    · rcases List.mem_cons.1 hy with rfl | hy
      · exact ⟨.inl hx.1, hb, hr, hvF⟩
      · have h1 := ha2.1 y hy
        exact hoth y (by simp [hy]) (fun q => h1.1 q.symm) (fun k hk q => h1.2 k q hk)
  · have hnew : ∀ y ∈ I1 ++ x :: I2, (∀ k, y.v.ownBlock = some k → x.v.ownBlock ≠ some k) → ∀ k, y.v.ownBlock = some k → v'.ownBlock ≠ some k := by
      intro y hy h2 k hk q
      have hyk := h.wk y hy
      rcases hv with e | ⟨b, e, hb'⟩
      · exact h2 k hk (e ▸ q)
      · rw [q] at e; cases e
        have := hyk.2.2.1.lt hk
        omega
    rw [List.pairwise_append]
    refine ⟨ha1, ?_, ?_⟩
    · rw [List.pairwise_cons]
      refine ⟨fun y hy => ⟨(ha2.1 y hy).1, fun k hk q => ?_⟩, ha2.2⟩
      exact hnew y (by simp [hy]) (fun j hj e => (ha2.1 y hy).2 j e hj) k q hk
    · intro y hy z hz
      rcases List.mem_cons.1 hz with rfl | hz
      · have h1 := ha3 y hy x (by simp)
        exact ⟨h1.1, fun k hk => hnew y (by simp [hy]) h1.2 k hk⟩
      · exact ha3 y hy z (by simp [hz])
end
theorem QR.sub {α : Type} {E : Enc α} {T : QT} {F F' : Nat → Prop} {w : World} {b : Nat} {L : List α} {I : List WI} {g : Int} {iv qv : Value} (h : QR Zd E T F w b L I g iv qv) (hF : ∀ i, F i → F' i) (hb : ∀ i, F' i → i < w.heap.size) : QR Zd E T F' w b L I g iv qv :=
  ⟨hb, hF _ h.bF, h.blk, h.it, h.wp, fun k hk => hF _ (h.iF k hk), fun k hk => hF _ (h.qF k hk), fun x hx => ⟨hF _ (h.wk x hx).1, (h.wk x hx).2.1, (h.wk x hx).2.2.1, fun k hk => hF _ ((h.wk x hx).2.2.2 k hk)⟩, h.apart⟩
set_option maxRecDepth 100000 in
set_option maxHeartbeats 2000000 in
theorem putsr_any (A : Option Addr) (l : List Ch) (c B : Nat) (w : World) (hl : ChAt w B A l) (hn : l.length ≤ 1000000) :
    Calls Tryz.prog 115 #[.slice A l.length c] w fun e w' => e = .returned (.int .i64 (putsL l)) ∧ w = w' := by
  go_enter Tryz.func115, Tryz.ntmps115
  go_wp2_with fail
  go_loopg [3, 4] (l.length + 1) (fun m v3 v8 wr => ∃ i : Nat, v3 = .int .i64 (putsL (l.take i)) ∧ v8 = .int .i64 i ∧ i ≤ l.length ∧ m = l.length + 1 - i ∧ wr = w)
  case atStart => exact ⟨0, rfl, rfl, Nat.zero_le _, rfl, rfl⟩
  case round =>
    obtain ⟨i, rfl, rfl, hi, hm, hw⟩ := hrel
    subst hw
    have HN := hid hm
    clear hm
    by_cases h1 : i < l.length
    · obtain ⟨y, hy⟩ : ∃ y, l[i]? = some y := ⟨_, List.getElem?_eq_getElem h1⟩
      obtain ⟨b', off, rfl, hbb, hcc⟩ := hl i y hy
      have k0 : wr.cell? ⟨b', off + i * 3, none⟩ = some (.int .i64 y.kind) := hcc 0 _ rfl
      have hst := putsL_take hy
      have hle : putsL (l.take i) ≤ 1000000 := by have := putsL_le (l.take i); rw [List.length_take] at this; omega
      have HST := hid hst
      clear hcc hy hst
      generalize putsL (l.take i) = P at *
      cases q : (y.kind == 3)
      · go_wp2_with fail
        go_roundg (l.length + 1 - (i + 1))
        case measure => rw [HN.out]; omega
        case rel => exact ⟨i + 1, by rw [HST.out, q]; rfl, by go_num, by omega, rfl, rfl⟩
      · go_wp2_with fail
        go_roundg (l.length + 1 - (i + 1))
        case measure => rw [HN.out]; omega
        case rel => exact ⟨i + 1, by rw [HST.out, q]; go_num, by go_num, by omega, rfl, rfl⟩
    · have : i = l.length := by omega
      subst this
      have HT := hid (congrArg putsL (List.take_length (l := l)))
      go_wp2_with fail
      go_ret
      exact ⟨by rw [← HT.out]; rfl, rfl⟩
end Go.Proofs.YtdejbinmnoabeaaGreat.E

/- Walk of the document's store: Commit. Conditions: the store reads as DsR says. -/
import Derived.Test.YtekebjcknhjceaaKvD8
namespace Go.Mine
set_option linter.unusedVariables false
set_option linter.unusedSimpArgs false
theorem setD_len (L : List (Int × Int)) (c : Ch) : (setD L c).length ≤ L.length + 1 := by
  have := List.length_filter_le (fun e : Int × Int => e.1 != c.key) L
  unfold setD
  split
  · rw [List.length_append, List.length_singleton]; omega
  · omega
theorem setDs_len : ∀ (l : List Ch) (L : List (Int × Int)), (l.foldl setD L).length ≤ L.length + l.length
  | [], L => Nat.le_refl _
  | c :: cs, L => by
    have h1 := setDs_len cs (setD L c)
    have h2 := setD_len L c
    rw [List.foldl_cons, List.length_cons]
    omega
def commitD (L : List (Int × Int)) (s : KS) (n : Int) : List (Int × Int) := if n < 1 then L else (s.listOf n).foldl setD L
end Go.Mine
namespace Go.Proofs.Ytekebjcknhjceaa
open Go.RowKit Go.Mine Go.Proofs.YtekebjcknhjceaaW.PrintWords
set_option linter.unusedVariables false
set_option linter.unusedSimpArgs false
set_option maxRecDepth 100000 in
set_option maxHeartbeats 4000000 in
theorem dcommit_any {F : Nat → Prop} {w : World} {b1 : Nat} {L : List (Int × Int)} {I : List WI} {pv qv tv : Value} {s : KS} (h : DsR F w b1 L I s.lk pv qv tv) (hws : s.ws = wsOf I) (hn : I.length ≤ 900) (hL : L.length ≤ 900) (hok : s.Ok) (n : Int) :
    Calls Try.prog 38 #[.pointer (some ⟨b1, 0, none⟩), .int .i64 n] w (DPost F w b1 (commitD L s n) (s.commit n).1 (s.commit n).2) := by
  have H := hid h
  have HWS := hid hws
  have hfd := dfind_any h (by omega) n
  have hrk := hok.rk
  have hrl := hrk.len
  go_enter Try.func38, Try.ntmps38
  by_cases h1 : n < 1
  · have he : s.commit n = (1, s) := by simp [KS.commit, h1]
    have hd : commitD L s n = L := by unfold commitD; rw [if_pos h1]
    have HE := hid he
    have HD := hid hd
    clear he h hws hfd hd
    go_wp2_with fail
    go_ret
    unfold DPost
    rw [HE.out, HD.out]
    exact ⟨rfl, F, I, pv, qv, tv, H.out, Grew.refl _ _, HWS.out, Fr.refl _ _⟩
  · have he : s.commit n = (0, ((s.listOf n).foldl setV s).gone n) := commit_do h1
    have hd : commitD L s n = (s.listOf n).foldl setD L := by unfold commitD; rw [if_neg h1]
    have hkp := setVs_keep (s.listOf n) s
    have HE := hid he
    have HD := hid hd
    have HKP := hid hkp
    have hg := aget_ws n I
    rw [← hws] at hg
    unfold findB at hfd
    clear he h hws hd hkp
    cases hf : I.find? (fun x => decide (x.n = n)) with
    | none =>
      rw [hf] at hfd hg
      simp only [Option.map_none] at hfd hg
      have hlo : s.listOf n = [] := by unfold KS.listOf; rw [hg]; rfl
      have hdr := ddrop_any H.out (by omega) (by omega) n
      have HFD := hid hfd
      have HLO := hid hlo
      have HDR := hid hdr
      clear hfd hlo hdr hf hg
      go_wp2_with fail
      refine HFD.out.mono ?_
      rintro e w1 ⟨rfl, rfl⟩
      simp only [Option.map_none]
      go_wp2_with fail
      go_loopg [6] 1 (fun m v wr => v = .int .i64 0 ∧ m = 1 ∧ wr = w)
      case atStart => exact ⟨rfl, rfl, rfl⟩
      case round =>
        obtain ⟨rfl, rfl, hw⟩ := hrel
        subst hw
        go_wp2_with fail
        refine HDR.out.mono ?_
        rintro e w2 ⟨rfl, qv', tv', h2, f2⟩
        go_wp2_with fail
        go_ret
        unfold DPost
        rw [HE.out, HD.out, HLO.out]
        refine ⟨rfl, _, _, _, _, _, h2, grew_more _ _ _, ?_, f2.mono (fun i hi => by rw [hi]; exact H.out.b)⟩
        show adel n s.ws = _
        rw [HWS.out, adel_wsOf]
    | some x =>
      have hxI := List.mem_of_find?_eq_some hf
      rw [hf] at hfd hg
      simp only [Option.map_some] at hfd hg
      have hlo : s.listOf n = x.l := by unfold KS.listOf; rw [hg]; rfl
      have hrw : RW x.l := hok.chs _ (aget_mem hg)
      have hxle := hrw.len
      have HFD := hid hfd
      have HLO := hid hlo
      clear hfd hlo hf hg hrw
      go_wp2_with fail
      refine HFD.out.mono ?_
      rintro e w1 ⟨rfl, rfl⟩
      simp only [Option.map_some]
      go_wp2_with fail
      go_loopg [6] (x.l.length + 1) (fun m v wr => ∃ (i : Nat) (F' : Nat → Prop) (pv' : Value), v = .int .i64 i ∧ i ≤ x.l.length ∧ m = x.l.length + 1 - i ∧ DsR F' wr b1 ((x.l.take i).foldl setD L) I s.lk pv' qv tv ∧ Grew F F' w ∧ Fr (fun j => j = b1) w wr)
      case atStart => exact ⟨0, F, pv, rfl, Nat.zero_le _, rfl, H.out, Grew.refl _ _, Fr.refl _ _⟩
      case round =>
        obtain ⟨i, F', pv', rfl, hi, hm, hds, hgr, hfr⟩ := hrel
        have HN := hid hm
        have HDS := hid hds
        have HGR := hid hgr
        have HFR := hid hfr
        have hxw := hds.wk x hxI
        obtain ⟨A, cp, hv, hAc, hat⟩ := hxw.2.2.1.at_
        have c1 : wr.cell? ⟨x.wb, 1, none⟩ = some (.slice A x.l.length cp) := by rw [cell_of_row _ _ 1 _ _ _ hxw.2.1, ← hv]; rfl
        have HAT := hid hat
        clear hm hds hgr hfr hxw hv hat
        by_cases h2 : i < x.l.length
        · obtain ⟨y, hy⟩ : ∃ y, x.l[i]? = some y := ⟨_, List.getElem?_eq_getElem h2⟩
          obtain ⟨b, off, rfl, hb, hcc⟩ := HAT.out i y hy
          have k0 : wr.cell? ⟨b, off + i * 3, none⟩ = some (.int .i64 y.kind) := hcc 0 _ rfl
          have k1 : wr.cell? ⟨b, off + i * 3 + 1, none⟩ = some (.int .i64 y.key) := hcc 1 _ rfl
          have k2 : wr.cell? ⟨b, off + i * 3 + 2, none⟩ = some (.int .u64 y.val) := hcc 2 _ rfl
          have htk : x.l.take (i + 1) = x.l.take i ++ [y] := by
            rw [List.take_succ_eq_append_getElem h2]
            have : x.l[i] = y := by rw [List.getElem?_eq_getElem h2] at hy; exact Option.some.inj hy
            rw [this]
          have hst := dset_any HDS.out (by
            have := setDs_len (x.l.take i) L
            rw [List.length_take] at this
            omega) y
          have HTK := hid htk
          have HST := hid hst
          clear hcc hy htk hst
          go_wp2_with fail
          refine HST.out.mono ?_
          rintro e w3 ⟨rfl, pv3, h3, f3⟩
          have H3 := hid h3
          have F3 := hid f3
          clear h3 f3
          go_wp2_with fail
          go_roundg (x.l.length + 1 - (i + 1))
          case measure => rw [HN.out]; omega
          case rel =>
            refine ⟨i + 1, _, pv3, by go_num, by omega, rfl, by rw [HTK.out, List.foldl_append]; exact H3.out, HGR.out.trans (grew_more _ _ _) HFR.out.size, HFR.out.trans F3.out (fun j hj => .inl hj)⟩
        · have hi2 : i = x.l.length := by omega
          subst hi2
          have hds := HDS.out
          rw [List.take_length] at hds
          have hdr := ddrop_any hds (by omega) (by omega) n
          have HDR := hid hdr
          clear hdr
          go_wp2_with fail
          refine HDR.out.mono ?_
          rintro e w3 ⟨rfl, qv3, tv3, h3, f3⟩
          go_wp2_with fail
          go_ret
          unfold DPost
          rw [HE.out, HD.out, HLO.out]
          rw [HLO.out] at HKP
          refine ⟨rfl, more F' wr w3, I.filter (fun x => x.n != n), pv', qv3, tv3, ?_, HGR.out.trans (grew_more _ _ _) HFR.out.size, ?_, (HFR.out.trans f3 (fun j hj => .inl hj)).mono (fun j hj => by rw [hj]; exact H.out.b)⟩
          · show DsR _ w3 b1 _ _ (dropA n ((x.l.foldl setV s).lk)) _ _ _
            rw [HKP.out.2]
            exact h3
          · show adel n (x.l.foldl setV s).ws = _
            rw [HKP.out.1, HWS.out, adel_wsOf]
end Go.Proofs.Ytekebjcknhjceaa

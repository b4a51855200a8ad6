/- Texts of this seat, put together: RdB, RzC, RzD. -/
import Derived.Test.YtdejbinmnoabeaaGreatBm17
import Derived.Test.YtdejbinmnoabeaaGreatBm18
import Derived.Deep.RegionHeld3
import Derived.Deep.AppendSrc
import Derived.Deep.Upon
import Derived.Lib.AppendZeros
namespace Go.Proofs.YtdejbinmnoabeaaGreat
open Go.RowKit Go.Mine Go.Proofs.YtdejbinmnoabeaaGreatW.PrintWords
set_option linter.unusedVariables false
set_option linter.unusedSimpArgs false
theorem DRR.len {F : Nat → Prop} {w : World} {b : Nat} {L : List (Int × Int)} {s : RM} {FD FE : Nat → Prop} {I : List K.WI} {pv qv tv : Value} {J : List Q.WI} {iv jv : Value} (h : DRR F FD FE w b L s I pv qv tv J iv jv) (hk : s.k.ws.length ≤ 900) (hok : s.Ok) : I.length ≤ 900 ∧ J.length ≤ 17 := by
  have h1 := hok.q.ws_le
  have e1 := h.dw
  have e2 := h.qw
  rw [e1] at hk
  rw [e2] at h1
  unfold K.wsOf at hk
  unfold Q.wsOf at h1
  rw [List.length_map] at hk h1
  exact ⟨hk, h1⟩
theorem kprepd (n : Int) (I : List K.WI) : prepd n (K.wsOf I) = (((I.find? (fun x => decide (x.n = n))).map (·.p)).getD false) := by
  unfold prepd
  rw [K.aget_ws, Option.map_map]
  rfl
theorem qprepd (n : Int) (I : List Q.WI) : prepd n (Q.wsOf I) = (((I.find? (fun x => decide (x.n = n))).map (·.p)).getD false) := by
  unfold prepd
  rw [Q.aget_ws, Option.map_map]
  rfl
theorem c3_step {bx : Nat} {w w' : World} {a0 a1 a2 : Value} (hb : Below w.heap.size w w') (h : w.cell? ⟨bx, 0, none⟩ = some a0 ∧ w.cell? ⟨bx, 1, none⟩ = some a1 ∧ w.cell? ⟨bx, 2, none⟩ = some a2) : w'.cell? ⟨bx, 0, none⟩ = some a0 ∧ w'.cell? ⟨bx, 1, none⟩ = some a1 ∧ w'.cell? ⟨bx, 2, none⟩ = some a2 :=
  ⟨(hb.cell (World.block_lt_of_cell? _ _ h.1)).trans h.1, (hb.cell (World.block_lt_of_cell? _ _ h.2.1)).trans h.2.1, (hb.cell (World.block_lt_of_cell? _ _ h.2.2)).trans h.2.2⟩
theorem bel_tr {w w1 w2 : World} (h : Below w.heap.size w w1) (k : Below w1.heap.size w1 w2) : Below w.heap.size w w2 := h.trans (k.mono h.size)
set_option maxRecDepth 100000 in
set_option maxHeartbeats 4000000 in
theorem dfit_any {F : Nat → Prop} {w : World} {b : Nat} {L : List (Int × Int)} {s : RM} (h : DR F w b L s) (hk : s.k.ws.length ≤ 900) (hok : s.Ok) (n : Int) :
    Calls Tryz.prog 64 #[.pointer (some ⟨b, 0, none⟩), .int .i64 n] w fun e w' => e = .returned (.int .i64 (s.fit n)) ∧ Below w.heap.size w w' := by
  obtain ⟨FD, FE, I, pv, qv, tv, J, iv, jv, h⟩ := h
  obtain ⟨hI, hJ⟩ := h.len hk hok
  have K39 := hid (show ∀ w', Below w.heap.size w w' → Calls Tryz.prog 39 #[.pointer (some ⟨b, 0, none⟩), .int .i64 n] w' fun e w'' => e = .returned (.pointer ((D.findB I n).map (fun b => ⟨b, 0, none⟩))) ∧ w' = w'' from fun w' hb => D.dfind_any (h.ds.below hb) (by omega) n)
  have K40 := hid (show ∀ w', Below w.heap.size w w' → Calls Tryz.prog 40 #[.pointer (some ⟨b, 3, none⟩), .int .i64 n] w' fun e w'' => e = .returned (.pointer ((Q.findB J n).map (fun b => ⟨b, 0, none⟩))) ∧ w' = w'' from fun w' hb => E.dfind_any (h.qr.below hb) (by omega) n)
  have e1 := kprepd n I
  have e2 := qprepd n J
  rw [← h.dw] at e1
  rw [← h.qw] at e2
  unfold D.findB at K39
  unfold Q.findB at K40
  have HD := hid h
  by_cases h1 : n < 1
  · have HE := hid (show s.fit n = 1 from by unfold RM.fit; rw [if_pos h1])
    clear h e1 e2 hk hok hI hJ
    go_enter Tryz.func64, Tryz.ntmps64
    go_wp2_with fail
    go_ret
    exact ⟨by rw [HE.out]; rfl, Below.refl _ _⟩
  · cases hf : I.find? (fun x => decide (x.n = n)) with
    | none =>
      rw [hf] at K39 e1
      simp only [Option.map_none] at K39
      cases hq : J.find? (fun x => decide (x.n = n)) with
      | none =>
        rw [hq] at K40 e2
        simp only [Option.map_none] at K40
        have HE := hid (show s.fit n = if ((false) || (false)) = true then 7 else 0 from by unfold RM.fit; rw [if_neg h1, e1, e2]; rfl)
        clear h e1 e2 hk hok hI hJ hf hq HD
        go_enter Tryz.func64, Tryz.ntmps64
        go_wp2_with fail
        have hS := Q.bd1 w
        go_region_held3 (fun w' => Below w.heap.size w w') (first | exact Q.bd1 _ | exact Q.bdN _ _ | assumption | exact bel_tr (by assumption) (Q.bd1 _) | exact bel_tr (by assumption) (Q.bdN _ _) | exact bel_tr (by assumption) (by assumption)) (first
          | (go_at_call 39; refine (K39.out _ (by assumption)).mono ?_; rintro e wa ⟨rfl, rfl⟩)
          | (go_at_call 40; refine (K40.out _ (by assumption)).mono ?_; rintro e wb ⟨rfl, rfl⟩))
        all_goals
          rename_i hS2
          go_wp2_with fail
          go_ret
          exact ⟨by rw [HE.out]; rfl, hS2⟩
      | some y =>
        rw [hq] at K40 e2
        simp only [Option.map_some] at K40
        have c2 := hid (show ∀ w', Below w.heap.size w w' → w'.cell? ⟨y.wb, 2, none⟩ = some (.bool y.p) from fun w' hb => by
          have := ((h.qr.below hb).wk y (List.mem_of_find?_eq_some hq)).2.1
          rw [cell_of_row _ _ 2 _ _ _ this]; rfl)
        have HE := hid (show s.fit n = if ((false) || (y.p)) = true then 7 else 0 from by unfold RM.fit; rw [if_neg h1, e1, e2]; rfl)
        clear h e1 e2 hk hok hI hJ hf hq HD
        obtain ⟨zy, hzy⟩ : ∃ z, y.p = z := ⟨_, rfl⟩
        rw [hzy] at HE c2
        clear hzy
        cases zy
        all_goals
          go_enter Tryz.func64, Tryz.ntmps64
          go_wp2_with fail
          have hS := Q.bd1 w
          go_region_held3 (fun w' => Below w.heap.size w w') (first | exact Q.bd1 _ | exact Q.bdN _ _ | assumption | exact bel_tr (by assumption) (Q.bd1 _) | exact bel_tr (by assumption) (Q.bdN _ _) | exact bel_tr (by assumption) (by assumption)) (first
            | (go_at_call 39; refine (K39.out _ (by assumption)).mono ?_; rintro e wa ⟨rfl, rfl⟩)
            | (go_at_call 40; refine (K40.out _ (by assumption)).mono ?_; rintro e wb ⟨rfl, rfl⟩))
          all_goals
            rename_i hS2
            have z2 := c2.out _ hS2
            go_wp2_with fail
            go_ret
            exact ⟨by rw [HE.out]; rfl, hS2⟩
    | some x =>
      rw [hf] at K39 e1
      simp only [Option.map_some] at K39
      cases hq : J.find? (fun x => decide (x.n = n)) with
      | none =>
        rw [hq] at K40 e2
        simp only [Option.map_none] at K40
        have c1 := hid (show ∀ w', Below w.heap.size w w' → w'.cell? ⟨x.wb, 2, none⟩ = some (.bool x.p) from fun w' hb => by
          have := ((h.ds.below hb).wk x (List.mem_of_find?_eq_some hf)).2.1
          rw [cell_of_row _ _ 2 _ _ _ this]; rfl)
        have HE := hid (show s.fit n = if ((x.p) || (false)) = true then 7 else 0 from by unfold RM.fit; rw [if_neg h1, e1, e2]; rfl)
        clear h e1 e2 hk hok hI hJ hf hq HD
        obtain ⟨zx, hzx⟩ : ∃ z, x.p = z := ⟨_, rfl⟩
        rw [hzx] at HE c1
        clear hzx
        cases zx
        all_goals
          go_enter Tryz.func64, Tryz.ntmps64
          go_wp2_with fail
          have hS := Q.bd1 w
          go_region_held3 (fun w' => Below w.heap.size w w') (first | exact Q.bd1 _ | exact Q.bdN _ _ | assumption | exact bel_tr (by assumption) (Q.bd1 _) | exact bel_tr (by assumption) (Q.bdN _ _) | exact bel_tr (by assumption) (by assumption)) (first
            | (go_at_call 39; refine (K39.out _ (by assumption)).mono ?_; rintro e wa ⟨rfl, rfl⟩)
            | (go_at_call 40; refine (K40.out _ (by assumption)).mono ?_; rintro e wb ⟨rfl, rfl⟩))
          all_goals
            rename_i hS2
            have z1 := c1.out _ hS2
            go_wp2_with fail
            go_ret
            exact ⟨by rw [HE.out]; rfl, hS2⟩
      | some y =>
        rw [hq] at K40 e2
        simp only [Option.map_some] at K40
        have c1 := hid (show ∀ w', Below w.heap.size w w' → w'.cell? ⟨x.wb, 2, none⟩ = some (.bool x.p) from fun w' hb => by
          have := ((h.ds.below hb).wk x (List.mem_of_find?_eq_some hf)).2.1
          rw [cell_of_row _ _ 2 _ _ _ this]; rfl)
        have c2 := hid (show ∀ w', Below w.heap.size w w' → w'.cell? ⟨y.wb, 2, none⟩ = some (.bool y.p) from fun w' hb => by
          have := ((h.qr.below hb).wk y (List.mem_of_find?_eq_some hq)).2.1
          rw [cell_of_row _ _ 2 _ _ _ this]; rfl)
        have HE := hid (show s.fit n = if ((x.p) || (y.p)) = true then 7 else 0 from by unfold RM.fit; rw [if_neg h1, e1, e2]; rfl)
        clear h e1 e2 hk hok hI hJ hf hq HD
        obtain ⟨zx, hzx⟩ : ∃ z, x.p = z := ⟨_, rfl⟩
        rw [hzx] at HE c1
        clear hzx
        obtain ⟨zy, hzy⟩ : ∃ z, y.p = z := ⟨_, rfl⟩
        rw [hzy] at HE c2
        clear hzy
        cases zx
        all_goals
          cases zy
          all_goals
            go_enter Tryz.func64, Tryz.ntmps64
            go_wp2_with fail
            have hS := Q.bd1 w
            go_region_held3 (fun w' => Below w.heap.size w w') (first | exact Q.bd1 _ | exact Q.bdN _ _ | assumption | exact bel_tr (by assumption) (Q.bd1 _) | exact bel_tr (by assumption) (Q.bdN _ _) | exact bel_tr (by assumption) (by assumption)) (first
              | (go_at_call 39; refine (K39.out _ (by assumption)).mono ?_; rintro e wa ⟨rfl, rfl⟩)
              | (go_at_call 40; refine (K40.out _ (by assumption)).mono ?_; rintro e wb ⟨rfl, rfl⟩))
            all_goals
              rename_i hS2
              have z1 := c1.out _ hS2
              have z2 := c2.out _ hS2
              go_wp2_with fail
              go_ret
              exact ⟨by rw [HE.out]; rfl, hS2⟩
theorem wsK_len {ws : List (Int × KW)} {I : List K.WI} (h : ws = K.wsOf I) : I.length = ws.length := by rw [h]; unfold K.wsOf; rw [List.length_map]
def DRPost (F : Nat → Prop) (w : World) (b : Nat) (r : Value) (L : List (Int × Int)) (s' : RM) (e : Ending) (w' : World) : Prop :=
  e = .returned r ∧ (∃ F', DR F' w' b L s' ∧ K.Grew F F' w) ∧ Fr F w w'
theorem DRPost.after {F : Nat → Prop} {w w1 w' : World} {b : Nat} {r : Value} {L : List (Int × Int)} {s' : RM} {e : Ending} (hb : Below w.heap.size w w1) (h : DRPost F w1 b r L s' e w') : DRPost F w b r L s' e w' := by
  obtain ⟨he, ⟨F', hd, hg⟩, hf⟩ := h
  exact ⟨he, ⟨F', hd, fun i hi => (hg i hi).imp id (fun q => Nat.le_trans hb.size q)⟩, ((Fr.of_below hb (Nat.le_refl _)).mono (fun _ q => q.elim)).trans hf (fun i hi => .inl hi)⟩
theorem DRPost.same {F : Nat → Prop} {w w1 : World} {b : Nat} {L : List (Int × Int)} {s : RM} (h : DR F w b L s) (hb : Below w.heap.size w w1) (r : Value) : DRPost F w b r L s (.returned r) w1 :=
  ⟨rfl, ⟨F, h.below hb, K.Grew.refl _ _⟩, (Fr.of_below hb (Nat.le_refl _)).mono (fun _ q => q.elim)⟩
set_option maxRecDepth 100000 in
set_option maxHeartbeats 4000000 in
theorem dget_any {F : Nat → Prop} {w : World} {b : Nat} {L : List (Int × Int)} {s : RM} (h : DR F w b L s) (hag : Agree L s.k) (hk : s.k.ws.length ≤ 900) (hok : s.Ok) (n : Int) (key : Int) :
    Calls Tryz.prog 29 #[.pointer (some ⟨b, 0, none⟩), .int .i64 n, .int .i64 key] w (DRPost F w b (.tuple #[.int .u64 (s.get n key).1.1, .bool (s.get n key).1.2.1, .int .i64 (s.get n key).1.2.2]) L (s.get n key).2) := by
  have HF := hid (dfit_any h hk hok n)
  have H := hid h
  clear h
  rcases s.fit_cases n with ⟨hn, he⟩ | ⟨hn, he, hp⟩ | ⟨hn, he, hp0, hp1⟩
  · have HM := hid (show (s.get n key) = ((0, false, 1), s) from by unfold RM.get; rw [if_pos (by rw [he]; decide), he])
    rw [he] at HF
    clear hag hk hok
    go_enter Tryz.func29, Tryz.ntmps29
    go_wp2_with fail
    refine HF.out.mono ?_
    rintro e w1 ⟨rfl, f1⟩
    go_wp2_with fail
    (try simp only [Exit.inBlock, Exit.then]); refine bodyPost_ret (results_tmp3 rfl _ _ _ ) rfl ?_
    rw [HM.out]
    exact DRPost.same H.out f1 _
  · have HM := hid (show (s.get n key) = ((0, false, 7), s) from by unfold RM.get; rw [if_pos (by rw [he]; decide), he])
    rw [he] at HF
    clear hag hk hok
    go_enter Tryz.func29, Tryz.ntmps29
    go_wp2_with fail
    refine HF.out.mono ?_
    rintro e w1 ⟨rfl, f1⟩
    go_wp2_with fail
    (try simp only [Exit.inBlock, Exit.then]); refine bodyPost_ret (results_tmp3 rfl _ _ _ ) rfl ?_
    rw [HM.out]
    exact DRPost.same H.out f1 _
  · have HM := hid (show (s.get n key) = ((s.k.get n key).1, ⟨(s.k.get n key).2, s.q⟩) from by unfold RM.get; rw [if_neg (by rw [he]; simp)])
    rw [he] at HF
    have HC := hid (show ∀ w', Below w.heap.size w w' → Calls Tryz.prog 65 #[.pointer (some ⟨b, 0, none⟩), .int .i64 n, .int .i64 key] w' fun e w'' => e = .returned (.tuple #[.int .u64 (s.k.get n key).1.1, .bool (s.k.get n key).1.2.1, .int .i64 (s.k.get n key).1.2.2]) ∧ (∃ F', DR F' w'' b L ⟨(s.k.get n key).2, s.q⟩ ∧ K.Grew F F' w') ∧ Fr F w' w'' from fun w' hb => by
      obtain ⟨FD, Ze, I, pv, qv, tv, hsub, hd, hw, hst⟩ := (H.out.below hb).st
      refine (D.dget_any hd hw (by rw [wsK_len hw]; omega) (by have := hag.len; omega) hok.k n key).mono ?_
      rintro e w'' ⟨he2, FD', I', qv', tv', hd', hg, hw', hf⟩
      rw [hag.get n key] at he2
      rw [← get_st] at hd' hw'
      exact ⟨he2, ⟨_, hst w'' FD' L _ I' pv qv' tv' hd' hw' hg hf, grew_or hsub hg⟩, hf.mono hsub⟩)
    clear hag hk hok he hp0 hp1 hn
    go_enter Tryz.func29, Tryz.ntmps29
    go_wp2_with fail
    refine HF.out.mono ?_
    rintro e w1 ⟨rfl, f1⟩
    go_wp2_with fail
    refine (HC.out w1 f1).mono ?_
    rintro e w2 ⟨rfl, hfin⟩
    go_wp2_with fail
    (try simp only [Exit.inBlock, Exit.then]); refine bodyPost_ret (results_tmp3 rfl _ _ _ ) rfl ?_
    rw [HM.out]
    exact DRPost.after f1 ⟨rfl, hfin⟩
set_option maxRecDepth 100000 in
set_option maxHeartbeats 4000000 in
theorem dpush_any {F : Nat → Prop} {w : World} {b : Nat} {L : List (Int × Int)} {s : RM} (h : DR F w b L s) (hag : Agree L s.k) (hk : s.k.ws.length ≤ 900) (hok : s.Ok) (n : Int) (v : Int) :
    Calls Tryz.prog 31 #[.pointer (some ⟨b, 0, none⟩), .int .i64 n, .int .u64 v] w (DRPost F w b (.int .i64 (s.push n v).1) L (s.push n v).2) := by
  have HF := hid (dfit_any h hk hok n)
  have H := hid h
  clear h
  rcases s.fit_cases n with ⟨hn, he⟩ | ⟨hn, he, hp⟩ | ⟨hn, he, hp0, hp1⟩
  · have HM := hid (show (s.push n v) = (1, s) from by unfold RM.push; rw [if_pos (by rw [he]; decide), he])
    rw [he] at HF
    clear hag hk hok
    go_enter Tryz.func31, Tryz.ntmps31
    go_wp2_with fail
    refine HF.out.mono ?_
    rintro e w1 ⟨rfl, f1⟩
    go_wp2_with fail
    go_ret
    rw [HM.out]
    exact DRPost.same H.out f1 _
  · have HM := hid (show (s.push n v) = (7, s) from by unfold RM.push; rw [if_pos (by rw [he]; decide), he])
    rw [he] at HF
    clear hag hk hok
    go_enter Tryz.func31, Tryz.ntmps31
    go_wp2_with fail
    refine HF.out.mono ?_
    rintro e w1 ⟨rfl, f1⟩
    go_wp2_with fail
    go_ret
    rw [HM.out]
    exact DRPost.same H.out f1 _
  · have HM := hid (show (s.push n v) = ((s.q.put n v).1, ⟨s.k, (s.q.put n v).2⟩) from by unfold RM.push; rw [if_neg (by rw [he]; simp)])
    rw [he] at HF
    have HC := hid (show ∀ w', Below w.heap.size w w' → Calls Tryz.prog 67 #[.pointer (some ⟨b, 3, none⟩), .int .i64 n, .int .u64 v] w' fun e w'' => e = .returned (.int .i64 (s.q.put n v).1) ∧ (∃ F', DR F' w'' b L ⟨s.k, (s.q.put n v).2⟩ ∧ K.Grew F F' w') ∧ Fr F w' w'' from fun w' hb => by
      obtain ⟨FE, Zd, hsub, hd, hst⟩ := (H.out.below hb).qu
      refine (E.dput_any hd hok.q.bd n v).mono ?_
      rintro e w'' ⟨he2, ⟨FE', hd', hg⟩, hf⟩
      exact ⟨he2, ⟨_, hst w'' FE' _ hd' hg hf, grew_or hsub hg⟩, hf.mono hsub⟩)
    clear hag hk hok he hp0 hp1 hn
    go_enter Tryz.func31, Tryz.ntmps31
    go_wp2_with fail
    refine HF.out.mono ?_
    rintro e w1 ⟨rfl, f1⟩
    go_wp2_with fail
    refine (HC.out w1 f1).mono ?_
    rintro e w2 ⟨rfl, hfin⟩
    go_wp2_with fail
    go_ret
    rw [HM.out]
    exact DRPost.after f1 ⟨rfl, hfin⟩
set_option maxRecDepth 100000 in
set_option maxHeartbeats 4000000 in
theorem dpop_any {F : Nat → Prop} {w : World} {b : Nat} {L : List (Int × Int)} {s : RM} (h : DR F w b L s) (hag : Agree L s.k) (hk : s.k.ws.length ≤ 900) (hok : s.Ok) (n : Int) :
    Calls Tryz.prog 32 #[.pointer (some ⟨b, 0, none⟩), .int .i64 n] w (DRPost F w b (.tuple #[.int .u64 (s.pop n).1.1, .int .i64 (s.pop n).1.2]) L (s.pop n).2) := by
  have HF := hid (dfit_any h hk hok n)
  have H := hid h
  clear h
  rcases s.fit_cases n with ⟨hn, he⟩ | ⟨hn, he, hp⟩ | ⟨hn, he, hp0, hp1⟩
  · have HM := hid (show (s.pop n) = ((0, 1), s) from by unfold RM.pop; rw [if_pos (by rw [he]; decide), he])
    rw [he] at HF
    clear hag hk hok
    go_enter Tryz.func32, Tryz.ntmps32
    go_wp2_with fail
    refine HF.out.mono ?_
    rintro e w1 ⟨rfl, f1⟩
    go_wp2_with fail
    go_ret2
    rw [HM.out]
    exact DRPost.same H.out f1 _
  · have HM := hid (show (s.pop n) = ((0, 7), s) from by unfold RM.pop; rw [if_pos (by rw [he]; decide), he])
    rw [he] at HF
    clear hag hk hok
    go_enter Tryz.func32, Tryz.ntmps32
    go_wp2_with fail
    refine HF.out.mono ?_
    rintro e w1 ⟨rfl, f1⟩
    go_wp2_with fail
    go_ret2
    rw [HM.out]
    exact DRPost.same H.out f1 _
  · have HM := hid (show (s.pop n) = ((s.q.take n).1, ⟨s.k, (s.q.take n).2⟩) from by unfold RM.pop; rw [if_neg (by rw [he]; simp)])
    rw [he] at HF
    have HC := hid (show ∀ w', Below w.heap.size w w' → Calls Tryz.prog 68 #[.pointer (some ⟨b, 3, none⟩), .int .i64 n] w' fun e w'' => e = .returned (.tuple #[.int .u64 (s.q.take n).1.1, .int .i64 (s.q.take n).1.2]) ∧ (∃ F', DR F' w'' b L ⟨s.k, (s.q.take n).2⟩ ∧ K.Grew F F' w') ∧ Fr F w' w'' from fun w' hb => by
      obtain ⟨FE, Zd, hsub, hd, hst⟩ := (H.out.below hb).qu
      refine (E.dtake_any hd hok.q n).mono ?_
      rintro e w'' ⟨he2, ⟨FE', hd', hg⟩, hf⟩
      exact ⟨he2, ⟨_, hst w'' FE' _ hd' hg hf, grew_or hsub hg⟩, hf.mono hsub⟩)
    clear hag hk hok he hp0 hp1 hn
    go_enter Tryz.func32, Tryz.ntmps32
    go_wp2_with fail
    refine HF.out.mono ?_
    rintro e w1 ⟨rfl, f1⟩
    go_wp2_with fail
    refine (HC.out w1 f1).mono ?_
    rintro e w2 ⟨rfl, hfin⟩
    go_wp2_with fail
    go_ret2
    rw [HM.out]
    exact DRPost.after f1 ⟨rfl, hfin⟩
set_option maxRecDepth 100000 in
set_option maxHeartbeats 4000000 in
theorem dchange_any {F : Nat → Prop} {w : World} {b : Nat} {L : List (Int × Int)} {s : RM} (h : DR F w b L s) (hag : Agree L s.k) (hk : s.k.ws.length ≤ 900) (hok : s.Ok) (n : Int) (c : Ch) :
    Calls Tryz.prog 30 #[.pointer (some ⟨b, 0, none⟩), .int .i64 n, .agg #[.int .i64 c.kind, .int .i64 c.key, .int .u64 c.val]] w (DRPost F w b (.int .i64 (s.change n c).1) L (s.change n c).2) := by
  have ha : Below w.heap.size w (w.alloc (.cells #[.int .i64 c.kind, .int .i64 c.key, .int .u64 c.val] 90)) := (Below.refl _ _).alloc (Nat.le_refl _) _
  have hx : (w.alloc (.cells #[.int .i64 c.kind, .int .i64 c.key, .int .u64 c.val] 90)).heap[w.heap.size]? = some (.cells #[.int .i64 c.kind, .int .i64 c.key, .int .u64 c.val] 90 (0, 0)) := (MapKept.heap_alloc w _).1
  have HNF := hid (show ¬ F w.heap.size from fun q => by have := h.fb _ q; omega)
  have HF := hid (dfit_any (h.below ha) hk hok n)
  have H := hid h
  have HA := hid ha
  have HX := hid hx
  clear h ha hx
  rcases s.fit_cases n with ⟨hn, he⟩ | ⟨hn, he, hp⟩ | ⟨hn, he, hp0, hp1⟩
  · have HM := hid (show (s.change n c) = (1, s) from by unfold RM.change; rw [if_pos (by rw [he]; decide), he])
    rw [he] at HF
    clear hag hk hok
    go_enter Tryz.func30, Tryz.ntmps30
    go_wp2_with fail
    refine HF.out.mono ?_
    rintro e w1 ⟨rfl, f1⟩
    go_wp2_with fail
    go_ret
    rw [HM.out]
    exact DRPost.same H.out (bel_tr HA.out f1) _
  · have HM := hid (show (s.change n c) = (7, s) from by unfold RM.change; rw [if_pos (by rw [he]; decide), he])
    rw [he] at HF
    clear hag hk hok
    go_enter Tryz.func30, Tryz.ntmps30
    go_wp2_with fail
    refine HF.out.mono ?_
    rintro e w1 ⟨rfl, f1⟩
    go_wp2_with fail
    go_ret
    rw [HM.out]
    exact DRPost.same H.out (bel_tr HA.out f1) _
  · have HM := hid (show (s.change n c) = ((s.k.change n c).1, ⟨(s.k.change n c).2, s.q⟩) from by unfold RM.change; rw [if_neg (by rw [he]; simp)])
    rw [he] at HF
    go_enter Tryz.func30, Tryz.ntmps30
    go_wp2_with fail
    refine HF.out.mono ?_
    rintro e w1 ⟨rfl, f1⟩
    have f2 := bel_tr HA.out f1
    have hx1 := (f1.block _ (blk_lt HX.out)).trans HX.out
    have HX1 := hid hx1
    have hS : w1.cell? ⟨w.heap.size, 0, none⟩ = some (.int .i64 c.kind) ∧ w1.cell? ⟨w.heap.size, 1, none⟩ = some (.int .i64 c.key) ∧ w1.cell? ⟨w.heap.size, 2, none⟩ = some (.int .u64 c.val) := ⟨by rw [cell_of_row _ _ 0 _ _ _ hx1]; rfl, by rw [cell_of_row _ _ 1 _ _ _ hx1]; rfl, by rw [cell_of_row _ _ 2 _ _ _ hx1]; rfl⟩
    have HF2 := hid f2
    have HC := hid (show ∀ w', Below w1.heap.size w1 w' → Calls Tryz.prog 66 #[.pointer (some ⟨b, 0, none⟩), .int .i64 n, .agg #[.int .i64 c.kind, .int .i64 c.key, .int .u64 c.val]] w' fun e w'' => e = .returned (.int .i64 (s.k.change n c).1) ∧ (w''.cell? ⟨w.heap.size, 0, none⟩ = some (.int .i64 c.kind) ∧ w''.cell? ⟨w.heap.size, 1, none⟩ = some (.int .i64 c.key) ∧ w''.cell? ⟨w.heap.size, 2, none⟩ = some (.int .u64 c.val)) ∧ Hid (DRPost F w b (.int .i64 (s.k.change n c).1) L ⟨(s.k.change n c).2, s.q⟩ (.returned (.int .i64 (s.k.change n c).1)) w'') from fun w' hb => by
      have hbb := bel_tr f2 hb
      obtain ⟨FD, Ze, I, pv, qv, tv, hsub, hd, hw, hst⟩ := (H.out.below hbb).st
      refine (D.dchange_any hd hw (by rw [wsK_len hw]; omega) hok.k n c).mono ?_
      rintro e w'' ⟨he2, FD', I', qv', tv', hd', hg, hw', hf⟩
      have hx2 := hf.at_ ((hb.block _ (blk_lt HX1.out)).trans HX1.out) (fun q => HNF.out (hsub _ q))
      exact ⟨he2, ⟨by rw [cell_of_row _ _ 0 _ _ _ hx2]; rfl, by rw [cell_of_row _ _ 1 _ _ _ hx2]; rfl, by rw [cell_of_row _ _ 2 _ _ _ hx2]; rfl⟩, hid (DRPost.after hbb ⟨rfl, ⟨_, hst w'' FD' L _ I' pv qv' tv' hd' hw' hg hf, grew_or hsub hg⟩, hf.mono hsub⟩)⟩)
    clear hag hk hok he hp0 hp1 hn f1 f2 hx1 HX HX1 HF
    go_wp2_with fail
    generalize w.heap.size = bx at *
    go_region_held3 (fun w' => w'.cell? ⟨bx, 0, none⟩ = some (.int .i64 c.kind) ∧ w'.cell? ⟨bx, 1, none⟩ = some (.int .i64 c.key) ∧ w'.cell? ⟨bx, 2, none⟩ = some (.int .u64 c.val)) (first | assumption | exact c3_step (Q.bd1 _) (by assumption) | exact c3_step (Q.bdN _ _) (by assumption) | exact c3_step (by assumption) (by assumption)) (first
      | (go_at_call 66; refine (HC.out _ (by repeat (first | assumption | exact Q.bd1 _ | exact Q.bdN _ _ | refine bel_tr ?_ (by assumption)))).mono ?_; rintro e wa ⟨rfl, sx, HFIN⟩))
    all_goals
      go_wp2_with fail
      go_ret
      rw [HM.out]
      exact HFIN.out
end Go.Proofs.YtdejbinmnoabeaaGreat
namespace Go.Proofs.YtdejbinmnoabeaaGreat
open Go.RowKit Go.Mine Go.Proofs.YtdejbinmnoabeaaGreatW.PrintWords
set_option linter.unusedVariables false
set_option linter.unusedSimpArgs false
abbrev ChAt (w : World) (B : Nat) (A : Option Addr) (l : List Ch) : Prop := Q.ChAt w B A l
theorem ChAt.ofK {w : World} {B : Nat} {A : Option Addr} {l : List Ch} (h : K.ChAt w B A l) : ChAt w B A l := h
theorem ChAt.toK {w : World} {B : Nat} {A : Option Addr} {l : List Ch} (h : ChAt w B A l) : K.ChAt w B A l := h
def flatC (l : List Ch) : List Value := l.flatMap Q.encCh
theorem flatC_cons (c : Ch) (l : List Ch) : flatC (c :: l) = Q.encCh c ++ flatC l := rfl
theorem flatC_len (l : List Ch) : (flatC l).length = l.length * 3 := by
  induction l with
  | nil => rfl
  | cons c cs ih => rw [flatC_cons, List.length_append, ih, List.length_cons]; show 3 + _ = _; omega
theorem flatC_append (a b : List Ch) : flatC (a ++ b) = flatC a ++ flatC b := by unfold flatC; exact List.flatMap_append
theorem flatC_get : ∀ (l : List Ch) (i : Nat) (x : Ch) (j : Nat), l[i]? = some x → j < 3 → (flatC l)[i * 3 + j]? = (Q.encCh x)[j]?
  | c :: cs, 0, x, j, hx, hj => by
    simp at hx
    subst hx
    rw [flatC_cons, List.getElem?_append_left (by show _ < 3; omega)]
    simp
  | c :: cs, i + 1, x, j, hx, hj => by
    rw [flatC_cons, List.getElem?_append_right (by show 3 ≤ _; omega)]
    have := flatC_get cs i x j (by simpa using hx) hj
    rw [← this]
    congr 1
    show _ - 3 = _
    omega
theorem flatC_one {l : List Ch} : ∀ u ∈ flatC l, u.oneCell' = true := by
  intro u hu
  obtain ⟨x, _, hx⟩ := List.mem_flatMap.1 hu
  exact Q.eCh.one x u hx
theorem flatC_holds {w : World} {B b off : Nat} {l : List Ch} (h : ChAt w B (some ⟨b, off, none⟩) l) (j : Nat) (v : Value) (hv : (flatC l)[j]? = some v) : w.cell? ((⟨b, off, none⟩ : Addr).add j) = some v := by
  have hj := (List.getElem?_eq_some_iff.1 hv).1
  rw [flatC_len] at hj
  have hi : j / 3 < l.length := by omega
  have hx : l[j / 3]? = some l[j / 3] := List.getElem?_eq_getElem hi
  obtain ⟨b', off', e, _, hc⟩ := h _ _ hx
  cases e
  have := flatC_get l (j / 3) _ (j % 3) hx (Nat.mod_lt _ (by decide))
  rw [show j / 3 * 3 + j % 3 = j by omega, hv] at this
  have := hc (j % 3) v this.symm
  rw [show off + j / 3 * 3 + j % 3 = off + j by omega] at this
  rw [Addr.add_lit]
  exact this
theorem src_of {w : World} {B n : Nat} {A : Option Addr} {l : List Ch} (h : ChAt w B A l) (hn : l.length = n) (c : Nat) : Src Tryz.prog 3 40 (.slice A n c) n (flatC l) w := by
  subst hn
  cases l with
  | nil =>
    refine ⟨.inl ⟨90, Tryz.underlying40⟩, fun _ => rfl, ?_, ?_, rfl, fun u hu => by cases hu⟩
    · cases A with
      | none => exact run_firstCells_none _ _ _ _ _
      | some a => exact run_firstCells_some _ _ _ _ _ _ [] rfl (fun j v hv => by simp at hv)
    · cases A with
      | none => exact run_firstCells_none _ _ _ _ _
      | some a => exact run_firstCells_some _ _ _ _ _ _ [] rfl (fun j v hv => by simp at hv)
  | cons x xs =>
    obtain ⟨b, off, e, _⟩ := h 0 x rfl
    subst e
    exact Src.ofSlice w Tryz.underlying40 _ _ _ _ (flatC_len _) (flatC_holds h) flatC_one
theorem info62c : ∃ i, Tryz.prog.info? 90 = some i ∧ i.zero = some (.agg #[.int .i64 0, .int .i64 0, .int .u64 0]) ∧ i.size = 3 ∧ i.bytes = 24 := by
  have h : (Tryz.prog.info? 90).map (fun i => (i.zero, i.size, i.bytes)) = some (some (.agg #[.int .i64 0, .int .i64 0, .int .u64 0]), 3, 24) := by kernel_rfl
  obtain ⟨i, hi, hz⟩ := Option.map_eq_some_iff.1 h
  simp only [Prod.mk.injEq] at hz
  exact ⟨i, hi, hz.1, hz.2.1, hz.2.2⟩
theorem ncap (n c : Nat) (hn : n ≤ 1000) (hc : c < n) : Builtin.nextslicecap n c * 24 ≤ 281474976710656 := by
  have := nextslicecap_le hc
  omega
theorem append_full {w : World} {B : Nat} {A1 A2 : Option Addr} {l1 l2 : List Ch} {n1 n2 c2 : Nat} (h1 : ChAt w B A1 l1) (h2 : ChAt w B A2 l2) (e1 : l1.length = n1) (e2 : l2.length = n2) (hB : B ≤ w.heap.size) (hn1 : n1 ≤ 400) (hn2 : n2 ≤ 400) (ty : TypeId) :
    ∃ A c w', (Builtin.append_ #[40, 40] ty #[.slice A1 n1 n1, .slice A2 n2 c2]).run Tryz.prog w = .ok (.slice A (n1 + n2) c) w' ∧ n1 + n2 ≤ c ∧ ChAt w' w'.heap.size A (l1 ++ l2) ∧ Below w.heap.size w w' ∧ (A = A1 ∨ A = some ⟨w.heap.size, 0, none⟩) := by
  obtain ⟨i, hi, hz, hs, hb⟩ := info62c
  have s2 := src_of h2 e2 c2
  by_cases q : n2 = 0
  · subst q
    have hl2 : l2 = [] := List.eq_nil_of_length_eq_zero e2
    subst hl2
    refine ⟨A1, n1, w, ?_, by omega, ?_, Below.refl _ _, .inl rfl⟩
    · exact run_append_nothing w 40 40 ty 90 i Tryz.underlying40 hi A1 n1 n1 (Nat.le_refl _) _ (by rw [hs]; exact s2)
    · rw [List.append_nil]; exact h1.up hB
  · have hold := (src_of h1 e1 n1).cellsD
    rw [← hs] at hold s2
    have hr := run_append_grow_src w 40 40 ty 90 i _ Tryz.underlying40 hi hz A1 n1 n1 (flatC l1) hold _ n2 (flatC l2) s2 (by omega) (by omega) (by rw [hb]; exact ncap _ _ (by omega) (by omega))
    have hg : n1 + n2 ≤ grownCap w (n1 + n2) n1 90 := grownCap_ge _ _ _ _
    generalize hz2 : Builtin.zeroCells (Value.agg #[.int .i64 0, .int .i64 0, .int .u64 0]).cells (grownCap w (n1 + n2) n1 90 - (n1 + n2)) = Z at hr
    refine ⟨_, _, _, hr, hg, ?_, (Q.bd1 w).alloc (Nat.le_refl _) _, .inr rfl⟩
    intro k x hx
    refine ⟨w.heap.size, 0, rfl, by simp, fun j v hv => ?_⟩
    have hj : j < 3 := (List.getElem?_eq_some_iff.1 hv).1
    have hk := (MapKept.heap_alloc w.drew (.cells ((flatC l1 ++ flatC l2).toArray ++ Z) 90)).1
    rw [show w.drew.heap.size = w.heap.size from rfl] at hk
    rw [cell_of_row _ _ _ _ _ _ hk, ← flatC_append, Nat.zero_add]
    have hg2 := flatC_get _ k x j hx hj
    rw [Array.getElem?_append_left (by
      have := (List.getElem?_eq_some_iff.1 hx).1
      simp [flatC_len]
      simp at this
      omega)]
    simp only [List.getElem?_toArray]
    rw [hg2]
    exact hv
end Go.Proofs.YtdejbinmnoabeaaGreat
namespace Go.Proofs.YtdejbinmnoabeaaGreat
open Go.RowKit Go.Mine Go.Proofs.YtdejbinmnoabeaaGreatW.PrintWords
open Go.ChangeMaps (setBlock)
set_option linter.unusedVariables false
set_option linter.unusedSimpArgs false
theorem mget_put {L : List (Int × Bool × Nat)} {c : Nat} (h : Ok L c) (n m : Int) (v : Bool) (d : Nat) : (mget m (mput n v d L)).getD false = if m = n then v else (mget m L).getD false := by
  rw [kv_get, kv_put, kv_get]
  by_cases q : m = n
  · subst q
    rw [aget_put_self m v (kv_keys h), if_pos rfl]
    rfl
  · rw [aget_put_other v (kv_keys h) q, if_neg q]
theorem aget_adel {α β : Type} [DecidableEq α] (m n : α) (A : List (α × β)) : aget m (adel n A) = if m = n then none else aget m A := by
  by_cases q : m = n
  · subst q
    rw [if_pos rfl, aget_none]
    intro e he
    have := List.mem_filter.1 he
    simpa using this.2
  · rw [if_neg q]
    unfold aget adel
    rw [List.find?_filter]
    congr 2
    funext e
    by_cases h : e.1 = m
    · simp [h, q]
    · simp [h]
theorem mget_del {L : List (Int × Bool × Nat)} (n m : Int) : (mget m (mdel n L)).getD false = ((mget m L).getD false && !(m == n)) := by
  rw [kv_get, kv_del, kv_get, aget_adel]
  by_cases q : m = n
  · subst q; simp
  · simp [q]
def MPost (F : Nat → Prop) (w : World) (b : Nat) (k : KS) (q : QS) (f0 f1 : Int → Bool) (r : Value) (e : Ending) (w' : World) : Prop :=
  e = .returned r ∧ (∃ F', RX F' w' b k q f0 f1 ∧ K.Grew F F' w ∧ ∀ i, F' i → F i ∨ w.heap.size ≤ i) ∧ Fr F w w'
set_option maxRecDepth 100000 in
set_option maxHeartbeats 2000000 in
theorem mark0_any {F : Nat → Prop} {w : World} {b : Nat} {k : KS} {q : QS} {f0 f1 : Int → Bool} (h : RX F w b k q f0 f1) (n : Int) (A : Option Addr) (l : List Ch) (N c : Nat) (hN : l.length = N) :
    Calls Tryz.prog 55 #[.pointer (some ⟨b, 0, none⟩), .int .i64 0, .int .i64 n, .slice A N c] w (MPost F w b k q (fun m => f0 m || (m == n && !l.isEmpty)) (f1) (.tuple #[])) := by
  by_cases hl : N = 0
  · have hl0 : l = [] := List.eq_nil_of_length_eq_zero (hN.trans hl)
    have H := hid h
    subst hl
    subst hl0
    clear h
    go_enter Tryz.func55, Tryz.ntmps55
    go_wp2_with fail
    go_end0
    exact ⟨rfl, ⟨F, H.out.marks (fun m => by simp) (fun m => by simp), K.Grew.refl _ _, fun i hi => .inl hi⟩, Fr.refl _ _⟩
  · have hne : l.isEmpty = false := by
      cases l with
      | nil => exact absurd hN.symm hl
      | cons _ _ => rfl
    have hN' : ((N : Int) == 0) = false := by simpa using hl
    obtain ⟨FK, FQ, I, L, mo, lo, J, iv, qv, m0, m1, L0, L1, h, h0, h1⟩ := h
    have HE : Hid (∀ m, (if m = n then true else (mget m L0).getD false) = (f0 m || (m == n && !l.isEmpty))) := hid (fun m => by
      rw [h0, hne]
      by_cases q : m = n
      · subst q; simp
      · simp [q])
    have hmn := fun w' mo => run_eql_map_nil (P := Tryz.prog) w' 79 3 4 mo Tryz.underlying79
    have c0 : w.cell? ⟨b, 37, none⟩ = some (.map m0) := by rw [cell_of_row w b 37 _ _ _ h.kr.blk]; exact sc37 h.kr.lv h.kr.lth
    have z0 : w.frozen? ⟨b, 37, none⟩ = false := by simp [World.frozen?, h.kr.blk]
    have hb0 : b < w.heap.size := h.fb _ (h.fk _ h.kr.b)
    have hFb := h.fk _ h.kr.b
    have hbm : ∀ c, m0 = some c → b ≠ c := fun c hc e => (h.z0 c hc).2.1 (e ▸ h.kr.b)
    have H := hid h
    have H0 := hid h0
    have H1 := hid h1
    clear h h0 h1 hne
    cases m0 with
    | none =>
      have hL : L0 = [] := H.out.a0
      subst hL
      have hmn' := fun w' => hmn w' none
      clear hmn
      have hmm := @run_makeMap Tryz.prog
      go_enter Tryz.func55, Tryz.ntmps55
      have hc3 : (w.alloc (.map #[] 0)).cell? ⟨b, 37, none⟩ = some (.map none) := by rw [World.cell?_alloc_lt _ _ _ (by show b < _; omega)]; exact c0
      have hf3 : (w.alloc (.map #[] 0)).frozen? ⟨b, 37, none⟩ = false := by rw [World.frozen?_alloc_old _ _ _ (by show b ≠ _; omega)]; exact z0
      have hne : b ≠ w.heap.size := by omega
      have a1 := K.setCell_heap (off := 37) H.out.kr.blk (.map (some w.heap.size))
      rw [set37 H.out.kr.lv H.out.kr.lth] at a1
      have hsz : (w.setCell ⟨b, 37, none⟩ (.map (some w.heap.size))).heap.size = w.heap.size := by simp [World.setCell]
      have a2 : ((w.setCell ⟨b, 37, none⟩ (.map (some w.heap.size))).alloc (.map #[] 0)).heap[b]? = _ := (Below.heap_alloc _ _ _ (by omega)).trans a1
      have m1' : ((w.setCell ⟨b, 37, none⟩ (.map (some w.heap.size))).alloc (.map #[] 0)).heap[w.heap.size]? = some (.map #[] 0) := by
        have := (MapKept.heap_alloc (w.setCell ⟨b, 37, none⟩ (.map (some w.heap.size))) (.map #[] 0)).1
        rw [hsz] at this
        exact this
      have m2 : MapAt (Value.int .i64) Value.bool ((w.setCell ⟨b, 37, none⟩ (.map (some w.heap.size))).alloc (.map #[] 0)) w.heap.size [] 0 := ⟨m1', ⟨by simp, by simp, by simp⟩⟩
      have fA : Fr (fun i => i = b) w ((w.setCell ⟨b, 37, none⟩ (.map (some w.heap.size))).alloc (.map #[] 0)) := (Fr.setCell (S := fun i => i = b) (p := ⟨b, 37, none⟩) (Fr.refl _ w) (.inl rfl) _).alloc _
      have c1 : ((w.setCell ⟨b, 37, none⟩ (.map (some w.heap.size))).alloc (.map #[] 0)).cell? ⟨b, 37, none⟩ = some (.map (some w.heap.size)) := by rw [cell_of_row _ b 37 _ _ _ a2]; exact sc37 H.out.kr.lv H.out.kr.lth
      obtain ⟨w5, c5, hu, hm5, f5, s5⟩ := run_update_at Tryz.underlying79 K.key3 m2 n true
      have hb5 := f5.at_ a2 hne
      have hfr := (fA.trans f5 (fun i hi => .inr (by omega)))
      have hlt : w.heap.size < w5.heap.size := by rw [s5]; simp
      have HM := hid (H.out.map0 (m0' := some w.heap.size) (L0' := mput n true 0 []) (hfr.mono (fun i hi => .inl hi)) hb5 ⟨c5, hm5⟩ (.inr (fun c hc => by cases hc; exact ⟨Nat.le_refl _, hlt⟩)))
      have HFR := hid hfr
      clear hb5 hm5 m2 m1' a2 a1 s5 hsz f5 fA hfr hlt
      go_wp2
      go_end0
      have hok : Ok ([] : List (Int × Bool × Nat)) 0 := Ok.nil 0
      refine ⟨rfl, ⟨_, ⟨FK, FQ, I, L, mo, lo, J, iv, qv, _, m1, _, _, HM.out, fun m => (mget_put hok n m true _).trans (HE.out m), H1.out⟩, fun i hi => hi.imp id (fun q => by cases q; exact Nat.le_refl _), fun i hi => hi.imp id (fun q => by cases q; exact Nat.le_refl _)⟩, HFR.out.mono (fun i hi => by rw [hi]; exact hFb)⟩
    | some bm =>
      obtain ⟨cc, hm⟩ := H.out.a0
      have hmn' := fun w' => hmn w' (some bm)
      obtain ⟨w5, c5, hu, hm5, f5, s5⟩ := run_update_at Tryz.underlying79 K.key3 hm n true
      have hb5 := f5.at_ H.out.kr.blk (hbm bm rfl)
      have HM := hid (H.out.map0 (f5.mono (fun i hi => .inr (by rw [hi]))) hb5 ⟨c5, hm5⟩ (.inl rfl))
      have HF5 := hid f5
      have hFm := (H.out.z0 bm rfl).1
      have HOK := hid hm.ok
      clear hmn hb5 hm5 s5 f5 hm
      go_enter Tryz.func55, Tryz.ntmps55
      go_wp2
      go_end0
      have hok := HOK.out
      refine ⟨rfl, ⟨_, ⟨FK, FQ, I, L, mo, lo, J, iv, qv, _, m1, _, _, HM.out, fun m => (mget_put hok n m true _).trans (HE.out m), H1.out⟩, fun i hi => hi.elim .inl (fun q => by cases q; exact .inl hFm), fun i hi => hi.elim .inl (fun q => by cases q; exact .inl hFm)⟩, HF5.out.mono (fun i hi => by rw [hi]; exact hFm)⟩
set_option maxRecDepth 100000 in
set_option maxHeartbeats 2000000 in
theorem mark1_any {F : Nat → Prop} {w : World} {b : Nat} {k : KS} {q : QS} {f0 f1 : Int → Bool} (h : RX F w b k q f0 f1) (n : Int) (A : Option Addr) (l : List Ch) (N c : Nat) (hN : l.length = N) :
    Calls Tryz.prog 55 #[.pointer (some ⟨b, 0, none⟩), .int .i64 1, .int .i64 n, .slice A N c] w (MPost F w b k q (f0) (fun m => f1 m || (m == n && !l.isEmpty)) (.tuple #[])) := by
  by_cases hl : N = 0
  · have hl0 : l = [] := List.eq_nil_of_length_eq_zero (hN.trans hl)
    have H := hid h
    subst hl
    subst hl0
    clear h
    go_enter Tryz.func55, Tryz.ntmps55
    go_wp2_with fail
    go_end0
    exact ⟨rfl, ⟨F, H.out.marks (fun m => by simp) (fun m => by simp), K.Grew.refl _ _, fun i hi => .inl hi⟩, Fr.refl _ _⟩
  · have hne : l.isEmpty = false := by
      cases l with
      | nil => exact absurd hN.symm hl
      | cons _ _ => rfl
    have hN' : ((N : Int) == 0) = false := by simpa using hl
    obtain ⟨FK, FQ, I, L, mo, lo, J, iv, qv, m0, m1, L0, L1, h, h0, h1⟩ := h
    have HE : Hid (∀ m, (if m = n then true else (mget m L1).getD false) = (f1 m || (m == n && !l.isEmpty))) := hid (fun m => by
      rw [h1, hne]
      by_cases q : m = n
      · subst q; simp
      · simp [q])
    have hmn := fun w' mo => run_eql_map_nil (P := Tryz.prog) w' 79 3 4 mo Tryz.underlying79
    have c0 : w.cell? ⟨b, 38, none⟩ = some (.map m1) := by rw [cell_of_row w b 38 _ _ _ h.kr.blk]; exact sc38 h.kr.lv h.kr.lth
    have z0 : w.frozen? ⟨b, 38, none⟩ = false := by simp [World.frozen?, h.kr.blk]
    have hb0 : b < w.heap.size := h.fb _ (h.fk _ h.kr.b)
    have hFb := h.fk _ h.kr.b
    have hbm : ∀ c, m1 = some c → b ≠ c := fun c hc e => (h.z1 c hc).2.1 (e ▸ h.kr.b)
    have H := hid h
    have H0 := hid h0
    have H1 := hid h1
    clear h h0 h1 hne
    cases m1 with
    | none =>
      have hL : L1 = [] := H.out.a1
      subst hL
      have hmn' := fun w' => hmn w' none
      clear hmn
      have hmm := @run_makeMap Tryz.prog
      go_enter Tryz.func55, Tryz.ntmps55
      have hc3 : (w.alloc (.map #[] 0)).cell? ⟨b, 38, none⟩ = some (.map none) := by rw [World.cell?_alloc_lt _ _ _ (by show b < _; omega)]; exact c0
      have hf3 : (w.alloc (.map #[] 0)).frozen? ⟨b, 38, none⟩ = false := by rw [World.frozen?_alloc_old _ _ _ (by show b ≠ _; omega)]; exact z0
      have hne : b ≠ w.heap.size := by omega
      have a1 := K.setCell_heap (off := 38) H.out.kr.blk (.map (some w.heap.size))
      rw [set38 H.out.kr.lv H.out.kr.lth] at a1
      have hsz : (w.setCell ⟨b, 38, none⟩ (.map (some w.heap.size))).heap.size = w.heap.size := by simp [World.setCell]
      have a2 : ((w.setCell ⟨b, 38, none⟩ (.map (some w.heap.size))).alloc (.map #[] 0)).heap[b]? = _ := (Below.heap_alloc _ _ _ (by omega)).trans a1
      have m1' : ((w.setCell ⟨b, 38, none⟩ (.map (some w.heap.size))).alloc (.map #[] 0)).heap[w.heap.size]? = some (.map #[] 0) := by
        have := (MapKept.heap_alloc (w.setCell ⟨b, 38, none⟩ (.map (some w.heap.size))) (.map #[] 0)).1
        rw [hsz] at this
        exact this
      have m2 : MapAt (Value.int .i64) Value.bool ((w.setCell ⟨b, 38, none⟩ (.map (some w.heap.size))).alloc (.map #[] 0)) w.heap.size [] 0 := ⟨m1', ⟨by simp, by simp, by simp⟩⟩
      have fA : Fr (fun i => i = b) w ((w.setCell ⟨b, 38, none⟩ (.map (some w.heap.size))).alloc (.map #[] 0)) := (Fr.setCell (S := fun i => i = b) (p := ⟨b, 38, none⟩) (Fr.refl _ w) (.inl rfl) _).alloc _
      have c1 : ((w.setCell ⟨b, 38, none⟩ (.map (some w.heap.size))).alloc (.map #[] 0)).cell? ⟨b, 38, none⟩ = some (.map (some w.heap.size)) := by rw [cell_of_row _ b 38 _ _ _ a2]; exact sc38 H.out.kr.lv H.out.kr.lth
      obtain ⟨w5, c5, hu, hm5, f5, s5⟩ := run_update_at Tryz.underlying79 K.key3 m2 n true
      have hb5 := f5.at_ a2 hne
      have hfr := (fA.trans f5 (fun i hi => .inr (by omega)))
      have hlt : w.heap.size < w5.heap.size := by rw [s5]; simp
      have HM := hid (H.out.map1 (m1' := some w.heap.size) (L1' := mput n true 0 []) (hfr.mono (fun i hi => .inl hi)) hb5 ⟨c5, hm5⟩ (.inr (fun c hc => by cases hc; exact ⟨Nat.le_refl _, hlt⟩)))
      have HFR := hid hfr
      clear hb5 hm5 m2 m1' a2 a1 s5 hsz f5 fA hfr hlt
      go_wp2
      go_end0
      have hok : Ok ([] : List (Int × Bool × Nat)) 0 := Ok.nil 0
      refine ⟨rfl, ⟨_, ⟨FK, FQ, I, L, mo, lo, J, iv, qv, m0, _, _, _, HM.out, H0.out, fun m => (mget_put hok n m true _).trans (HE.out m)⟩, fun i hi => hi.imp id (fun q => by cases q; exact Nat.le_refl _), fun i hi => hi.imp id (fun q => by cases q; exact Nat.le_refl _)⟩, HFR.out.mono (fun i hi => by rw [hi]; exact hFb)⟩
    | some bm =>
      obtain ⟨cc, hm⟩ := H.out.a1
      have hmn' := fun w' => hmn w' (some bm)
      obtain ⟨w5, c5, hu, hm5, f5, s5⟩ := run_update_at Tryz.underlying79 K.key3 hm n true
      have hb5 := f5.at_ H.out.kr.blk (hbm bm rfl)
      have HM := hid (H.out.map1 (f5.mono (fun i hi => .inr (by rw [hi]))) hb5 ⟨c5, hm5⟩ (.inl rfl))
      have HF5 := hid f5
      have hFm := (H.out.z1 bm rfl).1
      have HOK := hid hm.ok
      clear hmn hb5 hm5 s5 f5 hm
      go_enter Tryz.func55, Tryz.ntmps55
      go_wp2
      go_end0
      have hok := HOK.out
      refine ⟨rfl, ⟨_, ⟨FK, FQ, I, L, mo, lo, J, iv, qv, m0, _, _, _, HM.out, H0.out, fun m => (mget_put hok n m true _).trans (HE.out m)⟩, fun i hi => hi.elim .inl (fun q => by cases q; exact .inl hFm), fun i hi => hi.elim .inl (fun q => by cases q; exact .inl hFm)⟩, HF5.out.mono (fun i hi => by rw [hi]; exact hFm)⟩
theorem row_fr {F : Nat → Prop} {w w' : World} {A : Option Addr} {l : List Ch} (h : ChAt w w.heap.size A l) (hf : Fr F w w') (hA : ∀ k off, A = some ⟨k, off, none⟩ → ¬ F k) : ChAt w' w'.heap.size A l :=
  (Q.RowAt.fr h hf (fun _ b off e => hA b off e)).up hf.size
def RPrep (F : Nat → Prop) (w : World) (b : Nat) (R : (List Ch × Int) × RM) (e : Ending) (w' : World) : Prop :=
  ∃ A c, e = .returned (.tuple #[.slice A R.1.1.length c, .int .i64 R.1.2]) ∧ (∃ F', RAt F' w' b R.2 ∧ K.Grew F F' w ∧ ∀ k off, A = some ⟨k, off, none⟩ → w.heap.size ≤ k ∧ ¬ F' k) ∧ ChAt w' w'.heap.size A R.1.1 ∧ R.1.1.length ≤ c ∧ Fr F w w'
theorem kprep_len {s : KS} (h : s.Ok) (n : Int) : (s.prepare n).1.1.length ≤ 16 := by
  have hl := (h.listOf n).len
  unfold KS.prepare
  split
  · simp
  · unfold KS.listOf at hl
    cases hg : aget n s.ws with
    | none => simp
    | some v =>
      rw [hg] at hl
      simp only
      split
      · simp
      · split
        · simp
        · exact hl
theorem qlist_len {s : QS} (h : s.Ok) (n : Int) : (listOfW n s.ws).length ≤ 32 := by
  unfold listOfW
  cases ha : aget n s.ws with
  | none => simp
  | some v =>
    have hm := aget_mem ha
    have h1 := putsW_mem hm
    have h2 := h.takes_le hm
    have h3 := h.sz
    have h4 := len_split (h.ch _ hm)
    show v.l.length ≤ 32
    have h5 : v.l.length = putsL v.l + takesL v.l := h4
    have h6 : takesL v.l ≤ s.its.length := h2
    have h7 : putsL v.l ≤ putsW s.ws := h1
    omega
theorem qprep_len {s : QS} (h : s.Ok) (n : Int) : (s.prepare n).1.1.length ≤ 32 := by
  have hl := qlist_len h n
  unfold QS.prepare
  split
  · simp
  · unfold listOfW at hl
    cases hg : aget n s.ws with
    | none => simp
    | some v => rw [hg] at hl; exact hl
theorem own_addr {A : Option Addr} {n c k off : Nat} (h : A = some ⟨k, off, none⟩) : (Value.slice A n c).ownBlock = some k := by subst h; rfl
set_option maxRecDepth 100000 in
set_option maxHeartbeats 4000000 in
theorem prepare_any {F : Nat → Prop} {w : World} {b : Nat} {s : RM} (h : RAt F w b s) (n : Int) :
    Calls Tryz.prog 20 #[.pointer (some ⟨b, 0, none⟩), .int .i64 n] w (RPrep F w b (s.prepare n)) := by
  have HF := hid (fit_any h n)
  have H := hid h
  clear h
  rcases s.fit_cases n with ⟨hn, he⟩ | ⟨hn, he, hp⟩ | ⟨hn, he, hp0, hp1⟩
  · have HM := hid (show s.prepare n = (([], 1), s) from by unfold RM.prepare; rw [if_pos (by rw [he]; decide), he])
    rw [he] at HF
    go_enter Tryz.func20, Tryz.ntmps20
    go_wp2_with fail
    refine HF.out.mono ?_
    rintro e w1 ⟨rfl, rfl⟩
    go_wp2_with fail
    go_ret2
    rw [HM.out]
    exact ⟨none, 0, rfl, ⟨F, H.out, K.Grew.refl _ _, fun k off e => by cases e⟩, fun i x hx => by simp at hx, Nat.le_refl _, Fr.refl _ _⟩
  · have HM := hid (show s.prepare n = (([], 7), s) from by unfold RM.prepare; rw [if_pos (by rw [he]; decide), he])
    rw [he] at HF
    go_enter Tryz.func20, Tryz.ntmps20
    go_wp2_with fail
    refine HF.out.mono ?_
    rintro e w1 ⟨rfl, rfl⟩
    go_wp2_with fail
    go_ret2
    rw [HM.out]
    exact ⟨none, 0, rfl, ⟨F, H.out, K.Grew.refl _ _, fun k off e => by cases e⟩, fun i x hx => by simp at hx, Nat.le_refl _, Fr.refl _ _⟩
  · have HM := hid (show s.prepare n = _ from by unfold RM.prepare; rw [if_neg (by rw [he]; simp)])
    rw [he] at HF
    have hkl := kprep_len H.out.kok n
    have hql := qprep_len H.out.qok n
    have HP0 := hid (fun m => prepd_kprep (m := m) H.out.kok hn hp0)
    have HP1 := hid (fun m => prepd_qprep (m := m) H.out.qok hn hp1)
    have hqok := H.out.qok
    have HQOK := hid (hqok.prepare n)
    have HQBD := hid hqok.bd
    obtain ⟨FK, Pz, hsub, hk, hst⟩ := H.out.kv
    have HC := hid (K.prepare_any hk n)
    have HST := hid hst
    have HSUB := hid hsub
    clear he hp0 hp1 hk hst hqok hsub
    rw [HM.out]
    go_enter Tryz.func20, Tryz.ntmps20
    go_wp2_with fail
    refine HF.out.mono ?_
    rintro e w1 ⟨rfl, rfl⟩
    go_wp2_with fail
    refine HC.out.mono ?_
    rintro e w1 ⟨v1, rfl, ⟨FK', hk', hg1, ho1⟩, hr1, hf1⟩
    have hx1 := HST.out w1 FK' _ hk' hg1 hf1
    have hF1 : ∀ i, F i → i < w.heap.size := H.out.fb
    obtain ⟨A1, c1, rfl, hc1, hat1⟩ := hr1.at_
    have hb1 : ∀ k off, A1 = some ⟨k, off, none⟩ → w.heap.size ≤ k ∧ k < w1.heap.size ∧ ¬ (F k ∨ FK' k) := fun k off e => by
      have h1 := ho1 k (own_addr e)
      have h2 := hr1.lt k (own_addr e)
      exact ⟨h1.1, h2, fun q => q.elim (fun q => by have := hF1 k q; omega) h1.2⟩
    obtain ⟨FQ, Z, hsq, hq, hqt⟩ := hx1.qu
    have HCQ := hid (Q.prepare_any hq HQBD.out n)
    have HQT := hid hqt
    have HSQ := hid hsq
    have HX1 := hid hx1
    have HG1 := hid hg1
    have HF1 := hid hf1
    have HAT1 := hid hat1
    have HB1 := hid hb1
    generalize hla : (s.k.prepare n).1.1 = la at *
    clear hr1 hk' hx1 hq hqt hsq hg1 hf1 hat1 ho1 hb1 HC HST hF1
    go_wp2_with fail
    refine HCQ.out.mono ?_
    rintro e w2 ⟨v2, rfl, ⟨FQ', hq', hg2, ho2⟩, hr2, hf2⟩
    have hx2 := HQT.out w2 FQ' _ hq' HQOK.out hg2 hf2
    obtain ⟨A2, c2, rfl, hc2, hat2⟩ := hr2.at_
    have hat1' : ChAt w2 w2.heap.size A1 la := row_fr (ChAt.ofK HAT1.out) hf2 (fun k off e q => (HB1.out k off e).2.2 (HSQ.out k q))
    have hb1' : ∀ k off, A1 = some ⟨k, off, none⟩ → w.heap.size ≤ k ∧ k < w2.heap.size ∧ ¬ ((F k ∨ FK' k) ∨ FQ' k) := fun k off e => by
      have h1 := HB1.out k off e
      refine ⟨h1.1, Nat.lt_of_lt_of_le h1.2.1 hf2.size, fun q => q.elim h1.2.2 (fun q => ?_)⟩
      rcases hg2 k q with r | r
      · exact h1.2.2 (HSQ.out k r)
      · omega
    have hfx1 := HX1.out.fb
    have hb2 : ∀ k off, A2 = some ⟨k, off, none⟩ → w1.heap.size ≤ k ∧ k < w2.heap.size ∧ ¬ ((F k ∨ FK' k) ∨ FQ' k) := fun k off e => by
      have h1 := ho2 k (own_addr e)
      exact ⟨h1.1, hr2.lt (own_addr e), fun q => q.elim (fun q => by have := hfx1 k q; omega) h1.2⟩
    have HC3 := hid (mark0_any hx2 n A1 la la.length c1 rfl)
    have HX2 := hid hx2
    have HG2 := hid hg2
    have HF2 := hid hf2
    have HAT1 := hid hat1'
    have HAT2 := hid hat2
    have HB1 := hid hb1'
    have HB2 := hid hb2
    generalize hlb : (s.q.prepare n).1.1 = lb at *
    clear hr2 hq' hx2 hg2 hf2 hat2 ho2 hb1' hb2 hat1' HCQ HQT hfx1
    go_wp2_with fail
    refine HC3.out.mono ?_
    rintro e w3 ⟨rfl, ⟨F3, hx3, hg3, hs3⟩, hf3⟩
    have hat1' : ChAt w3 w3.heap.size A1 la := row_fr HAT1.out hf3 (fun k off e => (HB1.out k off e).2.2)
    have hat2' : ChAt w3 w3.heap.size A2 lb := row_fr HAT2.out hf3 (fun k off e => (HB2.out k off e).2.2)
    have hb1' : ∀ k off, A1 = some ⟨k, off, none⟩ → w.heap.size ≤ k ∧ k < w3.heap.size ∧ ¬ F3 k := fun k off e => by
      have h1 := HB1.out k off e
      refine ⟨h1.1, Nat.lt_of_lt_of_le h1.2.1 hf3.size, fun q => (hs3 k q).elim h1.2.2 (fun q => by omega)⟩
    have hb2' : ∀ k off, A2 = some ⟨k, off, none⟩ → w.heap.size ≤ k ∧ k < w3.heap.size ∧ ¬ F3 k := fun k off e => by
      have h1 := HB2.out k off e
      refine ⟨Nat.le_trans HF1.out.size h1.1, Nat.lt_of_lt_of_le h1.2.1 hf3.size, fun q => (hs3 k q).elim h1.2.2 (fun q => by omega)⟩
    have HC4 := hid (mark1_any hx3 n A2 lb lb.length c2 rfl)
    have HG3 := hid hg3
    have HF3 := hid hf3
    have HAT1 := hid hat1'
    have HAT2 := hid hat2'
    have HB1 := hid hb1'
    have HB2 := hid hb2'
    clear hx3 hg3 hs3 hf3 hat1' hat2' hb1' hb2' HC3
    go_wp2_with fail
    refine HC4.out.mono ?_
    rintro e w4 ⟨rfl, ⟨F4, hx4, hg4, hs4⟩, hf4⟩
    have hat1' : ChAt w4 w4.heap.size A1 la := row_fr HAT1.out hf4 (fun k off e => (HB1.out k off e).2.2)
    have hat2' : ChAt w4 w4.heap.size A2 lb := row_fr HAT2.out hf4 (fun k off e => (HB2.out k off e).2.2)
    have hb1' : ∀ k off, A1 = some ⟨k, off, none⟩ → w.heap.size ≤ k ∧ ¬ F4 k := fun k off e => by
      have h1 := HB1.out k off e
      exact ⟨h1.1, fun q => (hs4 k q).elim h1.2.2 (fun q => by omega)⟩
    obtain ⟨A5, c5, w5, hrun, hc5, hat5, hb5, hA5⟩ := append_full (c2 := c2) hat1' hat2' rfl rfl (Nat.le_refl _) (by omega) (by omega) 40
    have hsz4 : w.heap.size ≤ w4.heap.size := Nat.le_trans HF1.out.size (Nat.le_trans HF2.out.size (Nat.le_trans HF3.out.size hf4.size))
    have hg01 : ∀ i, (F i ∨ FK' i) → F i ∨ w.heap.size ≤ i := fun i hi => hi.elim .inl (fun q => (HG1.out i q).imp (HSUB.out i) id)
    have hf01 : Fr F w w1 := HF1.out.mono HSUB.out
    have hf02 : Fr F w w2 := hf01.trans HF2.out (fun i hi => hg01 i (HSQ.out i hi))
    have hg02 : ∀ i, ((F i ∨ FK' i) ∨ FQ' i) → F i ∨ w.heap.size ≤ i := fun i hi => hi.elim (hg01 i) (fun q => (HG2.out i q).elim (fun r => hg01 i (HSQ.out i r)) (fun r => .inr (Nat.le_trans hf01.size r)))
    have hf03 : Fr F w w3 := hf02.trans HF3.out hg02
    have hg03 : ∀ i, F3 i → F i ∨ w.heap.size ≤ i := fun i hi => (HG3.out i hi).elim (hg02 i) (fun r => .inr (Nat.le_trans hf02.size r))
    have hf04 : Fr F w w4 := hf03.trans hf4 hg03
    have hg04 : ∀ i, F4 i → F i ∨ w.heap.size ≤ i := fun i hi => (hg4 i hi).elim (hg03 i) (fun r => .inr (Nat.le_trans hf03.size r))
    have hx5 := (hx4.marks (fun m => (HP0.out m).symm) (fun m => (HP1.out m).symm)).below hb5
    have hf05 : Fr F w w5 := hf04.trans (Fr.of_below hb5 (Nat.le_refl _)) (fun _ q => q.elim)
    have hA5' : ∀ k off, A5 = some ⟨k, off, none⟩ → w.heap.size ≤ k ∧ ¬ F4 k := fun k off e => by
      rcases hA5 with r | r
      · exact hb1' k off (r ▸ e)
      · rw [r] at e
        cases e
        exact ⟨hsz4, fun q => by have := hx4.fb _ q; omega⟩
    have HRUN := hid hrun
    have HX5 := hid hx5
    have HF5 := hid hf05
    have HA5 := hid hA5'
    have HG4 := hid hg04
    have HAT5 := hid hat5
    clear hrun hx5 hf05 hA5' hg04 hg03 hf04 hf03 hf02 hg02 hf01 hg01 hat5 hb5 hA5 hx4 hg4 hs4 hf4 hat1' hat2' hb1' HC4 HAT1 HAT2 HB1 HB2 HP0 HP1 hsz4
    go_wp2_with (at_builtin; go_loud (refine Go.Lib.wpList_append_run w4 rfl (.tmp 46) (.tmp 47) 40 40 rfl _ _ rfl rfl _ w5 HRUN.out ?_))
    go_ret2
    refine ⟨A5, c5, by rw [List.length_append]; rfl, ⟨F4, HX5.out, HG4.out, HA5.out⟩, HAT5.out, by rw [List.length_append]; exact hc5, HF5.out⟩
end Go.Proofs.YtdejbinmnoabeaaGreat

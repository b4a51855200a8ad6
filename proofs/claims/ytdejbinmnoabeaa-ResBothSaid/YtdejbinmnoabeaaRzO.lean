/- Walk of trothlaw15.ResBoth: it answers true. Condition: the list of calls came in. -/
import Derived.Test.YtdejbinmnoabeaaRzO0
namespace Go.Proofs.Ytdejbinmnoabeaa
open Go.RowKit Go.Mine Go.Proofs.YtdejbinmnoabeaaW.PrintWords
set_option linter.unusedVariables false
set_option linter.unusedSimpArgs false
set_option maxRecDepth 100000 in
set_option maxHeartbeats 8000000 in
theorem both_any (A : Option Addr) (ops : List ROp) (c : Nat) (n key v : Int) (bo : Bool) (w : World) (hl : OpsAt w w.heap.size A ops) :
    Calls Try.prog 5 #[.slice A ops.length c, .int .i64 n, .int .i64 key, .int .u64 v, .bool bo] w fun e w' => e = .returned (.bool true) ∧ Below w.heap.size w w' := by
  have HP := hid (played_any A ops c w.heap.size w (Nat.le_refl _) hl)
  clear hl
  go_enter Try.func5, Try.ntmps5
  go_wp2_with fail
  refine HP.out.mono ?_
  rintro e w1 ⟨b, rfl, t1, f1⟩
  have hok := t1.ok
  generalize playR ops = s at *
  obtain ⟨⟨F, hr, hF⟩, hB⟩ := t1
  have HR := hid hr
  have HF := hid hF
  have HB := hid hB
  have H1 := hid f1
  have HOK := hid hok
  clear hr hF hB f1 HP hok
  go_wp2_with fail
  refine (busy_any HR.out n).mono ?_
  rintro e w1' ⟨rfl, rfl⟩
  obtain ⟨bz, hbz⟩ : ∃ bz, (s.k.busy n || s.q.busy n) = bz := ⟨_, rfl⟩
  rw [hbz]
  have HBZ : Hid (s.busy n = bz) := hid hbz
  clear hbz
  cases bz
  · obtain ⟨e1, he1⟩ : ∃ e1, (s.change n ⟨1, key, v⟩).1 = e1 := ⟨_, rfl⟩
    obtain ⟨s1, hs1⟩ : ∃ s1, (s.change n ⟨1, key, v⟩).2 = s1 := ⟨_, rfl⟩
    have HPUT := put_any HR.out n key v
    rw [he1, hs1] at HPUT
    have HE1 := hid he1
    have HS1 := hid hs1
    have HPUT := hid HPUT
    clear he1 hs1
    go_wp2_with fail
    refine HPUT.out.mono ?_
    rintro e w2 ⟨rfl, ⟨F2, r2, g2⟩, f2⟩
    have hF2 : ∀ i, F2 i → w.heap.size ≤ i := fun i hi => (g2 i hi).elim (HF.out i) (fun q => Nat.le_trans HB.out q)
    have H2 := hid (H1.out.trans (f2.below HB.out (fun k hk q => by have := HF.out k q; omega)))
    have HB2 := hid (Nat.le_trans HB.out f2.size)
    have R2 := hid r2
    have HF2 := hid hF2
    clear r2 hF2 g2 f2 HPUT
    by_cases hz1 : e1 = 0
    · subst hz1
      obtain ⟨e2, he2⟩ : ∃ e2, (s1.push n v).1 = e2 := ⟨_, rfl⟩
      obtain ⟨s2, hs2⟩ : ∃ s2, (s1.push n v).2 = s2 := ⟨_, rfl⟩
      have HPU := push_any R2.out n v
      rw [he2, hs2] at HPU
      have HE2 := hid he2
      have HS2 := hid hs2
      have HPU := hid HPU
      clear he2 hs2
      go_wp2_with fail
      refine HPU.out.mono ?_
      rintro e w3 ⟨rfl, ⟨F3, r3, g3⟩, f3⟩
      have hF3 : ∀ i, F3 i → w.heap.size ≤ i := fun i hi => (g3 i hi).elim (HF2.out i) (fun q => Nat.le_trans HB2.out q)
      have H3 := hid (H2.out.trans (f3.below HB2.out (fun k hk q => by have := HF2.out k q; omega)))
      have HB3 := hid (Nat.le_trans HB2.out f3.size)
      have R3 := hid r3
      have HF3 := hid hF3
      clear r3 hF3 g3 f3 HPU
      by_cases hz2 : e2 = 0
      · subst hz2
        have BO : Hid (Both s2 n key v false false) := hid (by
          have e1 := HE1.out
          have e2 := HE2.out
          have x1 := HS1.out
          have x2 := HS2.out
          subst x1
          subst x2
          exact both_of HOK.out HBZ.out e1 e2)
        clear HE1 HE2 HS1 HS2 HBZ HOK
        go_wp2_with fail
        refine (image_any R3.out).mono ?_
        rintro e w4 ⟨vi, rfl, mi, f4⟩
        obtain ⟨m, hm⟩ : ∃ m, imgR s2 = m := ⟨_, rfl⟩
        obtain ⟨A1, c1, A2, c2, rfl, mp⟩ : ∃ A1 c1 A2 c2, vi = .agg #[.slice A1 m.P.length c1, .slice A2 m.L.length c2, .int .i64 m.nx] ∧ PairAt w4 w4.heap.size A1 m.P ∧ UAt w4 w4.heap.size A2 m.L ∧ m.P.length ≤ c1 ∧ m.L.length ≤ c2 ∧ (∀ k off, A1 = some ⟨k, off, none⟩ → w3.heap.size ≤ k) ∧ (∀ k off, A2 = some ⟨k, off, none⟩ → w3.heap.size ≤ k) := by
          rw [← hm]; exact mi
        have we5 := we_new R3.out HF3.out f4 H3.out HB3.out mp
        have HM := hid hm
        have hs4 : w3.heap.size ≤ w4.heap.size := f4.size
        have WE5 := hid we5
        clear mi mp f4 hm we5 hs4 H1 H2 H3 HB HB2 HB3 R2 R3 HR HF HF2 HF3
        go_wp2_with fail
        generalize (w4.alloc (.cells #[.slice A1 m.P.length c1, .slice A2 m.L.length c2, .int .i64 m.nx] 49)) = w5 at *
        generalize w4.heap.size = bx at *
        obtain ⟨hp1, hp2, hp3⟩ := BO.out.prepare
        obtain ⟨s3, hs3⟩ : ∃ s3, (s2.prepare n).2 = s3 := ⟨_, rfl⟩
        rw [hs3] at hp2 hp3
        have HPR := prepare_any WE5.out.r n
        have BO3 := hid hp2
        have HM3 := hid (hp3.trans HM.out)
        have HQ : Hid (s2.prepare n = (([⟨1, key, v⟩, ⟨3, 0, v⟩], 0), s3)) := hid (Prod.ext hp1 hs3)
        clear hp1 hp2 hp3 hs3
        refine HPR.mono ?_
        rw [HQ.out]
        rintro e w6 ⟨Ap, cp, rfl, ⟨F6, r6, g6, _⟩, _, _, f6⟩
        have we6 := WE5.out.next f6 (fun _ q => q) r6 g6
        obtain ⟨k0, k1, k2⟩ := we6.cells
        have WE6 := hid we6
        clear HPR r6 g6 f6 WE5 HQ BO HM
        have hml := imgR_len s3 BO3.out.ok
        rw [HM3.out] at hml
        obtain ⟨ml1, ml2⟩ := hml
        have ML1 := hid ml1
        have ML2 := hid ml2
        have K19 : Hid (∀ w', WX w.heap.size w b bx A1 c1 A2 c2 m w' → Calls Try.prog 19 #[.pointer (some ⟨b, 0, none⟩)] w' fun e w'' => ∃ v, e = .returned v ∧ ImgAt w'' w''.heap.size v m ∧ Below w'.heap.size w' w'') := hid (fun w' h => by
          obtain ⟨F', s', h1, h2⟩ := h
          refine (image_any h1.r).mono ?_
          rintro e w'' ⟨v', rfl, hv, hb⟩
          have hv2 := hv.at_
          rw [show imgR ⟨s'.k, s'.q⟩ = m from h2] at hv2
          exact ⟨v', rfl, hv2, hb⟩)
        have K18 : Hid (∀ w' v, ImgAt w' w'.heap.size v m → Calls Try.prog 18 #[v] w' fun e w'' => ∃ v', e = .returned v' ∧ ImgAt w'' w''.heap.size v' m ∧ Below w'.heap.size w' w'') := hid (fun w' v h => as_any h (by have := ML1.out; omega))
        have K17 : Hid (∀ w' v v', ImgAt w' w'.heap.size v m → ImgAt w' w'.heap.size v' m → Calls Try.prog 17 #[v, v'] w' fun e w'' => e = .returned (.bool true) ∧ Below w'.heap.size w' w'') := hid (fun w' v v' h h' => sameimg_any h h' (by have := ML1.out; omega) (by have := ML2.out; omega))
        clear ml1 ml2
        have hS : w6.cell? ⟨bx, 0, none⟩ = some (.slice A1 m.P.length c1) ∧ w6.cell? ⟨bx, 1, none⟩ = some (.slice A2 m.L.length c2) ∧ w6.cell? ⟨bx, 2, none⟩ = some (.int .i64 m.nx) ∧ WE w.heap.size w b bx A1 c1 A2 c2 m F6 s3 w6 := ⟨k0, k1, k2, we6⟩
        clear k0 k1 k2 we6
        go_wp2_with fail
        go_region_held3 (fun w' => w'.cell? ⟨bx, 0, none⟩ = some (.slice A1 m.P.length c1) ∧ w'.cell? ⟨bx, 1, none⟩ = some (.slice A2 m.L.length c2) ∧ w'.cell? ⟨bx, 2, none⟩ = some (.int .i64 m.nx) ∧ WE w.heap.size w b bx A1 c1 A2 c2 m F6 s3 w') (first | exact wE_step (Q.bd1 _) (by assumption) | exact wE_step (Q.bdN _ _) (by assumption) | exact wE_step (by assumption) (by assumption) | assumption) (first
          | (go_at_call 19; refine (K19.out _ ⟨F6, s3, (by assumption : _ ∧ _ ∧ _ ∧ WE w.heap.size w b bx A1 c1 A2 c2 m F6 s3 _).2.2.2, HM3.out⟩).mono ?_; rintro e wa ⟨v7, rfl, i7, f7⟩)
          | (go_at_call 18; refine (K18.out _ _ (by first | exact (by assumption : _ ∧ _ ∧ _ ∧ WE w.heap.size w b bx A1 c1 A2 c2 m F6 s3 _).2.2.2.img | assumption | exact ImgAt.up2 (by assumption) (by repeat (first | assumption | refine bel_tr ?_ (by assumption))))).mono ?_; rintro e wc ⟨v9, rfl, i9, f9⟩)
          | (go_at_call 17; refine (K17.out _ _ _ (by first | assumption | exact ImgAt.up2 (by assumption) (by repeat (first | assumption | refine bel_tr ?_ (by assumption)))) (by first | assumption | exact ImgAt.up2 (by assumption) (by repeat (first | assumption | refine bel_tr ?_ (by assumption))))).mono ?_; rintro e wd ⟨rfl, fd⟩))
        all_goals
          have hwd := (by assumption : _ ∧ _ ∧ _ ∧ WE w.heap.size w b bx A1 c1 A2 c2 m F6 s3 wd).2.2.2
          have WED := hid hwd
          clear hS
          cases bo
          · have K24 : Hid (∀ w', Below wd.heap.size wd w' → Calls Try.prog 24 #[.pointer (some ⟨b, 0, none⟩), .int .i64 n] w' fun e w'' => e = .returned (.int .i64 0) ∧ (w''.cell? ⟨bx, 0, none⟩ = some (.slice A1 m.P.length c1) ∧ w''.cell? ⟨bx, 1, none⟩ = some (.slice A2 m.L.length c2) ∧ w''.cell? ⟨bx, 2, none⟩ = some (.int .i64 m.nx) ∧ WX w.heap.size w b bx A1 c1 A2 c2 m w'') ∧ Hid (∀ w3, Below w''.heap.size w'' w3 → Calls Try.prog 16 #[.pointer (some ⟨b, 0, none⟩), .int .i64 n] w3 fun e w4 => e = .returned (.bool false) ∧ w3 = w4)) := hid (fun w' hb => by
              have h1 := WE.step hb WED.out
              obtain ⟨p1, p2, p3⟩ := BO3.out.backout
              have h2 := backout_any h1.r n
              rw [p1] at h2
              refine h2.mono ?_
              rintro e w'' ⟨rfl, ⟨F', r', g'⟩, f'⟩
              have h3 := h1.next f' (fun _ q => q) r' g'
              refine ⟨rfl, wX_of h3 (p2.trans HM3.out), hid (fun w3 hb3 => ?_)⟩
              have h4 := busy_any (WE.step hb3 h3).r n
              rw [show (((s3.backout n).2.k.busy n) || ((s3.backout n).2.q.busy n)) = false from p3] at h4
              exact h4)
            have hSX := wX_of hwd HM3.out
            clear hwd
            go_wp2_with fail
            go_region_held3 (fun w' => w'.cell? ⟨bx, 0, none⟩ = some (.slice A1 m.P.length c1) ∧ w'.cell? ⟨bx, 1, none⟩ = some (.slice A2 m.L.length c2) ∧ w'.cell? ⟨bx, 2, none⟩ = some (.int .i64 m.nx) ∧ WX w.heap.size w b bx A1 c1 A2 c2 m w') (first | exact wX_step (Q.bd1 _) (by assumption) | exact wX_step (Q.bdN _ _) (by assumption) | assumption | exact wX_step (by assumption) (by assumption)) (first
              | (go_at_call 24; refine (K24.out _ (by first | assumption | exact Q.bd1 _ | exact Q.bdN _ _)).mono ?_; rintro e we ⟨rfl, sx, KB⟩)
              | (go_at_call 19; refine (K19.out _ (by assumption : _ ∧ _ ∧ _ ∧ WX w.heap.size w b bx A1 c1 A2 c2 m _).2.2.2).mono ?_; rintro e wf ⟨vf, rfl, jf, ff⟩)
              | (go_at_call 18; refine (K18.out _ _ (by first | exact (by assumption : _ ∧ _ ∧ _ ∧ WX w.heap.size w b bx A1 c1 A2 c2 m _).2.2.2.img | assumption | exact ImgAt.up2 (by assumption) (by repeat (first | assumption | refine bel_tr ?_ (by assumption))))).mono ?_; rintro e wg ⟨vg, rfl, jg, fg⟩)
              | (go_at_call 17; refine (K17.out _ _ _ (by first | assumption | exact ImgAt.up2 (by assumption) (by repeat (first | assumption | refine bel_tr ?_ (by assumption)))) (by first | assumption | exact ImgAt.up2 (by assumption) (by repeat (first | assumption | refine bel_tr ?_ (by assumption))))).mono ?_; rintro e wh ⟨rfl, fh⟩)
              | (go_at_call 16; refine (KB.out _ (by repeat (first | assumption | refine bel_tr ?_ (by assumption)))).mono ?_; rintro e wi ⟨rfl, rfl⟩)
              | (go_at_call 8; refine (alive_any _).mono ?_; rintro e wj ⟨rfl, fj⟩))
            all_goals
              obtain ⟨_, _, _, Fz, sz, hz, _⟩ := (by assumption : _ ∧ _ ∧ _ ∧ WX w.heap.size w b bx A1 c1 A2 c2 m wj)
              have HZ := hid hz.bel
              clear hz
              go_wp2_with fail
              go_ret
              exact ⟨rfl, HZ.out⟩
          · obtain ⟨p1, p2, p3, p4⟩ := BO3.out.commit
            have hcm := commit_any hwd.r n
            rw [p1] at hcm
            obtain ⟨s4, hs4⟩ : ∃ s4, (s3.commit n).2 = s4 := ⟨_, rfl⟩
            rw [hs4] at hcm p2 p3 p4
            rw [HM3.out] at p3
            have HP2 := hid p2
            have HP3 := hid p3
            have HP4 := hid p4
            have HCM := hid hcm
            clear p1 p2 p3 p4 hs4 hcm hwd
            go_wp2_with fail
            refine HCM.out.mono ?_
            rintro e we ⟨rfl, ⟨Fe, re, ge⟩, fe⟩
            have we7 := WED.out.next fe (fun _ q => q) re ge
            have WE7 := hid we7
            clear re ge fe we7 HCM
            go_wp2_with fail
            refine (image_any WE7.out.r).mono ?_
            rintro e wf ⟨vi, rfl, mi, ff⟩
            have we8 := WE.step ff WE7.out
            obtain ⟨m2, hm2⟩ : ∃ m2, imgR s4 = m2 := ⟨_, rfl⟩
            obtain ⟨B1, d1, B2, d2, rfl, mp⟩ : ∃ A1 c1 A2 c2, vi = .agg #[.slice A1 m2.P.length c1, .slice A2 m2.L.length c2, .int .i64 m2.nx] ∧ PairAt wf wf.heap.size A1 m2.P ∧ UAt wf wf.heap.size A2 m2.L ∧ m2.P.length ≤ c1 ∧ m2.L.length ≤ c2 ∧ (∀ k off, A1 = some ⟨k, off, none⟩ → we.heap.size ≤ k) ∧ (∀ k off, A2 = some ⟨k, off, none⟩ → we.heap.size ≤ k) := by
              rw [← hm2]; exact mi
            have hin : (key, v) ∈ m2.P := by rw [← hm2]; exact HP2.out
            have hL2 : m2.L = m.L ++ [v] := by rw [← hm2]; exact HP3.out
            have we9 := we_new WE7.out.r WE7.out.fB ff WE7.out.bel WE7.out.bB mp
            have we10 := WE.step ((Below.refl _ _).alloc (Nat.le_refl _) (.cells #[.slice B1 m2.P.length d1, .slice B2 m2.L.length d2, .int .i64 m2.nx] 49)) we8
            have WE9 := hid we9
            have WE10 := hid we10
            have HIN := hid hin
            have HL2 := hid hL2
            have hpl : m2.P.length ≤ 16 := by rw [← hm2]; exact pairsK_len _ _
            have HPL := hid hpl
            clear mi mp ff hm2 we8 we9 we10 hin hL2 WED WE7 hpl HP2 HP3
            go_wp2_with fail
            generalize (wf.alloc (.cells #[.slice B1 m2.P.length d1, .slice B2 m2.L.length d2, .int .i64 m2.nx] 49)) = wg at *
            generalize wf.heap.size = by2 at *
            go_loopg [16, 17] (m2.P.length + 1) (fun g v16 v17 wr => ∃ (i : Nat) (tb : Bool), v16 = .bool tb ∧ v17 = .int .i64 i ∧ i ≤ m2.P.length ∧ g = m2.P.length + 1 - i ∧ ((key, v) ∈ m2.P.take i → tb = true) ∧ ∃ q, wr = wg.drewN q)
            case atStart => exact ⟨0, false, rfl, rfl, Nat.zero_le _, rfl, fun q => by simp at q, 0, rfl⟩
            case round =>
              obtain ⟨i, tb, rfl, rfl, hi, hm, hth, q, hq⟩ := hrel
              have HM := hid hm
              have HQ := hid hq
              have HTH := hid hth
              have hwr : Below wg.heap.size wg wr := by rw [hq]; exact Q.bdN wg q
              have W9 := WE.step hwr WE9.out
              have W10 := WE.step hwr WE10.out
              obtain ⟨j0, j1, j2⟩ := W9.cells
              have HW9 := hid W9
              have HW10 := hid W10
              clear hm hq hth hwr W9 W10 j1 j2
              by_cases h1 : i < m2.P.length
              · obtain ⟨x, hx⟩ : ∃ x, m2.P[i]? = some x := ⟨_, List.getElem?_eq_getElem h1⟩
                obtain ⟨b', off, rfl, hbb, hcc⟩ := HW9.out.p i x hx
                have k0 : wr.cell? ⟨b', off + i * 2, none⟩ = some (.int .i64 x.1) := hcc 0 _ rfl
                have k1 : wr.cell? ⟨b', off + i * 2 + 1, none⟩ = some (.int .u64 x.2) := hcc 1 _ rfl
                have HX := hid hx
                have hpl := HPL.out
                have htk : m2.P.take (i + 1) = m2.P.take i ++ [x] := by
                  rw [List.take_succ_eq_append_getElem h1]
                  congr 2
                  rw [List.getElem?_eq_getElem h1] at hx
                  exact Option.some.inj hx
                have HTK := hid htk
                clear hcc hx htk
                cases tb
                · by_cases hxe : x = (key, v)
                  · subst hxe
                    go_wp2_with fail
                    go_roundg (m2.P.length + 1 - (i + 1))
                    case measure => rw [HM.out]; omega
                    case rel => exact ⟨i + 1, true, rfl, by go_num, by omega, rfl, fun _ => rfl, _, by rw [HQ.out]⟩
                  · go_wp2_with fail
                    all_goals first
                      | exact absurd (Prod.ext (by assumption) (by assumption)) hxe
                      | skip
                    all_goals
                      go_roundg (m2.P.length + 1 - (i + 1))
                      case measure => rw [HM.out]; omega
                      case rel => exact ⟨i + 1, false, rfl, by go_num, by omega, rfl, fun q => by
                        rw [HTK.out] at q
                        rcases List.mem_append.1 q with q | q
                        · exact HTH.out q
                        · exact absurd (List.mem_singleton.1 q).symm hxe, _, by rw [HQ.out]⟩
                · go_wp2_with fail
                  go_roundg (m2.P.length + 1 - (i + 1))
                  case measure => rw [HM.out]; omega
                  case rel => exact ⟨i + 1, true, rfl, by go_num, by omega, rfl, fun _ => rfl, _, by rw [HQ.out]⟩
              · have hib : i = m2.P.length := by omega
                have htb : tb = true := HTH.out (by rw [hib, List.take_length]; exact HIN.out)
                subst htb
                go_wp2_with fail
                refine (alive_any _).mono ?_
                rintro e wj ⟨rfl, fj⟩
                have Y9 := WE.step fj HW9.out
                have Y10 := WE.step fj HW10.out
                obtain ⟨y0, y1, y2⟩ := Y9.cells
                obtain ⟨z0, z1, z2⟩ := Y10.cells
                have hll : m2.L.length = m.L.length + 1 := by rw [HL2.out, List.length_append]; rfl
                obtain ⟨b', off, hB2, hbb, hcc⟩ := Y9.u m.L.length v (by rw [HL2.out]; simp)
                subst hB2
                have k0 : wj.cell? ⟨b', off + m.L.length, none⟩ = some (.int .u64 v) := by have := hcc 0 _ rfl; simpa using this
                have hml2 := ML2.out
                rw [hll] at y1
                have KB := busy_any Y9.r n
                rw [show (s4.k.busy n || s4.q.busy n) = false from HP4.out] at KB
                have HKB := hid KB
                have HZ := hid Y9.bel
                clear Y9 Y10 hcc hll KB
                go_wp2_with fail
                refine HKB.out.mono ?_
                rintro e wk ⟨rfl, rfl⟩
                go_wp2_with fail
                go_ret
                exact ⟨rfl, HZ.out⟩
      · go_wp2_with fail
        refine (alive_any _).mono ?_
        rintro e wk ⟨rfl, fk⟩
        go_wp2_with fail
        go_ret
        exact ⟨rfl, H3.out.trans (fk.mono HB3.out)⟩
    · go_wp2_with fail
      refine (alive_any _).mono ?_
      rintro e wk ⟨rfl, fk⟩
      go_wp2_with fail
      go_ret
      exact ⟨rfl, H2.out.trans (fk.mono HB2.out)⟩
  · go_wp2_with fail
    refine (alive_any _).mono ?_
    rintro e wk ⟨rfl, fk⟩
    go_wp2_with fail
    go_ret
    exact ⟨rfl, H1.out.trans (fk.mono HB.out)⟩
end Go.Proofs.Ytdejbinmnoabeaa

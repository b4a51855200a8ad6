/- Texts of this seat, put together: RzY, RowsB, RowsC. -/
import Derived.Test.YtdejbinmnoabeaaBd20
import Derived.Test.YtdejbinmnoabeaaBd21
import Derived.Test.YtdejbinmnoabeaaBd19
import Derived.Test.YtdejbinmnoabeaaBd17
import Derived.OpenShut
import Derived.ShutString
import Derived.ChangeOld
import Derived.ChangeArms
import Derived.ProofKit
namespace Go.Proofs.Ytdejbinmnoabeaa
open Go.RowKit Go.Mine Go.Proofs.YtdejbinmnoabeaaW.PrintWords
set_option linter.unusedVariables false
set_option linter.unusedSimpArgs false
structure BN (N : Nat) (w0 w : World) : Prop where
  b : Below N w0 w
  s : N ≤ w.heap.size
theorem BN.step {N : Nat} {w0 w w' : World} (h : BN N w0 w) (hb : Below w.heap.size w w') : BN N w0 w' := ⟨h.b.trans (hb.mono h.s), Nat.le_trans h.s hb.size⟩
theorem s3_step {N bx : Nat} {w0 w w' : World} {a0 a1 a2 : Value} (hb : Below w.heap.size w w') (h : w.cell? ⟨bx, 0, none⟩ = some a0 ∧ w.cell? ⟨bx, 1, none⟩ = some a1 ∧ w.cell? ⟨bx, 2, none⟩ = some a2 ∧ BN N w0 w) : w'.cell? ⟨bx, 0, none⟩ = some a0 ∧ w'.cell? ⟨bx, 1, none⟩ = some a1 ∧ w'.cell? ⟨bx, 2, none⟩ = some a2 ∧ BN N w0 w' :=
  ⟨(hb.cell (World.block_lt_of_cell? _ _ h.1)).trans h.1, (hb.cell (World.block_lt_of_cell? _ _ h.2.1)).trans h.2.1, (hb.cell (World.block_lt_of_cell? _ _ h.2.2.1)).trans h.2.2.1, h.2.2.2.step hb⟩
theorem s3_of {N bx : Nat} {w0 w' : World} {a0 a1 a2 : Value} (h : w0.cell? ⟨bx, 0, none⟩ = some a0 ∧ w0.cell? ⟨bx, 1, none⟩ = some a1 ∧ w0.cell? ⟨bx, 2, none⟩ = some a2) (hx : bx < N) (hb : BN N w0 w') : w'.cell? ⟨bx, 0, none⟩ = some a0 ∧ w'.cell? ⟨bx, 1, none⟩ = some a1 ∧ w'.cell? ⟨bx, 2, none⟩ = some a2 ∧ BN N w0 w' :=
  ⟨(hb.b.cell (p := ⟨bx, 0, none⟩) hx).trans h.1, (hb.b.cell (p := ⟨bx, 1, none⟩) hx).trans h.2.1, (hb.b.cell (p := ⟨bx, 2, none⟩) hx).trans h.2.2, hb⟩
theorem ImgAt.bn {N : Nat} {w0 w : World} {v : Value} {m : Img} (h : ImgAt w0 N v m) (hb : BN N w0 w) : ImgAt w w.heap.size v m := (h.below hb.b).up hb.s
set_option maxRecDepth 100000 in
set_option maxHeartbeats 8000000 in
theorem redo_any (A : Option Addr) (ops : List ROp) (c : Nat) (n : Int) (w : World) (hl : OpsAt w w.heap.size A ops) (hU : ∀ o ∈ ops, o.U) :
    Calls Try.prog 7 #[.slice A ops.length c, .int .i64 n] w fun e w' => e = .returned (.bool true) ∧ Below w.heap.size w w' := by
  have HP := hid (played_any A ops c w.heap.size w (Nat.le_refl _) hl)
  have HU := hid (RM.U.play ops hU)
  clear hl hU
  go_enter Try.func7, Try.ntmps7
  go_wp2_with fail
  refine HP.out.mono ?_
  rintro e w1 ⟨b, rfl, t1, f1⟩
  have hok := t1.ok
  generalize playR ops = s at *
  obtain ⟨⟨F, hr, hF⟩, hB⟩ := t1
  have HR := hid hr
  have HF := hid hF
  have HB := hid hB
  have H1 := hid f1
  have HOK := hid hok
  clear hr hF hB f1 HP hok
  go_wp2_with fail
  refine (image_any HR.out).mono ?_
  rintro e w2 ⟨vi, rfl, mi, f2⟩
  obtain ⟨m, hm⟩ : ∃ m, imgR s = m := ⟨_, rfl⟩
  obtain ⟨A1, c1, A2, c2, rfl, mp⟩ : ∃ A1 c1 A2 c2, vi = .agg #[.slice A1 m.P.length c1, .slice A2 m.L.length c2, .int .i64 m.nx] ∧ PairAt w2 w2.heap.size A1 m.P ∧ UAt w2 w2.heap.size A2 m.L ∧ m.P.length ≤ c1 ∧ m.L.length ≤ c2 ∧ (∀ k off, A1 = some ⟨k, off, none⟩ → w1.heap.size ≤ k) ∧ (∀ k off, A2 = some ⟨k, off, none⟩ → w1.heap.size ≤ k) := by
    rw [← hm]; exact mi
  have we3 := we_new HR.out HF.out f2 H1.out HB.out mp
  have HM := hid hm
  have WE3 := hid we3
  clear mi mp f2 hm we3 H1 HR HF HB
  go_wp2_with fail
  generalize (w2.alloc (.cells #[.slice A1 m.P.length c1, .slice A2 m.L.length c2, .int .i64 m.nx] 49)) = w3 at *
  generalize w2.heap.size = bx at *
  by_cases hf : s.fit n = 0
  · obtain ⟨l, s2, s3, t1, t2, rd⟩ := redo_of HOK.out HU.out hf
    have RD := hid rd
    have HPR : Calls Try.prog 23 #[.pointer (some ⟨b, 0, none⟩), .int .i64 n] w3 fun e w' => ∃ A c, e = .returned (.tuple #[.slice A l.length c, .int .i64 0]) ∧ (∃ F', RAt F' w' b s2 ∧ K.Grew F F' w3 ∧ ∀ k off, A = some ⟨k, off, none⟩ → w3.heap.size ≤ k ∧ ¬ F' k) ∧ ChAt w' w'.heap.size A l ∧ l.length ≤ c ∧ Fr F w3 w' := by
      have h := prepare_any WE3.out.r n
      rw [rd.pre] at h
      exact h
    clear rd hf
    refine HPR.mono ?_
    rintro e w4 ⟨Ap, cp, rfl, ⟨F4, r4, g4, k4⟩, ch4, lc4, f4⟩
    have we4 := WE3.out.next f4 (fun _ q => q) r4 g4
    have CH4 := hid ch4
    have K4 := hid (fun k off e => (k4 k off e).2)
    have LC := hid lc4
    have WE4 := hid we4
    clear HPR r4 g4 k4 ch4 lc4 f4 we4 WE3
    go_wp2_with fail
    have HCM : Calls Try.prog 25 #[.pointer (some ⟨b, 0, none⟩), .int .i64 n] w4 (RPost F4 w4 b (.int .i64 0) s3) := by
      have h := commit_any WE4.out.r n
      rw [RD.out.com] at h
      exact h
    refine HCM.mono ?_
    rintro e w5 ⟨rfl, ⟨F5, r5, g5⟩, f5⟩
    have we5 := WE4.out.next f5 (fun _ q => q) r5 g5
    have ch5 := row_fr CH4.out f5 K4.out
    have CH5 := hid ch5
    have WE5 := hid we5
    clear HCM r5 g5 f5 we5 ch5 CH4 K4 WE4
    go_wp2_with fail
    refine (image_any WE5.out.r).mono ?_
    rintro e w6 ⟨vi, rfl, mi, f6⟩
    have we6 := WE5.out.step f6
    obtain ⟨m2, hm2⟩ : ∃ m2, imgR s3 = m2 := ⟨_, rfl⟩
    obtain ⟨B1, d1, B2, d2, rfl, mp⟩ : ∃ A1 c1 A2 c2, vi = .agg #[.slice A1 m2.P.length c1, .slice A2 m2.L.length c2, .int .i64 m2.nx] ∧ PairAt w6 w6.heap.size A1 m2.P ∧ UAt w6 w6.heap.size A2 m2.L ∧ m2.P.length ≤ c1 ∧ m2.L.length ≤ c2 ∧ (∀ k off, A1 = some ⟨k, off, none⟩ → w5.heap.size ≤ k) ∧ (∀ k off, A2 = some ⟨k, off, none⟩ → w5.heap.size ≤ k) := by
      rw [← hm2]; exact mi
    have we7 := we_new WE5.out.r WE5.out.fB f6 WE5.out.bel WE5.out.bB mp
    have ha7 : Below w6.heap.size w6 (w6.alloc (.cells #[.slice B1 m2.P.length d1, .slice B2 m2.L.length d2, .int .i64 m2.nx] 49)) := (Below.refl _ _).alloc (Nat.le_refl _) _
    have we8 := we6.step ha7
    have hlt : w6.heap.size < (w6.alloc (.cells #[.slice B1 m2.P.length d1, .slice B2 m2.L.length d2, .int .i64 m2.nx] 49)).heap.size := by simp
    have ch7 := Q.RowAt.up (Q.RowAt.below CH5.out (f6.trans (ha7.mono f6.size))) (Nat.le_trans f6.size ha7.size)
    have HM2 := hid hm2
    have HLT := hid hlt
    have CH7 := hid ch7
    have WE7 := hid we7
    have WE8 := hid we8
    clear mi mp f6 hm2 we6 we7 we8 ha7 hlt ch7 CH5 WE5
    go_wp2_with fail
    generalize (w6.alloc (.cells #[.slice B1 m2.P.length d1, .slice B2 m2.L.length d2, .int .i64 m2.nx] 49)) = w7 at *
    generalize w6.heap.size = by2 at *
    have hz := WE8.out.cells
    have hy := WE7.out.cells
    have HZ := hid hz
    have HY := hid hy
    have HXL := hid (Q.blk_lt WE8.out.box)
    have HIX := hid WE8.out.img
    have HIY := hid WE7.out.img
    have HBE := hid (And.intro WE7.out.bel WE7.out.bB)
    have hml : m.P.length ≤ 16 ∧ m.L.length ≤ 16 := by rw [← HM.out]; exact imgR_len s HOK.out
    have hml2 : m2.P.length ≤ 16 ∧ m2.L.length ≤ 16 := by rw [← HM2.out]; exact imgR_len s3 (RAt.ok WE7.out.r)
    have HML := hid hml
    have HML2 := hid hml2
    have K9 := P.write_list CH7.out RD.out.prl LC.out
    have HLL := hid RD.out.prl.len
    clear hz hy hml hml2 WE7 WE8 CH7 LC
    refine K9.mono ?_
    rintro e w8 ⟨S, q, nb, rfl, f8, K11⟩
    have K11 := hid K11
    have F8 := hid f8
    clear K9 f8
    go_wp2_with fail
    refine (K11.out _ (Below.refl _ _)).mono ?_
    rintro e w9 ⟨S2, q2, rfl, ch9, lq9, f9⟩
    have b9 : BN w7.heap.size w7 w9 := ⟨bel_tr F8.out f9, Nat.le_trans F8.out.size f9.size⟩
    obtain ⟨z0, z1, z2, _⟩ := s3_of HZ.out HXL.out b9
    have B9 := hid b9
    have CH9 := hid ch9
    have LQ9 := hid lq9
    clear K11 F8 f9 ch9 lq9 b9
    go_wp2_with fail
    have K26 := resload_any HOK.out (by rw [HM.out]; exact HIX.out.bn B9.out)
    refine K26.mono ?_
    rintro e w10 ⟨t, rfl, ⟨F10, r10, hF10⟩, f10⟩
    have K27 : Calls Try.prog 27 #[.pointer (some ⟨t, 0, none⟩), .int .i64 n, .slice S2 l.length q2] w10 (RPost F10 w10 t (.int .i64 0) t1) := by
      have h := restore_any (s := loaded s) r10 n S2 l q2 (P.ch_below CH9.out f10) (fun hne k off e hk => by
        have h1 := RowAt.block CH9.out hne e
        have h2 := hF10 k hk
        omega) (by have := HLL.out; omega) LQ9.out
      rw [RD.out.rest] at h
      exact h
    have b10 := B9.out.step f10
    have HF10 := hid hF10
    have HS9 := hid (show w7.heap.size ≤ w9.heap.size from B9.out.s)
    have B10 := hid b10
    clear K26 r10 hF10 f10 z0 z1 z2 CH9 LQ9 B9 b10
    go_wp2_with fail
    refine K27.mono ?_
    rintro e w11 ⟨rfl, ⟨F11, r11, g11⟩, f11⟩
    have hF11 : ∀ i, F11 i → w7.heap.size ≤ i := fun i hi => (g11 i hi).elim (fun q => Nat.le_trans HS9.out (HF10.out i q)) (fun q => Nat.le_trans B10.out.s q)
    have b11 : BN w7.heap.size w7 w11 := ⟨B10.out.b.trans (f11.below B10.out.s (fun k hk q => by have := HF10.out k q; have := HS9.out; omega)), Nat.le_trans B10.out.s f11.size⟩
    have K19 := hid (show ∀ w', Below w11.heap.size w11 w' → Calls Try.prog 19 #[.pointer (some ⟨t, 0, none⟩)] w' fun e w'' => ∃ v, e = .returned v ∧ ImgAt w'' w''.heap.size v m ∧ Below w'.heap.size w' w'' from fun w' hb => (image_any (RX.below r11 hb)).mono (by
      rintro e w'' ⟨v', rfl, hv, hb⟩
      have hv2 := hv.at_
      rw [show imgR ⟨t1.k, t1.q⟩ = m from RD.out.i1.trans HM.out] at hv2
      exact ⟨v', rfl, hv2, hb⟩))
    have K25 := hid (show ∀ w', Below w11.heap.size w11 w' → BN w7.heap.size w7 w' → Calls Try.prog 25 #[.pointer (some ⟨t, 0, none⟩), .int .i64 n] w' fun e w'' => e = .returned (.int .i64 0) ∧ (w''.cell? ⟨bx, 0, none⟩ = some (.slice A1 m.P.length c1) ∧ w''.cell? ⟨bx, 1, none⟩ = some (.slice A2 m.L.length c2) ∧ w''.cell? ⟨bx, 2, none⟩ = some (.int .i64 m.nx) ∧ BN w7.heap.size w7 w'') ∧ Hid (∀ w3, Below w''.heap.size w'' w3 → Calls Try.prog 19 #[.pointer (some ⟨t, 0, none⟩)] w3 fun e w4 => ∃ v, e = .returned v ∧ ImgAt w4 w4.heap.size v m2 ∧ Below w3.heap.size w3 w4) from fun w' hb hbn => by
      have h := commit_any (RX.below r11 hb : RAt F11 w' t t1) n
      rw [RD.out.tcom] at h
      refine h.mono ?_
      rintro e w'' ⟨rfl, ⟨F', r', g'⟩, f'⟩
      have hbn' : BN w7.heap.size w7 w'' := ⟨hbn.b.trans (f'.below hbn.s (fun k hk q => by have := hF11 k q; omega)), Nat.le_trans hbn.s f'.size⟩
      refine ⟨rfl, s3_of HZ.out HXL.out hbn', hid (fun w3 hb3 => (image_any (RX.below r' hb3)).mono ?_)⟩
      rintro e w4 ⟨v', rfl, hv, hb⟩
      have hv2 := hv.at_
      rw [show imgR ⟨t2.k, t2.q⟩ = m2 from RD.out.i2.trans HM2.out] at hv2
      exact ⟨v', rfl, hv2, hb⟩)
    have K18 := hid (show ∀ w' v, ImgAt w' w'.heap.size v m → Calls Try.prog 18 #[v] w' fun e w'' => ∃ v', e = .returned v' ∧ ImgAt w'' w''.heap.size v' m ∧ Below w'.heap.size w' w'' from fun w' v h => as_any h (by have := HML.out.1; omega))
    have K17 := hid (show ∀ w' v v', ImgAt w' w'.heap.size v m → ImgAt w' w'.heap.size v' m → Calls Try.prog 17 #[v, v'] w' fun e w'' => e = .returned (.bool true) ∧ Below w'.heap.size w' w'' from fun w' v v' h h' => sameimg_any h h' (by have := HML.out.1; omega) (by have := HML.out.2; omega))
    have J18 := hid (show ∀ w' v, ImgAt w' w'.heap.size v m2 → Calls Try.prog 18 #[v] w' fun e w'' => ∃ v', e = .returned v' ∧ ImgAt w'' w''.heap.size v' m2 ∧ Below w'.heap.size w' w'' from fun w' v h => as_any h (by have := HML2.out.1; omega))
    have J17 := hid (show ∀ w' v v', ImgAt w' w'.heap.size v m2 → ImgAt w' w'.heap.size v' m2 → Calls Try.prog 17 #[v, v'] w' fun e w'' => e = .returned (.bool true) ∧ Below w'.heap.size w' w'' from fun w' v v' h h' => sameimg_any h h' (by have := HML2.out.1; omega) (by have := HML2.out.2; omega))
    have hS := s3_of HZ.out HXL.out b11
    generalize w7.heap.size = N at *
    clear K27 r11 g11 f11 hF11 b11 B10 HF10 HS9 RD HM HM2
    go_wp2_with fail
    go_region_held3 (fun w' => w'.cell? ⟨bx, 0, none⟩ = some (.slice A1 m.P.length c1) ∧ w'.cell? ⟨bx, 1, none⟩ = some (.slice A2 m.L.length c2) ∧ w'.cell? ⟨bx, 2, none⟩ = some (.int .i64 m.nx) ∧ BN N w7 w') (first | exact s3_step (Q.bd1 _) (by assumption) | exact s3_step (Q.bdN _ _) (by assumption) | assumption | exact s3_step (by assumption) (by assumption)) (first
      | (go_at_call 19; refine (K19.out _ (by repeat (first | assumption | exact Q.bd1 _ | exact Q.bdN _ _ | refine bel_tr ?_ (by assumption)))).mono ?_; rintro e wa ⟨v7, rfl, i7, f7⟩)
      | (go_at_call 18; refine (K18.out _ _ (by first | exact HIX.out.bn (by assumption : _ ∧ _ ∧ _ ∧ BN N w7 _).2.2.2 | assumption | exact ImgAt.up2 (by assumption) (by repeat (first | assumption | refine bel_tr ?_ (by assumption))))).mono ?_; rintro e wc ⟨v9, rfl, i9, f9⟩)
      | (go_at_call 17; refine (K17.out _ _ _ (by first | assumption | exact ImgAt.up2 (by assumption) (by repeat (first | assumption | refine bel_tr ?_ (by assumption)))) (by first | assumption | exact ImgAt.up2 (by assumption) (by repeat (first | assumption | refine bel_tr ?_ (by assumption))))).mono ?_; rintro e wd ⟨rfl, fd⟩)
      | (go_at_call 25; refine (K25.out _ (by repeat (first | assumption | exact Q.bd1 _ | exact Q.bdN _ _ | refine bel_tr ?_ (by assumption))) (by assumption : _ ∧ _ ∧ _ ∧ BN N w7 _).2.2.2).mono ?_; rintro e we ⟨rfl, sx, KB⟩))
    all_goals
      have hbn := (by assumption : _ ∧ _ ∧ _ ∧ BN N w7 we).2.2.2
      have hS2 := s3_of HY.out HLT.out hbn
      clear hS hbn
      go_wp2_with fail
      go_region_held3 (fun w' => w'.cell? ⟨by2, 0, none⟩ = some (.slice B1 m2.P.length d1) ∧ w'.cell? ⟨by2, 1, none⟩ = some (.slice B2 m2.L.length d2) ∧ w'.cell? ⟨by2, 2, none⟩ = some (.int .i64 m2.nx) ∧ BN N w7 w') (first | exact s3_step (Q.bd1 _) (by assumption) | exact s3_step (Q.bdN _ _) (by assumption) | assumption | exact s3_step (by assumption) (by assumption)) (first
        | (go_at_call 8; refine (alive_any _).mono ?_; rintro e xj ⟨rfl, gj⟩)
        | (go_at_call 19; refine (KB.out _ (by repeat (first | assumption | exact Q.bd1 _ | exact Q.bdN _ _ | refine bel_tr ?_ (by assumption)))).mono ?_; rintro e xa ⟨x7, rfl, j7, g7⟩)
        | (go_at_call 18; refine (J18.out _ _ (by first | exact HIY.out.bn (by assumption : _ ∧ _ ∧ _ ∧ BN N w7 _).2.2.2 | assumption | exact ImgAt.up2 (by assumption) (by repeat (first | assumption | refine bel_tr ?_ (by assumption))))).mono ?_; rintro e xc ⟨x9, rfl, j9, g9⟩)
        | (go_at_call 17; refine (J17.out _ _ _ (by first | assumption | exact ImgAt.up2 (by assumption) (by repeat (first | assumption | refine bel_tr ?_ (by assumption)))) (by first | assumption | exact ImgAt.up2 (by assumption) (by repeat (first | assumption | refine bel_tr ?_ (by assumption))))).mono ?_; rintro e xd ⟨rfl, gd⟩))
      all_goals
        have HZ := (by assumption : _ ∧ _ ∧ _ ∧ BN N w7 xd).2.2.2.b
        go_wp2_with fail
        go_ret
        exact ⟨rfl, HBE.out.1.trans (HZ.mono HBE.out.2)⟩
  · obtain ⟨hp, h1 | h1⟩ := redo_bad hf
    all_goals
      rw [h1] at hp
      have HPR := prepare_any WE3.out.r n
      rw [hp] at HPR
      refine HPR.mono ?_
      rintro e w4 ⟨Ap, cp, rfl, ⟨F4, r4, g4, _⟩, _, _, f4⟩
      have we4 := WE3.out.next f4 (fun _ q => q) r4 g4
      have HBL := hid we4.bel
      have HBB := hid we4.bB
      clear HPR r4 g4 f4 we4 WE3 hp h1 hf
      go_wp2_with fail
      refine (alive_any _).mono ?_
      rintro e w5 ⟨rfl, f5⟩
      go_wp2_with fail
      go_ret
      exact ⟨rfl, HBL.out.trans (f5.mono HBB.out)⟩
end Go.Proofs.Ytdejbinmnoabeaa
namespace Go.Proofs.Ytdejbinmnoabeaa
open Go.RowKit Go.Mine Go.Deep
set_option linter.unusedVariables false
set_option linter.unusedSimpArgs false
section
variable {H : Type} {enc : TypeId × Value → H} {w : World} {base : Nat} {spare : Nat → Bool} {held : Bool}
theorem chAt_of {B : Nat} {A : Option Addr} {l : List Ch} (h : RowR (fun _ y cs => cs = Q.encCh y) w B 3 A l) : ChAt w B A l := by
  intro i x hx
  obtain ⟨b, off, cs, e, hlt, rfl, _, hc⟩ := h i x hx
  exact ⟨b, off, e, hlt, hc⟩
end
section
open Go.Deep Go.WideShapes
variable {H : Type} {enc : TypeId × Value → H} {W : World} {base : Nat} {spare : Nat → Bool} {held : Bool}
end
end Go.Proofs.Ytdejbinmnoabeaa
namespace Go.Proofs.Ytdejbinmnoabeaa
open Go.RowKit Go.Mine Go.Deep
set_option linter.unusedVariables false
set_option linter.unusedSimpArgs false
section
variable {H : Type} {enc : TypeId × Value → H} {w : World} {base : Nat} {spare : Nat → Bool} {held : Bool}
set_option maxRecDepth 100000 in
theorem ch_openU (n : Nat) (cs : List Value) (z : DataW H × List MemPlace) (h : DataW.trod enc Try.prog w base spare held n 62 cs = some z) : ∃ y : Ch, cs = Q.encCh y ∧ V64 y.val := by
  obtain ⟨xs, m, _, _, hl, hlen, hx⟩ := DataW.trod_struct Try.underlying62 h
  have hc : Try.prog.cellsOf 62 = 3 := by kernel_rfl
  have c3 : Try.prog.cellsOf 3 = 1 := by kernel_rfl
  have c26 : Try.prog.cellsOf 32 = 1 := by kernel_rfl
  rw [hc] at hl
  obtain ⟨v0, v1, v2, rfl⟩ : ∃ a b c, cs = [a, b, c] := by
    match cs, hl with
    | [a, b, c], _ => exact ⟨a, b, c, rfl⟩
  obtain ⟨y0, y1, y2, rfl⟩ : ∃ a b c, xs = [a, b, c] := by
    match xs, hlen with
    | [a, b, c], _ => exact ⟨a, b, c, rfl⟩
  have h0 : DataW.trod enc Try.prog w base spare held m 3 (([v0, v1, v2].drop 0).take (Try.prog.cellsOf 3)) = some y0 := hx 0 _ rfl
  have h1 : DataW.trod enc Try.prog w base spare held m 3 (([v0, v1, v2].drop 1).take (Try.prog.cellsOf 3)) = some y1 := hx 1 _ rfl
  have h2 : DataW.trod enc Try.prog w base spare held m 32 (([v0, v1, v2].drop 2).take (Try.prog.cellsOf 32)) = some y2 := hx 2 _ rfl
  simp only [c3, c26, List.drop_zero, List.take_succ_cons, List.take_zero, List.drop_succ_cons] at h0 h1 h2
  obtain ⟨x0, e0, _, _⟩ := DataW.trod_int Try.underlying3 h0
  obtain ⟨x1, e1, _, _⟩ := DataW.trod_int Try.underlying3 h1
  obtain ⟨x2, e2, _, hw2⟩ := DataW.trod_int Try.underlying32 h2
  simp only [List.cons.injEq, and_true] at e0 e1 e2
  subst e0 e1 e2
  have b2 := bounds_u64 hw2
  exact ⟨⟨x0, x1, x2⟩, rfl, b2.1, by show x2 < _; omega⟩
set_option maxRecDepth 100000 in
theorem op_openU (n : Nat) (cs : List Value) (z : DataW H × List MemPlace) (h : DataW.trod enc Try.prog w base spare held n 34 cs = some z) : ∃ y : ROp, cs = encOp y ∧ ChAt w w.heap.size y.la y.l ∧ y.l.length ≤ y.lc ∧ y.U := by
  obtain ⟨xs, m, _, _, hl, hlen, hx⟩ := DataW.trod_struct Try.underlying34 h
  have hc : Try.prog.cellsOf 34 = 5 := by kernel_rfl
  have c3 : Try.prog.cellsOf 3 = 1 := by kernel_rfl
  have c26 : Try.prog.cellsOf 32 = 1 := by kernel_rfl
  have c32 : Try.prog.cellsOf 22 = 1 := by kernel_rfl
  rw [hc] at hl
  obtain ⟨v0, v1, v2, v3, v4, rfl⟩ : ∃ a b c d e, cs = [a, b, c, d, e] := by
    match cs, hl with
    | [a, b, c, d, e], _ => exact ⟨a, b, c, d, e, rfl⟩
  obtain ⟨y0, y1, y2, y3, y4, rfl⟩ : ∃ a b c d e, xs = [a, b, c, d, e] := by
    match xs, hlen with
    | [a, b, c, d, e], _ => exact ⟨a, b, c, d, e, rfl⟩
  have h0 : DataW.trod enc Try.prog w base spare held m 3 (([v0, v1, v2, v3, v4].drop 0).take (Try.prog.cellsOf 3)) = some y0 := hx 0 _ rfl
  have h1 : DataW.trod enc Try.prog w base spare held m 3 (([v0, v1, v2, v3, v4].drop 1).take (Try.prog.cellsOf 3)) = some y1 := hx 1 _ rfl
  have h2 : DataW.trod enc Try.prog w base spare held m 3 (([v0, v1, v2, v3, v4].drop 2).take (Try.prog.cellsOf 3)) = some y2 := hx 2 _ rfl
  have h3 : DataW.trod enc Try.prog w base spare held m 32 (([v0, v1, v2, v3, v4].drop 3).take (Try.prog.cellsOf 32)) = some y3 := hx 3 _ rfl
  have h4 : DataW.trod enc Try.prog w base spare held m 22 (([v0, v1, v2, v3, v4].drop 4).take (Try.prog.cellsOf 22)) = some y4 := hx 4 _ rfl
  simp only [c3, c26, c32, List.drop_zero, List.take_succ_cons, List.take_zero, List.drop_succ_cons] at h0 h1 h2 h3 h4
  obtain ⟨x0, e0, _, _⟩ := DataW.trod_int Try.underlying3 h0
  obtain ⟨x1, e1, _, _⟩ := DataW.trod_int Try.underlying3 h1
  obtain ⟨x2, e2, _, _⟩ := DataW.trod_int Try.underlying3 h2
  obtain ⟨x3, e3, _, hw3⟩ := DataW.trod_int Try.underlying32 h3
  simp only [List.cons.injEq, and_true] at e0 e1 e2 e3
  subst e0 e1 e2 e3
  obtain ⟨A, len, cap, rfl⟩ : ∃ A len cap, v4 = .slice A len cap := by
    rcases open_slice Try.underlying22 h4 with ⟨q, _⟩ | ⟨a, len', cap', m', n', D, Pl, hcs, _⟩
    · simp only [List.cons.injEq, and_true] at q
      exact ⟨_, _, _, q⟩
    · simp only [List.cons.injEq, and_true] at hcs
      exact ⟨_, _, _, hcs⟩
  obtain ⟨ys, hyl, hrow, hcap⟩ := open_row (size := 3) (fun _ (y : Ch) cs => cs = Q.encCh y ∧ V64 y.val) Try.underlying22 (by kernel_rfl) (by decide) (fun n cs z hz => ch_openU n cs z hz) h4
  subst hyl
  have b3 := bounds_u64 hw3
  refine ⟨⟨x0, x1, x2, x3, A, ys, cap⟩, rfl, chAt_of (fun i y hy => ?_), hcap, ⟨b3.1, by show x3 < _; omega⟩, fun x hx => ?_⟩
  · obtain ⟨b, off, cs, e, hlt, ⟨hc, _⟩, hs, hcell⟩ := hrow i y hy
    exact ⟨b, off, cs, e, hlt, hc, hs, hcell⟩
  · obtain ⟨i, hi, rfl⟩ := List.mem_iff_getElem.1 hx
    obtain ⟨b, off, cs, e, hlt, ⟨_, hv⟩, _⟩ := hrow i _ (List.getElem?_eq_getElem hi)
    exact hv
end
theorem opsAt_ofU {w : World} {A : Option Addr} {l : List ROp} (h : RowR (fun w y cs => cs = encOp y ∧ ChAt w w.heap.size y.la y.l ∧ y.l.length ≤ y.lc ∧ y.U) w w.heap.size 5 A l) : OpsAt w w.heap.size A l ∧ ∀ o ∈ l, o.U := by
  constructor
  · intro i x hx
    obtain ⟨b, off, cs, e, hlt, ⟨rfl, h1, h2, _⟩, _, hc⟩ := h i x hx
    exact ⟨b, off, e, hlt, hc, h1, h2⟩
  · intro x hx
    obtain ⟨i, hi, rfl⟩ := List.mem_iff_getElem.1 hx
    obtain ⟨b, off, cs, e, hlt, ⟨_, _, _, hu⟩, _⟩ := h i _ (List.getElem?_eq_getElem hi)
    exact hu
end Go.Proofs.Ytdejbinmnoabeaa

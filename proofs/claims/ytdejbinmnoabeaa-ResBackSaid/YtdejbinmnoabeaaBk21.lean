/- Texts of this seat, put together: RzX, RowsB. -/
import Derived.Test.YtdejbinmnoabeaaBk17
import Derived.Test.YtdejbinmnoabeaaBk19
import Derived.Test.YtdejbinmnoabeaaBk20
import Derived.OpenShut
import Derived.ShutString
import Derived.ChangeOld
import Derived.ChangeArms
namespace Go.Proofs.Ytdejbinmnoabeaa.P
open Go.RowKit Go.Mine Go.Proofs.YtdejbinmnoabeaaW.PrintWords Go.Proofs.YtdejbinmnoabeaaW.PrintLast Go.Proofs.YtdejbinmnoabeaaW.PrintMore
set_option linter.unusedVariables false
set_option linter.unusedSimpArgs false
theorem chs_ChAt {w : World} {B : Nat} {A : Option Addr} {l : List S62} (h : Go.Mine.RowR (fun _ y cs => cs = encS y ∧ U62 y) w B 3 A l) : ChAt w B A (l.map toCh) := by
  intro i x hx
  rw [List.getElem?_map] at hx
  obtain ⟨s, hs, rfl⟩ := Option.map_eq_some_iff.1 hx
  obtain ⟨b, off, cs, e, hlt, ⟨hc, _⟩, _, hcell⟩ := h i s hs
  subst hc
  exact ⟨b, off, e, hlt, hcell⟩
theorem write_ok {l : List S62} {x : List Int} (h : writeC l = (x, 0)) : l.length ≤ 48 ∧ l.all okC = true ∧ x = l.flatMap encC := by
  unfold writeC at h
  split at h
  · cases h
  · rename_i q
    split at h
    · rename_i q2
      cases h
      exact ⟨by omega, q2, rfl⟩
    · cases h
set_option maxRecDepth 100000 in
set_option maxHeartbeats 8000000 in
theorem back_any (A0 : Option Addr) (l : List S62) (c0 : Nat) (A1 : Option Addr) (ops : List ROp) (c1 : Nat) (w : World) (h0 : Go.Mine.RowR (fun _ y cs => cs = encS y ∧ U62 y) w w.heap.size 3 A0 l) (h1 : OpsAt w w.heap.size A1 ops) (hc0 : l.length ≤ c0) :
    Calls Try.prog 6 #[.slice A0 l.length c0, .slice A1 ops.length c1] w fun e w' => e = .returned (.bool true) ∧ Below w.heap.size w w' := by
  have H0 := Lib.hid h0
  have H1 := Lib.hid h1
  have HC0 := Lib.hid hc0
  clear h0 h1 hc0
  go_enter Try.func6, Try.ntmps6
  by_cases k200 : 200 < l.length
  · have d1 : decide ((200 : Int) < l.length) = true := decide_eq_true (by omega)
    clear k200
    go_wp2_with fail
    refine (alive_any _).mono ?_
    rintro e w2 ⟨rfl, f2⟩
    go_wp2_with fail
    go_ret
    exact ⟨rfl, f2⟩
  · have d1 : decide ((200 : Int) < l.length) = false := decide_eq_false (by omega)
    obtain ⟨C0, U0⟩ := chs_of H0.out (by omega)
    obtain ⟨k9, e9⟩ := write_f l U0
    obtain ⟨⟨x, xe⟩, hx⟩ : ∃ p, writeC l = p := ⟨_, rfl⟩
    rw [hx] at e9
    have K9 := Lib.hid (fun w1 (hb : Below w.heap.size w w1) => res_Write.calls k9 A0 c0 l x xe w1 (Kd.C_below C0 hb) HC0.out e9)
    have HX := Lib.hid hx
    have HU := Lib.hid U0
    clear C0 e9 k200 hx U0
    go_wp2_with fail
    refine (K9.out _ (Below.refl _ _)).mono ?_
    rintro e w1 ⟨v1, rfl, r1, f1⟩
    obtain ⟨S1, q1, rfl⟩ := Kd.R_slice r1
    have R1 := Lib.hid (Kd.R_reads' r1).2
    have F1 := Lib.hid f1
    clear r1 f1
    by_cases hxe : xe = 0
    · subst hxe
      obtain ⟨hl48, hok, hxl⟩ := write_ok HX.out
      have hbt := (enc_bytes l HU.out hok).1
      rw [← hxl] at hbt
      have hrb := read_back l hl48 HU.out hok
      rw [← hxl] at hrb
      have K11 := read_any S1 q1 x w1 R1.out.2 R1.out.1 hbt
      rw [hrb] at K11
      have HK11 := Lib.hid K11
      have HL48 := Lib.hid hl48
      clear hbt hrb K11 hxl hok hl48
      cases hlow : l.all lowK
      · rw [hlow] at HK11
        go_wp2_with fail
        refine HK11.out.mono ?_
        rintro e w2 ⟨v2, rfl, r2, f2⟩
        obtain ⟨S2, q2, rfl⟩ := Kd.R_slice r2
        go_wp2_with fail
        have F2 := Lib.hid (bel_tr F1.out f2)
        have HLO := Lib.hid hlow
        clear r2 f2 hlow HK11 R1 F1
        go_loopg [9] (l.length + 1) (fun g v9 wr => ∃ i : Nat, v9 = .int .i64 i ∧ i ≤ l.length ∧ g = l.length + 1 - i ∧ (l.take i).all lowK = true ∧ Below w.heap.size w wr)
        case atStart => exact ⟨0, rfl, Nat.zero_le _, rfl, rfl, F2.out⟩
        case round =>
          obtain ⟨i, rfl, hi, hg, hta, hbr⟩ := hrel
          have HG := Lib.hid hg
          have HTA := Lib.hid hta
          have HBR := Lib.hid hbr
          clear hg hta hbr
          have hl48 := HL48.out
          by_cases h1 : i < l.length
          · obtain ⟨cc, hcc⟩ : ∃ cc, l[i]? = some cc := ⟨_, List.getElem?_eq_getElem h1⟩
            obtain ⟨pb, po, cs, rfl, hlt, ⟨hcs, _⟩, _, hcell⟩ := H0.out i cc hcc
            have k1 : wr.cell? ⟨pb, po + i * 3 + 1, none⟩ = some (.int .i64 cc.f1) := (HBR.out.cell (p := ⟨pb, po + i * 3 + 1, none⟩) hlt).trans (hcell 1 _ (by rw [hcs]; rfl))
            have htk : l.take (i + 1) = l.take i ++ [cc] := by
              rw [List.take_succ_eq_append_getElem h1]
              congr 2
              rw [List.getElem?_eq_getElem h1] at hcc
              exact Option.some.inj hcc
            have HTK := Lib.hid htk
            clear hcell hcc htk hcs
            by_cases hk : 4611686018427387904 < cc.f1
            · have dk : decide (4611686018427387904 < cc.f1) = true := decide_eq_true hk
              clear hk
              go_wp2_with fail
              refine (alive_any _).mono ?_
              rintro e w3 ⟨rfl, f3⟩
              go_wp2_with fail
              go_ret
              exact ⟨rfl, bel_tr HBR.out f3⟩
            · have dk : decide (4611686018427387904 < cc.f1) = false := decide_eq_false hk
              have HL := Lib.hid (show lowK cc = true from decide_eq_true (by omega))
              clear hk
              go_wp2_with fail
              go_roundg (l.length + 1 - (i + 1))
              case measure => rw [HG.out]; omega
              case rel => exact ⟨i + 1, by go_num, by omega, rfl, by rw [HTK.out, List.all_append, HTA.out, List.all_cons, HL.out]; rfl, HBR.out⟩
          · exfalso
            have h2 := HTA.out
            rw [List.take_of_length_le (by omega), HLO.out] at h2
            cases h2
      · rw [hlow] at HK11
        go_wp2_with fail
        refine HK11.out.mono ?_
        rintro e w2 ⟨v2, rfl, r2, f2⟩
        obtain ⟨S2, q2, rfl, h2⟩ := ch_of_R r2
        have F2 := Lib.hid (bel_tr F1.out f2)
        have HLO := Lib.hid hlow
        have HC2 := Lib.hid h2
        rw [List.length_map]
        clear r2 f2 hlow HK11 R1 F1 h2
        go_wp2_with fail
        go_loopg [9] (l.length + 1) (fun g v9 wr => ∃ i : Nat, v9 = .int .i64 i ∧ i ≤ l.length ∧ g = l.length + 1 - i ∧ wr = w2)
        case atStart => exact ⟨0, rfl, Nat.zero_le _, rfl, rfl⟩
        case round =>
          obtain ⟨i, rfl, hi, hg, rfl⟩ := hrel
          have HG := Lib.hid hg
          clear hg
          have hl48 := HL48.out
          by_cases h1 : i < l.length
          · obtain ⟨cc, hcc⟩ : ∃ cc, l[i]? = some cc := ⟨_, List.getElem?_eq_getElem h1⟩
            obtain ⟨pb, po, cs, rfl, hlt, ⟨hcs, _⟩, _, hcell⟩ := H0.out i cc hcc
            have k1 : wr.cell? ⟨pb, po + i * 3 + 1, none⟩ = some (.int .i64 cc.f1) := (F2.out.cell (p := ⟨pb, po + i * 3 + 1, none⟩) hlt).trans (hcell 1 _ (by rw [hcs]; rfl))
            have hlk : lowK cc = true := List.all_eq_true.1 HLO.out cc (List.mem_of_getElem? hcc)
            have dk : decide (4611686018427387904 < cc.f1) = false := by
              unfold lowK at hlk
              have := of_decide_eq_true hlk
              exact decide_eq_false (by omega)
            clear hcell hcc hcs hlk
            go_wp2_with fail
            go_roundg (l.length + 1 - (i + 1))
            case measure => rw [HG.out]; omega
            case rel => exact ⟨i + 1, by go_num, by omega, rfl, rfl⟩
          · have K13 := Q.samech_any A0 S2 (l.map toCh) c0 q2 wr.heap.size wr (Q.RowAt.up (Q.RowAt.below (chs_ChAt H0.out) F2.out) F2.out.size) HC2.out (by rw [List.length_map]; omega)
            rw [List.length_map] at K13
            have HK13 := Lib.hid K13
            clear K13
            go_wp2_with fail
            refine HK13.out.mono ?_
            rintro e w3 ⟨rfl, q3, rfl⟩
            have F3 := Lib.hid (bel_tr F2.out (bN _ q3))
            go_wp2_with fail
            refine (played_any A1 ops c1 w.heap.size _ F3.out.size (H1.out.below F3.out)).mono ?_
            rintro e w4 ⟨b, rfl, t4, f4⟩
            have hok := t4.ok
            generalize playR ops = s at *
            obtain ⟨⟨F, hr, hF⟩, hB⟩ := t4
            have hb4 := bel_tr F3.out f4
            have hF4 : ∀ i, F i → w.heap.size ≤ i := fun i hi => Nat.le_trans F3.out.size (hF i hi)
            have HR := Lib.hid hr
            have HB4 := Lib.hid hb4
            have HF4 := Lib.hid hF4
            have HOK := Lib.hid hok
            clear hr hF hB f4 hb4 hF4 hok
            go_wp2_with fail
            refine (image_any HR.out).mono ?_
            rintro e w5 ⟨vi, rfl, mi, f5⟩
            obtain ⟨m, hm⟩ : ∃ m, imgR s = m := ⟨_, rfl⟩
            obtain ⟨B1, e1, B2, e2, rfl, mp⟩ : ∃ A1 c1 A2 c2, vi = .agg #[.slice A1 m.P.length c1, .slice A2 m.L.length c2, .int .i64 m.nx] ∧ PairAt w5 w5.heap.size A1 m.P ∧ UAt w5 w5.heap.size A2 m.L ∧ m.P.length ≤ c1 ∧ m.L.length ≤ c2 ∧ (∀ k off, A1 = some ⟨k, off, none⟩ → w4.heap.size ≤ k) ∧ (∀ k off, A2 = some ⟨k, off, none⟩ → w4.heap.size ≤ k) := by
              rw [← hm]; exact mi
            have we6 := we_new HR.out HF4.out f5 HB4.out HB4.out.size mp
            have hml := imgR_len s HOK.out
            rw [hm] at hml
            have HM := Lib.hid hm
            have HML := Lib.hid hml
            obtain ⟨z0, z1, z2⟩ := we6.cells
            have WE6 := Lib.hid we6
            clear mi mp f5 hm we6 hml HR HB4 HF4
            go_wp2_with fail
            generalize (w5.alloc (.cells #[.slice B1 m.P.length e1, .slice B2 m.L.length e2, .int .i64 m.nx] 49)) = w6 at *
            generalize w5.heap.size = bx at *
            have K26 := resload_any HOK.out (by rw [HM.out]; exact WE6.out.img)
            refine K26.mono ?_
            rintro e w7 ⟨b2, rfl, ⟨F2, r2, _⟩, f7⟩
            have we7 := WE.step f7 WE6.out
            have WE7 := Lib.hid we7
            have K19 := Lib.hid (fun w' (hb : Below w7.heap.size w7 w') => (image_any (RX.below r2 hb)).mono (R' := fun e w'' => ∃ v, e = .returned v ∧ ImgAt w'' w''.heap.size v m ∧ Below w'.heap.size w' w'') (by
              rintro e w'' ⟨v', rfl, hv, hb⟩
              have hv2 := hv.at_
              have hi : imgR ⟨⟨s.k.vs, s.k.th, [], []⟩, ⟨s.q.its.map zeroI, [], s.q.gv⟩⟩ = m := by
                rw [← HM.out]
                show Img.mk _ _ _ = Img.mk _ _ _
                congr 1
                show (s.q.its.map zeroI).map (·.val) = s.q.its.map (·.val)
                rw [List.map_map]
                rfl
              rw [hi] at hv2
              exact ⟨v', rfl, hv2, hb⟩))
            have K18 := Lib.hid (show ∀ w' v, ImgAt w' w'.heap.size v m → Calls Try.prog 18 #[v] w' fun e w'' => ∃ v', e = .returned v' ∧ ImgAt w'' w''.heap.size v' m ∧ Below w'.heap.size w' w'' from fun w' v h => as_any h (by have := HML.out.1; omega))
            have K17 := Lib.hid (show ∀ w' v v', ImgAt w' w'.heap.size v m → ImgAt w' w'.heap.size v' m → Calls Try.prog 17 #[v, v'] w' fun e w'' => e = .returned (.bool true) ∧ Below w'.heap.size w' w'' from fun w' v v' h h' => sameimg_any h h' (by have := HML.out.1; omega) (by have := HML.out.2; omega))
            have hS := And.intro we7.cells.1 (And.intro we7.cells.2.1 (And.intro we7.cells.2.2 we7))
            clear z0 z1 z2 K26 r2 f7 we7 WE6
            go_wp2_with fail
            go_region_held3 (fun w' => w'.cell? ⟨bx, 0, none⟩ = some (.slice B1 m.P.length e1) ∧ w'.cell? ⟨bx, 1, none⟩ = some (.slice B2 m.L.length e2) ∧ w'.cell? ⟨bx, 2, none⟩ = some (.int .i64 m.nx) ∧ WE w.heap.size w b bx B1 e1 B2 e2 m F s w') (first | exact wE_step (Q.bd1 _) (by assumption) | exact wE_step (Q.bdN _ _) (by assumption) | exact wE_step (by assumption) (by assumption) | assumption) (first
              | (go_at_call 8; refine (alive_any _).mono ?_; rintro e wj ⟨rfl, fj⟩)
              | (go_at_call 19; refine (K19.out _ (by repeat (first | assumption | exact Q.bd1 _ | exact Q.bdN _ _ | refine bel_tr ?_ (by assumption)))).mono ?_; rintro e wa ⟨v7, rfl, i7, f7⟩)
              | (go_at_call 18; refine (K18.out _ _ (by first | exact (by assumption : _ ∧ _ ∧ _ ∧ WE w.heap.size w b bx B1 e1 B2 e2 m F s _).2.2.2.img | assumption | exact ImgAt.up2 (by assumption) (by repeat (first | assumption | refine bel_tr ?_ (by assumption))))).mono ?_; rintro e wc ⟨v9, rfl, i9, f9⟩)
              | (go_at_call 17; refine (K17.out _ _ _ (by first | assumption | exact ImgAt.up2 (by assumption) (by repeat (first | assumption | refine bel_tr ?_ (by assumption)))) (by first | assumption | exact ImgAt.up2 (by assumption) (by repeat (first | assumption | refine bel_tr ?_ (by assumption))))).mono ?_; rintro e wd ⟨rfl, fd⟩))
            all_goals
              have HZ := (by assumption : _ ∧ _ ∧ _ ∧ WE w.heap.size w b bx B1 e1 B2 e2 m F s wd).2.2.2.bel
              go_wp2_with fail
              go_ret
              exact ⟨rfl, HZ⟩
    · have hne : (xe == 0) = false := by simpa using hxe
      clear hxe
      go_wp2_with fail
      refine (played_any A1 ops c1 w.heap.size _ F1.out.size (H1.out.below F1.out)).mono ?_
      rintro e w4 ⟨b, rfl, t4, f4⟩
      have hok := t4.ok
      generalize playR ops = s at *
      obtain ⟨⟨F, hr, hF⟩, hB⟩ := t4
      have hb4 := bel_tr F1.out f4
      have hF4 : ∀ i, F i → w.heap.size ≤ i := fun i hi => Nat.le_trans F1.out.size (hF i hi)
      have HR := Lib.hid hr
      have HB4 := Lib.hid hb4
      have HF4 := Lib.hid hF4
      have HOK := Lib.hid hok
      clear hr hF hB f4 hb4 hF4 hok
      go_wp2_with fail
      refine (image_any HR.out).mono ?_
      rintro e w5 ⟨vi, rfl, mi, f5⟩
      obtain ⟨m, hm⟩ : ∃ m, imgR s = m := ⟨_, rfl⟩
      obtain ⟨B1, e1, B2, e2, rfl, mp⟩ : ∃ A1 c1 A2 c2, vi = .agg #[.slice A1 m.P.length c1, .slice A2 m.L.length c2, .int .i64 m.nx] ∧ PairAt w5 w5.heap.size A1 m.P ∧ UAt w5 w5.heap.size A2 m.L ∧ m.P.length ≤ c1 ∧ m.L.length ≤ c2 ∧ (∀ k off, A1 = some ⟨k, off, none⟩ → w4.heap.size ≤ k) ∧ (∀ k off, A2 = some ⟨k, off, none⟩ → w4.heap.size ≤ k) := by
        rw [← hm]; exact mi
      have we6 := we_new HR.out HF4.out f5 HB4.out HB4.out.size mp
      have hml := imgR_len s HOK.out
      rw [hm] at hml
      have HM := Lib.hid hm
      have HML := Lib.hid hml
      obtain ⟨z0, z1, z2⟩ := we6.cells
      have WE6 := Lib.hid we6
      clear mi mp f5 hm we6 hml HR HB4 HF4
      go_wp2_with fail
      generalize (w5.alloc (.cells #[.slice B1 m.P.length e1, .slice B2 m.L.length e2, .int .i64 m.nx] 49)) = w6 at *
      generalize w5.heap.size = bx at *
      have K26 := resload_any HOK.out (by rw [HM.out]; exact WE6.out.img)
      refine K26.mono ?_
      rintro e w7 ⟨b2, rfl, ⟨F2, r2, _⟩, f7⟩
      have we7 := WE.step f7 WE6.out
      have WE7 := Lib.hid we7
      have K19 := Lib.hid (fun w' (hb : Below w7.heap.size w7 w') => (image_any (RX.below r2 hb)).mono (R' := fun e w'' => ∃ v, e = .returned v ∧ ImgAt w'' w''.heap.size v m ∧ Below w'.heap.size w' w'') (by
        rintro e w'' ⟨v', rfl, hv, hb⟩
        have hv2 := hv.at_
        have hi : imgR ⟨⟨s.k.vs, s.k.th, [], []⟩, ⟨s.q.its.map zeroI, [], s.q.gv⟩⟩ = m := by
          rw [← HM.out]
          show Img.mk _ _ _ = Img.mk _ _ _
          congr 1
          show (s.q.its.map zeroI).map (·.val) = s.q.its.map (·.val)
          rw [List.map_map]
          rfl
        rw [hi] at hv2
        exact ⟨v', rfl, hv2, hb⟩))
      have K18 := Lib.hid (show ∀ w' v, ImgAt w' w'.heap.size v m → Calls Try.prog 18 #[v] w' fun e w'' => ∃ v', e = .returned v' ∧ ImgAt w'' w''.heap.size v' m ∧ Below w'.heap.size w' w'' from fun w' v h => as_any h (by have := HML.out.1; omega))
      have K17 := Lib.hid (show ∀ w' v v', ImgAt w' w'.heap.size v m → ImgAt w' w'.heap.size v' m → Calls Try.prog 17 #[v, v'] w' fun e w'' => e = .returned (.bool true) ∧ Below w'.heap.size w' w'' from fun w' v v' h h' => sameimg_any h h' (by have := HML.out.1; omega) (by have := HML.out.2; omega))
      have hS := And.intro we7.cells.1 (And.intro we7.cells.2.1 (And.intro we7.cells.2.2 we7))
      clear z0 z1 z2 K26 r2 f7 we7 WE6
      go_wp2_with fail
      go_region_held3 (fun w' => w'.cell? ⟨bx, 0, none⟩ = some (.slice B1 m.P.length e1) ∧ w'.cell? ⟨bx, 1, none⟩ = some (.slice B2 m.L.length e2) ∧ w'.cell? ⟨bx, 2, none⟩ = some (.int .i64 m.nx) ∧ WE w.heap.size w b bx B1 e1 B2 e2 m F s w') (first | exact wE_step (Q.bd1 _) (by assumption) | exact wE_step (Q.bdN _ _) (by assumption) | exact wE_step (by assumption) (by assumption) | assumption) (first
        | (go_at_call 8; refine (alive_any _).mono ?_; rintro e wj ⟨rfl, fj⟩)
        | (go_at_call 19; refine (K19.out _ (by repeat (first | assumption | exact Q.bd1 _ | exact Q.bdN _ _ | refine bel_tr ?_ (by assumption)))).mono ?_; rintro e wa ⟨v7, rfl, i7, f7⟩)
        | (go_at_call 18; refine (K18.out _ _ (by first | exact (by assumption : _ ∧ _ ∧ _ ∧ WE w.heap.size w b bx B1 e1 B2 e2 m F s _).2.2.2.img | assumption | exact ImgAt.up2 (by assumption) (by repeat (first | assumption | refine bel_tr ?_ (by assumption))))).mono ?_; rintro e wc ⟨v9, rfl, i9, f9⟩)
        | (go_at_call 17; refine (K17.out _ _ _ (by first | assumption | exact ImgAt.up2 (by assumption) (by repeat (first | assumption | refine bel_tr ?_ (by assumption)))) (by first | assumption | exact ImgAt.up2 (by assumption) (by repeat (first | assumption | refine bel_tr ?_ (by assumption))))).mono ?_; rintro e wd ⟨rfl, fd⟩))
      all_goals
        have HZ := (by assumption : _ ∧ _ ∧ _ ∧ WE w.heap.size w b bx B1 e1 B2 e2 m F s wd).2.2.2.bel
        go_wp2_with fail
        go_ret
        exact ⟨rfl, HZ⟩
end Go.Proofs.Ytdejbinmnoabeaa.P
namespace Go.Proofs.Ytdejbinmnoabeaa
open Go.RowKit Go.Mine Go.Deep
set_option linter.unusedVariables false
set_option linter.unusedSimpArgs false
section
variable {H : Type} {enc : TypeId × Value → H} {w : World} {base : Nat} {spare : Nat → Bool} {held : Bool}
set_option maxRecDepth 100000 in
theorem ch_open (n : Nat) (cs : List Value) (z : DataW H × List MemPlace) (h : DataW.trod enc Try.prog w base spare held n 62 cs = some z) : ∃ y : Ch, cs = Q.encCh y := by
  obtain ⟨xs, m, _, _, hl, hlen, hx⟩ := DataW.trod_struct Try.underlying62 h
  have hc : Try.prog.cellsOf 62 = 3 := by kernel_rfl
  have c3 : Try.prog.cellsOf 3 = 1 := by kernel_rfl
  have c26 : Try.prog.cellsOf 32 = 1 := by kernel_rfl
  rw [hc] at hl
  obtain ⟨v0, v1, v2, rfl⟩ : ∃ a b c, cs = [a, b, c] := by
    match cs, hl with
    | [a, b, c], _ => exact ⟨a, b, c, rfl⟩
  obtain ⟨y0, y1, y2, rfl⟩ : ∃ a b c, xs = [a, b, c] := by
    match xs, hlen with
    | [a, b, c], _ => exact ⟨a, b, c, rfl⟩
  have h0 : DataW.trod enc Try.prog w base spare held m 3 (([v0, v1, v2].drop 0).take (Try.prog.cellsOf 3)) = some y0 := hx 0 _ rfl
  have h1 : DataW.trod enc Try.prog w base spare held m 3 (([v0, v1, v2].drop 1).take (Try.prog.cellsOf 3)) = some y1 := hx 1 _ rfl
  have h2 : DataW.trod enc Try.prog w base spare held m 32 (([v0, v1, v2].drop 2).take (Try.prog.cellsOf 32)) = some y2 := hx 2 _ rfl
  simp only [c3, c26, List.drop_zero, List.take_succ_cons, List.take_zero, List.drop_succ_cons] at h0 h1 h2
  obtain ⟨x0, e0, _, _⟩ := DataW.trod_int Try.underlying3 h0
  obtain ⟨x1, e1, _, _⟩ := DataW.trod_int Try.underlying3 h1
  obtain ⟨x2, e2, _, _⟩ := DataW.trod_int Try.underlying32 h2
  simp only [List.cons.injEq, and_true] at e0 e1 e2
  subst e0 e1 e2
  exact ⟨⟨x0, x1, x2⟩, rfl⟩
theorem chAt_of {B : Nat} {A : Option Addr} {l : List Ch} (h : RowR (fun _ y cs => cs = Q.encCh y) w B 3 A l) : ChAt w B A l := by
  intro i x hx
  obtain ⟨b, off, cs, e, hlt, rfl, _, hc⟩ := h i x hx
  exact ⟨b, off, e, hlt, hc⟩
set_option maxRecDepth 100000 in
theorem op_open (n : Nat) (cs : List Value) (z : DataW H × List MemPlace) (h : DataW.trod enc Try.prog w base spare held n 34 cs = some z) : ∃ y : ROp, cs = encOp y ∧ ChAt w w.heap.size y.la y.l ∧ y.l.length ≤ y.lc := by
  obtain ⟨xs, m, _, _, hl, hlen, hx⟩ := DataW.trod_struct Try.underlying34 h
  have hc : Try.prog.cellsOf 34 = 5 := by kernel_rfl
  have c3 : Try.prog.cellsOf 3 = 1 := by kernel_rfl
  have c26 : Try.prog.cellsOf 32 = 1 := by kernel_rfl
  have c32 : Try.prog.cellsOf 22 = 1 := by kernel_rfl
  rw [hc] at hl
  obtain ⟨v0, v1, v2, v3, v4, rfl⟩ : ∃ a b c d e, cs = [a, b, c, d, e] := by
    match cs, hl with
    | [a, b, c, d, e], _ => exact ⟨a, b, c, d, e, rfl⟩
  obtain ⟨y0, y1, y2, y3, y4, rfl⟩ : ∃ a b c d e, xs = [a, b, c, d, e] := by
    match xs, hlen with
    | [a, b, c, d, e], _ => exact ⟨a, b, c, d, e, rfl⟩
  have h0 : DataW.trod enc Try.prog w base spare held m 3 (([v0, v1, v2, v3, v4].drop 0).take (Try.prog.cellsOf 3)) = some y0 := hx 0 _ rfl
  have h1 : DataW.trod enc Try.prog w base spare held m 3 (([v0, v1, v2, v3, v4].drop 1).take (Try.prog.cellsOf 3)) = some y1 := hx 1 _ rfl
  have h2 : DataW.trod enc Try.prog w base spare held m 3 (([v0, v1, v2, v3, v4].drop 2).take (Try.prog.cellsOf 3)) = some y2 := hx 2 _ rfl
  have h3 : DataW.trod enc Try.prog w base spare held m 32 (([v0, v1, v2, v3, v4].drop 3).take (Try.prog.cellsOf 32)) = some y3 := hx 3 _ rfl
  have h4 : DataW.trod enc Try.prog w base spare held m 22 (([v0, v1, v2, v3, v4].drop 4).take (Try.prog.cellsOf 22)) = some y4 := hx 4 _ rfl
  simp only [c3, c26, c32, List.drop_zero, List.take_succ_cons, List.take_zero, List.drop_succ_cons] at h0 h1 h2 h3 h4
  obtain ⟨x0, e0, _, _⟩ := DataW.trod_int Try.underlying3 h0
  obtain ⟨x1, e1, _, _⟩ := DataW.trod_int Try.underlying3 h1
  obtain ⟨x2, e2, _, _⟩ := DataW.trod_int Try.underlying3 h2
  obtain ⟨x3, e3, _, _⟩ := DataW.trod_int Try.underlying32 h3
  simp only [List.cons.injEq, and_true] at e0 e1 e2 e3
  subst e0 e1 e2 e3
  obtain ⟨A, len, cap, rfl⟩ : ∃ A len cap, v4 = .slice A len cap := by
    rcases open_slice Try.underlying22 h4 with ⟨q, _⟩ | ⟨a, len', cap', m', n', D, Pl, hcs, _⟩
    · simp only [List.cons.injEq, and_true] at q
      exact ⟨_, _, _, q⟩
    · simp only [List.cons.injEq, and_true] at hcs
      exact ⟨_, _, _, hcs⟩
  obtain ⟨ys, hyl, hrow, hcap⟩ := open_row (size := 3) (fun _ (y : Ch) cs => cs = Q.encCh y) Try.underlying22 (by kernel_rfl) (by decide) (fun n cs z hz => ch_open n cs z hz) h4
  subst hyl
  exact ⟨⟨x0, x1, x2, x3, A, ys, cap⟩, rfl, chAt_of hrow, hcap⟩
end
theorem opsAt_of {w : World} {A : Option Addr} {l : List ROp} (h : RowR (fun w y cs => cs = encOp y ∧ ChAt w w.heap.size y.la y.l ∧ y.l.length ≤ y.lc) w w.heap.size 5 A l) : OpsAt w w.heap.size A l := by
  intro i x hx
  obtain ⟨b, off, cs, e, hlt, ⟨rfl, h1, h2⟩, _, hc⟩ := h i x hx
  exact ⟨b, off, e, hlt, hc, h1, h2⟩
section
open Go.Deep Go.WideShapes
variable {H : Type} {enc : TypeId × Value → H} {W : World} {base : Nat} {spare : Nat → Bool} {held : Bool}
end
end Go.Proofs.Ytdejbinmnoabeaa

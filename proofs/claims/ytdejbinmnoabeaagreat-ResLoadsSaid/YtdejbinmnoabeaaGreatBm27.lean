/- Texts of this seat, put together: RdT, Args, RowsB, RowsD. -/
import Derived.Test.YtdejbinmnoabeaaGreatBm25
import Derived.Test.YtdejbinmnoabeaaGreatBm26
import Derived.WalkKit
import Derived.ProofKit
import Derived.SizedLaws
import Derived.Deep.Slices
import Derived.Lib.SmallJoins
import Derived.Deep.Strs
import Derived.OpenShut
import Derived.ShutString
import Derived.ChangeOld
import Derived.ChangeArms
import Derived.Test.YtdejbinmnoabeaaGreatBm23
namespace Go.Mine
theorem ldI_all {P : List (Int × Int)} (h : ascB (-1) P = true) : ∀ i, i ≤ P.length → ∃ la t, LdI P i la t
  | 0, _ => ⟨-1, KS.new, LdI.start P⟩
  | i + 1, hi => by
    obtain ⟨la, t, hl⟩ := ldI_all h i (by omega)
    obtain ⟨x, hx⟩ : ∃ x, P[i]? = some x := ⟨_, List.getElem?_eq_getElem (by omega)⟩
    by_cases h1 : x.1 ≤ la
    · rw [hl.bad hx (.inl h1)] at h; cases h
    · by_cases h2 : 16 ≤ x.1
      · rw [hl.bad hx (.inr h2)] at h; cases h
      · exact ⟨_, _, hl.next hx h1 h2⟩
theorem loadRM_ok {P : List (Int × Int)} {L : List Int} {nx : Int} (h : (loadRM P L nx).1 = 0) : (loadRM P L nx).2.Ok ∧ Agree P (loadRM P L nx).2.k ∧ (loadRM P L nx).2.k.ws = [] := by
  unfold loadRM at h ⊢
  split at h
  · cases h
  · rename_i ha
    rw [if_neg ha]
    have ha2 : ascB (-1) P = true := by simpa using ha
    obtain ⟨la, t, hl⟩ := ldI_all ha2 P.length (Nat.le_refl _)
    obtain ⟨_, _, h3, h4⟩ := hl.done
    exact ⟨load_ok h3 L _, h4, (stOf_keep P).1⟩
end Go.Mine
namespace Go.Proofs.YtdejbinmnoabeaaGreat
open Go.RowKit Go.Mine Go.Proofs.YtdejbinmnoabeaaGreatW.PrintWords
set_option linter.unusedVariables false
set_option linter.unusedSimpArgs false
set_option maxRecDepth 100000 in
set_option maxHeartbeats 8000000 in
theorem loads_any (A1 A2 : Option Addr) (P : List (Int × Int)) (L : List Int) (nx : Int) (c1 c2 : Nat) (A : Option Addr) (l : List ROp) (c : Nat) (w : World) (hm : ImgAt w w.heap.size (.agg #[.slice A1 P.length c1, .slice A2 L.length c2, .int .i64 nx]) ⟨P, L, nx⟩) (hl : OpsAt w w.heap.size A l) :
    Calls Tryz.prog 4 #[.agg #[.slice A1 P.length c1, .slice A2 L.length c2, .int .i64 nx], .slice A l.length c] w fun e w' => e = .returned (.bool true) ∧ Below w.heap.size w w' := by
  have HL := hid hl
  have hba : Below w.heap.size w (w.alloc (.cells #[.slice A1 P.length c1, .slice A2 L.length c2, .int .i64 nx] 58)) := (Below.refl _ _).alloc (Nat.le_refl _) _
  have hbx : (w.alloc (.cells #[.slice A1 P.length c1, .slice A2 L.length c2, .int .i64 nx] 58)).heap[w.heap.size]? = some (.cells #[.slice A1 P.length c1, .slice A2 L.length c2, .int .i64 nx] 58 (0, 0)) := (MapKept.heap_alloc w _).1
  have HIM := hid (ImgAt.up2 hm hba)
  have HBX := hid hbx
  have HBN := hid (show BN w.heap.size w (w.alloc (.cells #[.slice A1 P.length c1, .slice A2 L.length c2, .int .i64 nx] 58)) from ⟨hba, hba.size⟩)
  have z0 : (w.alloc (.cells #[.slice A1 P.length c1, .slice A2 L.length c2, .int .i64 nx] 58)).cell? ⟨w.heap.size, 0, none⟩ = some (.slice A1 P.length c1) := by rw [cell_of_row _ _ 0 _ _ _ hbx]; rfl
  have z1 : (w.alloc (.cells #[.slice A1 P.length c1, .slice A2 L.length c2, .int .i64 nx] 58)).cell? ⟨w.heap.size, 1, none⟩ = some (.slice A2 L.length c2) := by rw [cell_of_row _ _ 1 _ _ _ hbx]; rfl
  have z2 : (w.alloc (.cells #[.slice A1 P.length c1, .slice A2 L.length c2, .int .i64 nx] 58)).cell? ⟨w.heap.size, 2, none⟩ = some (.int .i64 nx) := by rw [cell_of_row _ _ 2 _ _ _ hbx]; rfl
  clear hl hm hba hbx
  go_enter Tryz.func4, Tryz.ntmps4
  by_cases hP : P.length ≤ 100
  · have dP : decide ((100 : Int) < P.length) = false := decide_eq_false (by omega)
    by_cases hL : L.length ≤ 100
    · have dL : decide ((100 : Int) < L.length) = false := decide_eq_false (by omega)
      have HPP := hid hP
      have HLL := hid hL
      go_wp2_with fail
      generalize (w.alloc (.cells #[.slice A1 P.length c1, .slice A2 L.length c2, .int .i64 nx] 58)) = wi at *
      obtain ⟨bx, hbxe⟩ : ∃ bx, bx = w.heap.size := ⟨_, rfl⟩
      have HBX1 : Hid (wi.heap[bx]? = some (.cells #[.slice A1 P.length c1, .slice A2 L.length c2, .int .i64 nx] 58 (0, 0))) := hid (by rw [hbxe]; exact HBX.out)
      rw [← hbxe] at z0 z1 z2 ⊢
      clear HBX hbxe
      obtain ⟨lr, hlr⟩ : ∃ lr, loadRM P L nx = lr := ⟨_, rfl⟩
      have h16 := load_any HIM.out HPP.out HLL.out
      rw [hlr] at h16
      refine h16.mono ?_
      unfold LoadPost
      rintro e w1 ⟨p, rfl, f1, hne, hok⟩
      have hbx1 := (f1.block _ (Q.blk_lt HBX1.out)).trans HBX1.out
      have HIM1 := hid (ImgAt.up2 HIM.out f1)
      have HBN1 := hid (HBN.out.step f1)
      have HBX2 := hid hbx1
      have HF1 := hid f1
      have HNE := hid hne
      have HOKL := hid hok
      have HLR := hid hlr
      have HWI := hid HBN.out.s
      clear h16 z0 z1 z2 f1 hne hok hlr HIM HBN HBX1
      have z0 : w1.cell? ⟨bx, 0, none⟩ = some (.slice A1 P.length c1) := by rw [cell_of_row _ _ 0 _ _ _ hbx1]; rfl
      have z1 : w1.cell? ⟨bx, 1, none⟩ = some (.slice A2 L.length c2) := by rw [cell_of_row _ _ 1 _ _ _ hbx1]; rfl
      have z2 : w1.cell? ⟨bx, 2, none⟩ = some (.int .i64 nx) := by rw [cell_of_row _ _ 2 _ _ _ hbx1]; rfl
      clear hbx1
      go_wp2_with fail
      refine (as_any HIM1.out HPP.out).mono ?_
      rintro e w2 ⟨v2, rfl, hi2, f2⟩
      have h17 := dload_img hi2 HPP.out HLL.out
      rw [HLR.out] at h17
      have H17 := hid h17
      have HF2 := hid f2
      clear z0 z1 z2 hi2 f2 h17
      go_wp2_with fail
      refine H17.out.mono ?_
      unfold DLoadPost
      rintro e w3 ⟨p2, rfl, f3, hne2, hok2⟩
      by_cases h0 : lr.1 = 0
      · obtain ⟨b0, F0, rfl, hr0, hF0⟩ := HOKL.out h0
        obtain ⟨b1, G0, rfl, hd0, hG0⟩ := hok2 h0
        have hlk := loadRM_ok (P := P) (L := L) (nx := nx) (by rw [HLR.out]; exact h0)
        rw [HLR.out] at hlk
        have f23 := bel_tr HF2.out f3
        have ht0 : Tw w w3 F0 G0 b0 b1 P lr.2 lr.2 := ⟨RX.below hr0 f23, hd0, fun i hi q => by have := RX.fb hr0 i hi; have := hG0 i q; have := HF2.out.size; omega, fun i hi => Nat.le_trans HWI.out (hF0 i hi), fun i hi => by have := hG0 i hi; have := HF2.out.size; have := HBN1.out.s; omega, HBN1.out.step f23⟩
        have HT1 := hid ht0
        have HLK := hid hlk
        rw [h0]
        clear hr0 hF0 hd0 hG0 f23 ht0 hlk f3 hne2 hok2 H17 HF2 HOKL HNE HF1 HBX2 HIM1 HWI HLR
        go_wp2_with fail
        go_loopg [9] 21 (fun m v wr => ∃ (i : Nat) (F G : Nat → Prop) (LP : List (Int × Int)) (s : RM), v = .int .i64 i ∧ i ≤ l.length ∧ i ≤ 20 ∧ m = 21 - i ∧ s.Ok ∧ Agree LP s.k ∧ s.k.ws.length ≤ i ∧ Tw w wr F G b0 b1 LP s s)
        case atStart => exact ⟨0, F0, G0, P, lr.2, rfl, Nat.zero_le _, Nat.zero_le _, rfl, HLK.out.1, HLK.out.2.1, by rw [HLK.out.2.2]; exact Nat.zero_le _, HT1.out⟩
        case round =>
          obtain ⟨i, F, G, LP, s, rfl, hi1, hi2, hm, hok, hag, hkl, ht⟩ := hrel
          have HN := hid hm
          have HT := hid ht
          have HOK := hid hok
          have HAG := hid hag
          have HKL := hid hkl
          clear hm ht hok hag hkl HT1
          by_cases h1 : i < l.length
          · by_cases h2 : (i : Int) < 20
            · obtain ⟨x, hx⟩ : ∃ x, l[i]? = some x := ⟨_, List.getElem?_eq_getElem h1⟩
              obtain ⟨b, off, hA, hb, _, hch, hlc⟩ := HL.out i x hx
              subst hA
              have HSC := hid (show ∀ w', BN w.heap.size w w' → (w'.cell? ⟨b, off + i * 5, none⟩ = some (.int .i64 x.kind) ∧ w'.cell? ⟨b, off + i * 5 + 1, none⟩ = some (.int .i64 x.work) ∧ w'.cell? ⟨b, off + i * 5 + 2, none⟩ = some (.int .i64 x.key) ∧ w'.cell? ⟨b, off + i * 5 + 3, none⟩ = some (.int .u64 x.val) ∧ w'.cell? ⟨b, off + i * 5 + 4, none⟩ = some (.slice x.la x.l.length x.lc) ∧ BN w.heap.size w w') from fun w' hbn => by
                have hc := op_cells (HL.out.below hbn.b) hx rfl
                exact ⟨hc.1, hc.2.1, hc.2.2.1, hc.2.2.2.1, hc.2.2.2.2, hbn⟩)
              have hS := HSC.out wr HT.out.bn
              obtain ⟨k0, k1, k2, k3, k4, _⟩ := HSC.out wr HT.out.bn
              by_cases h40 : x.l.length ≤ 40
              · have h40' : (x.l.length : Int) ≤ 40 := by omega
                have h40d : decide ((40 : Int) < x.l.length) = false := decide_eq_false (by omega)
                have hC := call_two HT.out HOK.out HAG.out (by have := HKL.out; omega) x hch hlc h40
                have hok' := HOK.out.call x
                have hag' := callR_agree HAG.out HOK.out x
                have hkl' := callR_len HOK.out x
                have hll := callR_list HOK.out x
                obtain ⟨LP', hLP'⟩ : ∃ LP', callLP LP s x = LP' := ⟨_, rfl⟩
                rw [hLP'] at hC hag'
                clear hLP'
                generalize callR s x = R at *
                obtain ⟨⟨ra, rt, rl, re⟩, s'⟩ := R
                simp only at hC hok' hag' hkl' hll
                have HC := hid hC
                have HOK2 := hid hok'
                have HAG2 := hid hag'
                have HKL2 := hid (show s'.k.ws.length ≤ i + 1 from by have := HKL.out; omega)
                obtain ⟨m, hm⟩ : ∃ m, imgR s' = m := ⟨_, rfl⟩
                have hml := imgR_len s' hok'
                rw [hm] at hml
                have HML := hid hml
                have K7 : Hid (∀ w' A1 A2 c1 c2, LvE w w' b0 b1 LP' s' A1 A2 rl → Calls Tryz.prog 7 #[.agg #[.int .u64 ra, .bool rt, .slice A1 rl.length c1, .int .i64 re], .agg #[.int .u64 ra, .bool rt, .slice A2 rl.length c2, .int .i64 re]] w' fun e w'' => e = .returned (.bool true) ∧ Below w'.heap.size w' w'') := hid (fun w' A1 A2 c1 c2 h => by
                  obtain ⟨F', G', _, h1, h2⟩ := h
                  exact same_told ra rt re h1 h2 (by omega))
                have K14 : Hid (∀ w' A1 A2, LvE w w' b0 b1 LP' s' A1 A2 rl → Calls Tryz.prog 14 #[.pointer (some ⟨b0, 0, none⟩)] w' fun e w'' => ∃ v, e = .returned v ∧ ImgAt w'' w''.heap.size v m ∧ Below w'.heap.size w' w'') := hid (fun w' A1 A2 h => by
                  obtain ⟨F', G', ht, _, _⟩ := h
                  refine (image_any ht.l).mono ?_
                  rintro e w'' ⟨v, rfl, hv, hb⟩
                  have hv2 := hv.at_
                  rw [show imgR ⟨s'.k, s'.q⟩ = m from hm] at hv2
                  exact ⟨v, rfl, hv2, hb⟩)
                have K15 : Hid (∀ w' A1 A2, LvE w w' b0 b1 LP' s' A1 A2 rl → Calls Tryz.prog 15 #[.pointer (some ⟨b1, 0, none⟩)] w' fun e w'' => ∃ v, e = .returned v ∧ ImgAt w'' w''.heap.size v m ∧ Below w'.heap.size w' w'') := hid (fun w' A1 A2 h => by
                  obtain ⟨F', G', ht, _, _⟩ := h
                  refine (dimage_any ht.r HAG2.out HOK2.out).mono ?_
                  rintro e w'' ⟨v, rfl, hv, hb⟩
                  have hv2 := hv.at_
                  rw [hm] at hv2
                  exact ⟨v, rfl, hv2, hb⟩)
                have K13 : Hid (∀ w' v, ImgAt w' w'.heap.size v m → Calls Tryz.prog 13 #[v] w' fun e w'' => ∃ v', e = .returned v' ∧ ImgAt w'' w''.heap.size v' m ∧ Below w'.heap.size w' w'') := hid (fun w' v h => as_any h (by have := HML.out.1; omega))
                have K12 : Hid (∀ w' v v', ImgAt w' w'.heap.size v m → ImgAt w' w'.heap.size v' m → Calls Tryz.prog 12 #[v, v'] w' fun e w'' => e = .returned (.bool true) ∧ Below w'.heap.size w' w'') := hid (fun w' v v' h h' => sameimg_any h h' (by have := HML.out.1; omega) (by have := HML.out.2; omega))
                clear hx hb hch hlc hC hok' hag' hkl' hll hm hml
                go_wp2_with fail
                clear k0 k1 k2 k3 k4
                go_region_held3 (fun w' => w'.cell? ⟨b, off + i * 5, none⟩ = some (.int .i64 x.kind) ∧ w'.cell? ⟨b, off + i * 5 + 1, none⟩ = some (.int .i64 x.work) ∧ w'.cell? ⟨b, off + i * 5 + 2, none⟩ = some (.int .i64 x.key) ∧ w'.cell? ⟨b, off + i * 5 + 3, none⟩ = some (.int .u64 x.val) ∧ w'.cell? ⟨b, off + i * 5 + 4, none⟩ = some (.slice x.la x.l.length x.lc) ∧ BN w.heap.size w w') (first | exact c5_step (Q.bd1 _) (by assumption) | exact c5_step (Q.bdN _ _) (by assumption) | assumption | exact c5_step (by assumption) (by assumption)) (first
                  | (go_at_call 8; refine (HC.out _ (by repeat (first | assumption | exact Below.refl _ _ | exact Q.bd1 _ | exact Q.bdN _ _ | refine bel_tr ?_ (by assumption)))).mono ?_; rintro e wa ⟨A1, c1, rfl, bna, K9⟩; have sa := HSC.out _ bna)
                  | (go_at_call 9; refine (K9.out _ (by repeat (first | assumption | exact Below.refl _ _ | exact Q.bd1 _ | exact Q.bdN _ _ | refine bel_tr ?_ (by assumption)))).mono ?_; rintro e wb ⟨A2, c2, rfl, bnb, HLV⟩; have sb := HSC.out _ bnb)
                  | (go_at_call 7; refine (K7.out _ _ _ _ _ (LvE.below HLV.out (by repeat (first | assumption | exact Below.refl _ _ | exact Q.bd1 _ | exact Q.bdN _ _ | refine bel_tr ?_ (by assumption))))).mono ?_; rintro e wc ⟨rfl, fc⟩)
                  | (go_at_call 14; refine (K14.out _ _ _ (LvE.below HLV.out (by repeat (first | assumption | exact Below.refl _ _ | exact Q.bd1 _ | exact Q.bdN _ _ | refine bel_tr ?_ (by assumption))))).mono ?_; rintro e wf ⟨vf, rfl, jf, ff⟩)
                  | (go_at_call 13; refine (K13.out _ _ (by first | assumption | exact ImgAt.up2 (by assumption) (by repeat (first | assumption | exact Below.refl _ _ | exact Q.bd1 _ | exact Q.bdN _ _ | refine bel_tr ?_ (by assumption))))).mono ?_; rintro e wg ⟨vg, rfl, jg, fg⟩)
                  | (go_at_call 15; refine (K15.out _ _ _ (LvE.below HLV.out (by repeat (first | assumption | exact Below.refl _ _ | exact Q.bd1 _ | exact Q.bdN _ _ | refine bel_tr ?_ (by assumption))))).mono ?_; rintro e wh ⟨vh, rfl, jh, fh⟩)
                  | (go_at_call 12; refine (K12.out _ _ _ (by first | assumption | exact ImgAt.up2 (by assumption) (by repeat (first | assumption | exact Below.refl _ _ | exact Q.bd1 _ | exact Q.bdN _ _ | refine bel_tr ?_ (by assumption)))) (by first | assumption | exact ImgAt.up2 (by assumption) (by repeat (first | assumption | exact Below.refl _ _ | exact Q.bd1 _ | exact Q.bdN _ _ | refine bel_tr ?_ (by assumption))))).mono ?_; rintro e wi ⟨rfl, fi⟩))
                all_goals
                  have HLW := hid (LvE.below HLV.out (by repeat (first | assumption | exact Below.refl _ _ | exact Q.bd1 _ | exact Q.bdN _ _ | refine bel_tr ?_ (by assumption))) : LvE w wi b0 b1 LP' s' A1 A2 rl)
                  go_wp2_with fail
                  go_roundg (21 - (i + 1))
                  case measure => rw [HN.out]; omega
                  case rel =>
                    obtain ⟨F', G', ht', _, _⟩ := HLW.out
                    exact ⟨i + 1, F', G', LP', s', by go_num, by omega, by omega, rfl, HOK2.out, HAG2.out, HKL2.out, ht'⟩
              · have h40d : decide ((40 : Int) < x.l.length) = true := decide_eq_true (by omega)
                have HBN := hid HT.out.bn
                clear hx hb hch hlc hS
                go_wp2_with fail
                refine (alive_any _).mono ?_
                rintro e w3 ⟨rfl, f3⟩
                go_wp2_with fail
                go_ret
                exact ⟨rfl, (HBN.out.step f3).b⟩
            · have HBN := hid HT.out.bn
              go_wp2_with fail
              refine (alive_any _).mono ?_
              rintro e w3 ⟨rfl, f3⟩
              go_wp2_with fail
              go_ret
              exact ⟨rfl, (HBN.out.step f3).b⟩
          · have HBN := hid HT.out.bn
            go_wp2_with fail
            refine (alive_any _).mono ?_
            rintro e w3 ⟨rfl, f3⟩
            go_wp2_with fail
            go_ret
            exact ⟨rfl, (HBN.out.step f3).b⟩
      · have hp : p = none := HNE.out h0
        have hp2 : p2 = none := hne2 h0
        subst hp hp2
        have HBN := hid ((HBN1.out.step HF2.out).step f3)
        have hee : (lr.1 != lr.1) = false := by simp
        clear f3 hne2 hok2 H17 HF2 HOKL HNE HF1 HBX2 HIM1 HWI HLR HBN1
        go_wp2_with fail
        go_loopg [9] 1 (fun m v wr => v = .int .i64 0 ∧ wr = w3)
        case atStart => exact ⟨rfl, rfl⟩
        case round =>
          obtain ⟨rfl, rfl⟩ := hrel
          by_cases h1 : 0 < l.length
          · go_wp2_with fail
            refine (alive_any _).mono ?_
            rintro e w3 ⟨rfl, f3⟩
            go_wp2_with fail
            go_ret
            exact ⟨rfl, (HBN.out.step f3).b⟩
          · have hl0 : l.length = 0 := by omega
            go_wp2_with fail
            refine (alive_any _).mono ?_
            rintro e w3 ⟨rfl, f3⟩
            go_wp2_with fail
            go_ret
            exact ⟨rfl, (HBN.out.step f3).b⟩
    · have dL : decide ((100 : Int) < L.length) = true := decide_eq_true (by omega)
      go_wp2_with fail
      refine (alive_any _).mono ?_
      rintro e w3 ⟨rfl, f3⟩
      go_wp2_with fail
      go_ret
      exact ⟨rfl, (HBN.out.step f3).b⟩
  · have dP : decide ((100 : Int) < P.length) = true := decide_eq_true (by omega)
    go_wp2_with fail
    refine (alive_any _).mono ?_
    rintro e w3 ⟨rfl, f3⟩
    go_wp2_with fail
    go_ret
    exact ⟨rfl, (HBN.out.step f3).b⟩
end Go.Proofs.YtdejbinmnoabeaaGreat
namespace Go.Mine
open Go.RowKit Go.Deep
set_option linter.unusedVariables false
set_option linter.unusedSimpArgs false
def RowR {α : Type} (E : World → α → List Value → Prop) (w : World) (B size : Nat) (A : Option Addr) (ys : List α) : Prop :=
  ∀ i y, ys[i]? = some y → ∃ b off cs, A = some ⟨b, off, none⟩ ∧ b < B ∧ E w y cs ∧ cs.length = size ∧ ∀ j v, cs[j]? = some v → w.cell? ⟨b, off + i * size + j, none⟩ = some v
theorem RowR.below {α : Type} {E : World → α → List Value → Prop} {w w' : World} {B size : Nat} {A : Option Addr} {ys : List α} (h : RowR E w B size A ys) (hb : Below B w w') (hE : ∀ y cs, E w y cs → E w' y cs) : RowR E w' B size A ys := by
  intro i y hy
  obtain ⟨b, off, cs, e, hlt, he, hl, hc⟩ := h i y hy
  exact ⟨b, off, cs, e, hlt, hE y cs he, hl, fun j v hv => (hb.cell (p := ⟨b, off + i * size + j, none⟩) hlt).trans (hc j v hv)⟩
theorem cell_spot {w : World} {a : Addr} {v : Value} (h : w.cell? a = some v) : a.spot = none := by
  unfold World.cell? at h
  split at h
  · cases hs : a.spot with
    | none => rfl
    | some x => simp [hs] at h
  · cases h
theorem list_of_fn {α : Type} {n : Nat} {p : Nat → α → Prop} : (∀ i, i < n → ∃ y, p i y) → ∃ ys : List α, ys.length = n ∧ ∀ i y, ys[i]? = some y → p i y := by
  induction n with
  | zero => intro _; exact ⟨[], rfl, by simp⟩
  | succ n ih =>
    intro h
    obtain ⟨ys, hl, hp⟩ := ih (fun i hi => h i (by omega))
    obtain ⟨y, hy⟩ := h n (by omega)
    refine ⟨ys ++ [y], by simp [hl], fun i z hz => ?_⟩
    by_cases hi : i < n
    · rw [List.getElem?_append_left (by omega)] at hz
      exact hp i z hz
    · rw [List.getElem?_append_right (by omega), hl] at hz
      have : i - n = 0 := by
        cases hk : i - n with
        | zero => rfl
        | succ m => rw [hk] at hz; simp at hz
      rw [this] at hz
      simp at hz
      subst hz
      have : i = n := by omega
      subst this
      exact hy
section
variable {H : Type} {enc : TypeId × Value → H} {P : Program} {w : World} {base : Nat} {spare : Nat → Bool} {held : Bool}
theorem open_row {α : Type} (E : World → α → List Value → Prop) {t e : TypeId} {size fuel : Nat} {A : Option Addr} {len cap : Nat} {x : DataW H × List MemPlace} (ht : P.underlying t = some (.slice e)) (hc : P.cellsOf e = size) (hs : 0 < size)
    (hel : ∀ n cs z, DataW.trod enc P w base spare held n e cs = some z → ∃ y, E w y cs)
    (h : DataW.trod enc P w base spare held fuel t [.slice A len cap] = some x) :
    ∃ ys : List α, ys.length = len ∧ RowR E w w.heap.size size A ys ∧ len ≤ cap := by
  rcases open_slice ht h with ⟨h0, _⟩ | ⟨a, len', cap', m, n, D, Pl, hcs, hb, hl, hm, hmm, _, hx⟩
  · simp only [List.cons.injEq, Value.slice.injEq, and_true] at h0
    obtain ⟨rfl, rfl, rfl⟩ := h0
    exact ⟨[], rfl, fun i y hy => by simp at hy, Nat.le_refl _⟩
  · simp only [List.cons.injEq, Value.slice.injEq, and_true] at hcs
    obtain ⟨rfl, rfl, rfl⟩ := hcs
    have hlm : len ≤ m := by rw [hmm]; split <;> omega
    obtain ⟨ys, hyl, hyp⟩ := list_of_fn (α := α) (n := len) (p := fun i y => ∃ cs, E w y cs ∧ cs.length = size ∧ ∀ j, j < size → w.cell? ((a.add (i * size)).add j) = cs[j]?) (by
      intro i hi
      obtain ⟨cs', h1, h2⟩ := hx i (by omega)
      rw [hc] at h1
      obtain ⟨_, hln, hce⟩ := World.cells?_some h1
      obtain ⟨y, hy⟩ := hel _ _ _ h2
      exact ⟨y, cs', hy, hln, hce⟩)
    refine ⟨ys, hyl, fun i y hy => ?_, hl⟩
    obtain ⟨cs, he, hln, hce⟩ := hyp i y hy
    have h0 : w.cell? ((a.add (i * size)).add 0) = some cs[0] := by rw [hce 0 hs, List.getElem?_eq_getElem (by omega)]
    obtain ⟨b, off, sp⟩ := a
    have hadd : ∀ k, (⟨b, off, sp⟩ : Addr).add k = ⟨b, off + k, if k = 0 then sp else none⟩ := by
      intro k
      unfold Addr.add
      by_cases hk : k = 0
      · subst hk; simp
      · simp [hk]
    have hsp : sp = none := by
      by_cases hi0 : i = 0
      · subst hi0
        have := cell_spot h0
        simpa [hadd, Addr.add] using this
      · 
        obtain ⟨cs0, h1, _⟩ := hx 0 (by have := (List.getElem?_eq_some_iff.1 hy).1; omega)
        rw [hc] at h1
        obtain ⟨_, hln0, hce0⟩ := World.cells?_some h1
        have h00 := hce0 0 hs
        rw [List.getElem?_eq_getElem (by omega)] at h00
        have := cell_spot h00
        simpa [hadd, Addr.add] using this
    subst hsp
    have hblk : b < w.heap.size := by
      have := World.block_lt_of_cell? _ _ h0
      simp only [hadd] at this
      exact this
    refine ⟨b, off, cs, rfl, hblk, he, hln, fun j v hv => ?_⟩
    have hj : j < size := by have := (List.getElem?_eq_some_iff.1 hv).1; omega
    rw [← hv, ← hce j hj]
    congr 1
    simp only [hadd]
    unfold Addr.add
    by_cases hj0 : j = 0
    · subst hj0; simp
    · simp [hj0]
theorem sized_row {ts : List TypeId} {ds : List (DataW H)} {j : Nat} {t e : TypeId} {A : Option Addr} {len cap : Nat} {d : DataW H} {ps : List MemPlace} (hsz : (DataW.weightsEach P ts ds).all (· ≤ reachBytes) = true)
    (htj : ts[j]? = some t) (hdj : ds[j]? = some d) (ht : P.underlying t = some (.slice e)) (h : DataW.Trod enc P w base spare held t (.slice A len cap) d ps) {B : Nat} (hB : P.bytesOf e = B) : len * B ≤ 140737488351232 := by
  obtain ⟨fuel, hf⟩ := h
  rcases open_slice ht hf with ⟨h0, _⟩ | ⟨a, len', cap', m, n, D, Pl, hcs, hb, hl, hm, hmm, hx, _⟩
  · simp only [Value.cells, List.cons.injEq, Value.slice.injEq, and_true] at h0
    obtain ⟨_, rfl, _⟩ := h0
    simp
  · simp only [Value.cells, List.cons.injEq, Value.slice.injEq, and_true] at hcs
    obtain ⟨rfl, rfl, rfl⟩ := hcs
    obtain ⟨rfl, _⟩ := Prod.mk.inj hx
    have z := sized_slice hsz htj hdj ht
    rw [hB] at z
    refine Nat.le_trans (Nat.mul_le_mul_right _ ?_) z
    simp
end
end Go.Mine
namespace Go.Proofs.YtdejbinmnoabeaaGreat
open Go.RowKit Go.Mine Go.Deep
set_option linter.unusedVariables false
set_option linter.unusedSimpArgs false
section
variable {H : Type} {enc : TypeId × Value → H} {w : World} {base : Nat} {spare : Nat → Bool} {held : Bool}
set_option maxRecDepth 100000 in
theorem ch_open (n : Nat) (cs : List Value) (z : DataW H × List MemPlace) (h : DataW.trod enc Tryz.prog w base spare held n 90 cs = some z) : ∃ y : Ch, cs = Q.encCh y := by
  obtain ⟨xs, m, _, _, hl, hlen, hx⟩ := DataW.trod_struct Tryz.underlying90 h
  have hc : Tryz.prog.cellsOf 90 = 3 := by kernel_rfl
  have c3 : Tryz.prog.cellsOf 3 = 1 := by kernel_rfl
  have c26 : Tryz.prog.cellsOf 39 = 1 := by kernel_rfl
  rw [hc] at hl
  obtain ⟨v0, v1, v2, rfl⟩ : ∃ a b c, cs = [a, b, c] := by
    match cs, hl with
    | [a, b, c], _ => exact ⟨a, b, c, rfl⟩
  obtain ⟨y0, y1, y2, rfl⟩ : ∃ a b c, xs = [a, b, c] := by
    match xs, hlen with
    | [a, b, c], _ => exact ⟨a, b, c, rfl⟩
  have h0 : DataW.trod enc Tryz.prog w base spare held m 3 (([v0, v1, v2].drop 0).take (Tryz.prog.cellsOf 3)) = some y0 := hx 0 _ rfl
  have h1 : DataW.trod enc Tryz.prog w base spare held m 3 (([v0, v1, v2].drop 1).take (Tryz.prog.cellsOf 3)) = some y1 := hx 1 _ rfl
  have h2 : DataW.trod enc Tryz.prog w base spare held m 39 (([v0, v1, v2].drop 2).take (Tryz.prog.cellsOf 39)) = some y2 := hx 2 _ rfl
  simp only [c3, c26, List.drop_zero, List.take_succ_cons, List.take_zero, List.drop_succ_cons] at h0 h1 h2
  obtain ⟨x0, e0, _, _⟩ := DataW.trod_int Tryz.underlying3 h0
  obtain ⟨x1, e1, _, _⟩ := DataW.trod_int Tryz.underlying3 h1
  obtain ⟨x2, e2, _, _⟩ := DataW.trod_int Tryz.underlying39 h2
  simp only [List.cons.injEq, and_true] at e0 e1 e2
  subst e0 e1 e2
  exact ⟨⟨x0, x1, x2⟩, rfl⟩
theorem chAt_of {B : Nat} {A : Option Addr} {l : List Ch} (h : RowR (fun _ y cs => cs = Q.encCh y) w B 3 A l) : ChAt w B A l := by
  intro i x hx
  obtain ⟨b, off, cs, e, hlt, rfl, _, hc⟩ := h i x hx
  exact ⟨b, off, e, hlt, hc⟩
set_option maxRecDepth 100000 in
theorem op_open (n : Nat) (cs : List Value) (z : DataW H × List MemPlace) (h : DataW.trod enc Tryz.prog w base spare held n 42 cs = some z) : ∃ y : ROp, cs = encOp y ∧ ChAt w w.heap.size y.la y.l ∧ y.l.length ≤ y.lc := by
  obtain ⟨xs, m, _, _, hl, hlen, hx⟩ := DataW.trod_struct Tryz.underlying42 h
  have hc : Tryz.prog.cellsOf 42 = 5 := by kernel_rfl
  have c3 : Tryz.prog.cellsOf 3 = 1 := by kernel_rfl
  have c26 : Tryz.prog.cellsOf 39 = 1 := by kernel_rfl
  have c32 : Tryz.prog.cellsOf 40 = 1 := by kernel_rfl
  rw [hc] at hl
  obtain ⟨v0, v1, v2, v3, v4, rfl⟩ : ∃ a b c d e, cs = [a, b, c, d, e] := by
    match cs, hl with
    | [a, b, c, d, e], _ => exact ⟨a, b, c, d, e, rfl⟩
  obtain ⟨y0, y1, y2, y3, y4, rfl⟩ : ∃ a b c d e, xs = [a, b, c, d, e] := by
    match xs, hlen with
    | [a, b, c, d, e], _ => exact ⟨a, b, c, d, e, rfl⟩
  have h0 : DataW.trod enc Tryz.prog w base spare held m 3 (([v0, v1, v2, v3, v4].drop 0).take (Tryz.prog.cellsOf 3)) = some y0 := hx 0 _ rfl
  have h1 : DataW.trod enc Tryz.prog w base spare held m 3 (([v0, v1, v2, v3, v4].drop 1).take (Tryz.prog.cellsOf 3)) = some y1 := hx 1 _ rfl
  have h2 : DataW.trod enc Tryz.prog w base spare held m 3 (([v0, v1, v2, v3, v4].drop 2).take (Tryz.prog.cellsOf 3)) = some y2 := hx 2 _ rfl
  have h3 : DataW.trod enc Tryz.prog w base spare held m 39 (([v0, v1, v2, v3, v4].drop 3).take (Tryz.prog.cellsOf 39)) = some y3 := hx 3 _ rfl
  have h4 : DataW.trod enc Tryz.prog w base spare held m 40 (([v0, v1, v2, v3, v4].drop 4).take (Tryz.prog.cellsOf 40)) = some y4 := hx 4 _ rfl
  simp only [c3, c26, c32, List.drop_zero, List.take_succ_cons, List.take_zero, List.drop_succ_cons] at h0 h1 h2 h3 h4
  obtain ⟨x0, e0, _, _⟩ := DataW.trod_int Tryz.underlying3 h0
  obtain ⟨x1, e1, _, _⟩ := DataW.trod_int Tryz.underlying3 h1
  obtain ⟨x2, e2, _, _⟩ := DataW.trod_int Tryz.underlying3 h2
  obtain ⟨x3, e3, _, _⟩ := DataW.trod_int Tryz.underlying39 h3
  simp only [List.cons.injEq, and_true] at e0 e1 e2 e3
  subst e0 e1 e2 e3
  obtain ⟨A, len, cap, rfl⟩ : ∃ A len cap, v4 = .slice A len cap := by
    rcases open_slice Tryz.underlying40 h4 with ⟨q, _⟩ | ⟨a, len', cap', m', n', D, Pl, hcs, _⟩
    · simp only [List.cons.injEq, and_true] at q
      exact ⟨_, _, _, q⟩
    · simp only [List.cons.injEq, and_true] at hcs
      exact ⟨_, _, _, hcs⟩
  obtain ⟨ys, hyl, hrow, hcap⟩ := open_row (size := 3) (fun _ (y : Ch) cs => cs = Q.encCh y) Tryz.underlying40 (by kernel_rfl) (by decide) (fun n cs z hz => ch_open n cs z hz) h4
  subst hyl
  exact ⟨⟨x0, x1, x2, x3, A, ys, cap⟩, rfl, chAt_of hrow, hcap⟩
end
theorem opsAt_of {w : World} {A : Option Addr} {l : List ROp} (h : RowR (fun w y cs => cs = encOp y ∧ ChAt w w.heap.size y.la y.l ∧ y.l.length ≤ y.lc) w w.heap.size 5 A l) : OpsAt w w.heap.size A l := by
  intro i x hx
  obtain ⟨b, off, cs, e, hlt, ⟨rfl, h1, h2⟩, _, hc⟩ := h i x hx
  exact ⟨b, off, e, hlt, hc, h1, h2⟩
section
open Go.Deep Go.WideShapes
variable {H : Type} {enc : TypeId × Value → H} {W : World} {base : Nat} {spare : Nat → Bool} {held : Bool}
end
end Go.Proofs.YtdejbinmnoabeaaGreat
namespace Go.Proofs.YtdejbinmnoabeaaGreat
open Go.RowKit Go.Mine Go.Deep
set_option linter.unusedVariables false
set_option linter.unusedSimpArgs false
structure ImgArg where
  A1 : Option Addr
  A2 : Option Addr
  P : List (Int × Int)
  L : List Int
  nx : Int
  c1 : Nat
  c2 : Nat
section
variable {H : Type} {enc : TypeId × Value → H} {w : World} {base : Nat} {spare : Nat → Bool} {held : Bool}
set_option maxRecDepth 100000 in
theorem pair_open (n : Nat) (cs : List Value) (z : DataW H × List MemPlace) (h : DataW.trod enc Tryz.prog w base spare held n 107 cs = some z) : ∃ y : Int × Int, cs = encP y := by
  obtain ⟨xs, m, _, _, hl, hlen, hx⟩ := DataW.trod_struct Tryz.underlying107 h
  have hc : Tryz.prog.cellsOf 107 = 2 := by kernel_rfl
  have c3 : Tryz.prog.cellsOf 3 = 1 := by kernel_rfl
  have c39 : Tryz.prog.cellsOf 39 = 1 := by kernel_rfl
  rw [hc] at hl
  obtain ⟨v0, v1, rfl⟩ : ∃ a b, cs = [a, b] := by
    match cs, hl with
    | [a, b], _ => exact ⟨a, b, rfl⟩
  obtain ⟨y0, y1, rfl⟩ : ∃ a b, xs = [a, b] := by
    match xs, hlen with
    | [a, b], _ => exact ⟨a, b, rfl⟩
  have h0 : DataW.trod enc Tryz.prog w base spare held m 3 (([v0, v1].drop 0).take (Tryz.prog.cellsOf 3)) = some y0 := hx 0 _ rfl
  have h1 : DataW.trod enc Tryz.prog w base spare held m 39 (([v0, v1].drop 1).take (Tryz.prog.cellsOf 39)) = some y1 := hx 1 _ rfl
  simp only [c3, c39, List.drop_zero, List.take_succ_cons, List.take_zero, List.drop_succ_cons] at h0 h1
  obtain ⟨x0, e0, _, _⟩ := DataW.trod_int Tryz.underlying3 h0
  obtain ⟨x1, e1, _, _⟩ := DataW.trod_int Tryz.underlying39 h1
  simp only [List.cons.injEq, and_true] at e0 e1
  subst e0 e1
  exact ⟨(x0, x1), rfl⟩
theorem num_open (n : Nat) (cs : List Value) (z : DataW H × List MemPlace) (h : DataW.trod enc Tryz.prog w base spare held n 39 cs = some z) : ∃ y : Int, cs = [.int .u64 y] := by
  obtain ⟨x0, e0, _, _⟩ := DataW.trod_int Tryz.underlying39 h
  exact ⟨x0, e0⟩
theorem rowAt_of {α : Type} {f : α → List Value} {sz B : Nat} {A : Option Addr} {l : List α} (h : RowR (fun _ y cs => cs = f y) w B sz A l) : Q.RowAt f sz w B A l := by
  intro i x hx
  obtain ⟨b, off, cs, e, hlt, rfl, _, hc⟩ := h i x hx
  exact ⟨b, off, e, hlt, hc⟩
set_option maxRecDepth 100000 in
theorem img_open (n : Nat) (cs : List Value) (z : DataW H × List MemPlace) (h : DataW.trod enc Tryz.prog w base spare held n 58 cs = some z) : ∃ m : ImgArg, cs = [.slice m.A1 m.P.length m.c1, .slice m.A2 m.L.length m.c2, .int .i64 m.nx] ∧ PairAt w w.heap.size m.A1 m.P ∧ UAt w w.heap.size m.A2 m.L ∧ m.P.length ≤ m.c1 ∧ m.L.length ≤ m.c2 := by
  obtain ⟨xs, m, _, _, hl, hlen, hx⟩ := DataW.trod_struct Tryz.underlying58 h
  have hc : Tryz.prog.cellsOf 58 = 3 := by kernel_rfl
  have c3 : Tryz.prog.cellsOf 3 = 1 := by kernel_rfl
  have c56 : Tryz.prog.cellsOf 56 = 1 := by kernel_rfl
  have c52 : Tryz.prog.cellsOf 52 = 1 := by kernel_rfl
  rw [hc] at hl
  obtain ⟨v0, v1, v2, rfl⟩ : ∃ a b c, cs = [a, b, c] := by
    match cs, hl with
    | [a, b, c], _ => exact ⟨a, b, c, rfl⟩
  obtain ⟨y0, y1, y2, rfl⟩ : ∃ a b c, xs = [a, b, c] := by
    match xs, hlen with
    | [a, b, c], _ => exact ⟨a, b, c, rfl⟩
  have h0 : DataW.trod enc Tryz.prog w base spare held m 56 (([v0, v1, v2].drop 0).take (Tryz.prog.cellsOf 56)) = some y0 := hx 0 _ rfl
  have h1 : DataW.trod enc Tryz.prog w base spare held m 52 (([v0, v1, v2].drop 1).take (Tryz.prog.cellsOf 52)) = some y1 := hx 1 _ rfl
  have h2 : DataW.trod enc Tryz.prog w base spare held m 3 (([v0, v1, v2].drop 2).take (Tryz.prog.cellsOf 3)) = some y2 := hx 2 _ rfl
  simp only [c3, c56, c52, List.drop_zero, List.take_succ_cons, List.take_zero, List.drop_succ_cons] at h0 h1 h2
  obtain ⟨x2, e2, _, _⟩ := DataW.trod_int Tryz.underlying3 h2
  simp only [List.cons.injEq, and_true] at e2
  subst e2
  have hsl : ∀ {t : TypeId} {v : Value} {y : DataW H × List MemPlace} {e : TypeId}, Tryz.prog.underlying t = some (.slice e) → DataW.trod enc Tryz.prog w base spare held m t [v] = some y → ∃ A len cap, v = .slice A len cap := fun ht hv => by
    rcases open_slice ht hv with ⟨q, _⟩ | ⟨a, len', cap', m', n', D, Pl, hcs, _⟩
    · simp only [List.cons.injEq, and_true] at q
      exact ⟨_, _, _, q⟩
    · simp only [List.cons.injEq, and_true] at hcs
      exact ⟨_, _, _, hcs⟩
  obtain ⟨A1, len1, cap1, rfl⟩ := hsl Tryz.underlying56 h0
  obtain ⟨A2, len2, cap2, rfl⟩ := hsl Tryz.underlying52 h1
  obtain ⟨P, hP, hrow1, hcap1⟩ := open_row (size := 2) (fun _ (y : Int × Int) cs => cs = encP y) Tryz.underlying56 (by kernel_rfl) (by decide) (fun n cs z hz => pair_open n cs z hz) h0
  obtain ⟨L, hL, hrow2, hcap2⟩ := open_row (size := 1) (fun _ (y : Int) cs => cs = [.int .u64 y]) Tryz.underlying52 (by kernel_rfl) (by decide) (fun n cs z hz => num_open n cs z hz) h1
  subst hP hL
  exact ⟨⟨A1, A2, P, L, x2, cap1, cap2⟩, rfl, rowAt_of hrow1, rowAt_of hrow2, hcap1, hcap2⟩
end
section
open Go.Deep Go.WideShapes
variable {H : Type} {enc : TypeId × Value → H} {W : World} {base : Nat} {spare : Nat → Bool} {held : Bool}
set_option maxRecDepth 100000 in
theorem imgarg_open {r : Reach} {b0 : Nat} {v : Value} {d : DataW H} {p : List MemPlace} (hv : Value.okWide Tryz.prog W r b0 58 v) (h : DataW.Trod enc Tryz.prog W base spare held 58 v d p) :
    ∃ m : ImgArg, v = .agg #[.slice m.A1 m.P.length m.c1, .slice m.A2 m.L.length m.c2, .int .i64 m.nx] ∧ ImgAt W W.heap.size (.agg #[.slice m.A1 m.P.length m.c1, .slice m.A2 m.L.length m.c2, .int .i64 m.nx]) ⟨m.P, m.L, m.nx⟩ := by
  obtain ⟨cs, rfl, hsz⟩ := okWide_struct Tryz.underlying58 hv
  obtain ⟨fuel, hf⟩ := h
  obtain ⟨y, hy, h1, h2, h3, h4⟩ := img_open _ _ _ hf
  have : cs = #[.slice y.A1 y.P.length y.c1, .slice y.A2 y.L.length y.c2, .int .i64 y.nx] := by
    have h5 : (cs.toList) = [.slice y.A1 y.P.length y.c1, .slice y.A2 y.L.length y.c2, .int .i64 y.nx] := by
      rw [← hy]
      simp [Value.cells]
    cases cs
    simp only at h5
    rw [h5]
  subst this
  exact ⟨y, rfl, y.A1, y.c1, y.A2, y.c2, rfl, h1, h2, h3, h4⟩
end
end Go.Proofs.YtdejbinmnoabeaaGreat

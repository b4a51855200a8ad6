/- Walk of trothlaw12.LockLives: it answers true. Condition: the calls' slice reads as its list. -/
import Derived.Test.YtgfiifhnnjammaaLockV
namespace Go.Proofs.Ytgfiifhnnjammaa
open Go.RowKit Go.Mine Go.Proofs.YtgfiifhnnjammaaW.PrintWords
set_option linter.unusedVariables false
set_option linter.unusedSimpArgs false
def BxS (bx : Nat) (x : OpT) (w' : World) : Prop := w'.cell? ⟨bx, 0, none⟩ = some (.int .i64 x.kind) ∧ w'.cell? ⟨bx, 1, none⟩ = some (.int .i64 x.owner) ∧ w'.cell? ⟨bx, 2, none⟩ = some (.int .i64 x.key) ∧ w'.cell? ⟨bx, 3, none⟩ = some (.bool x.alone)
theorem BxS.of {bx : Nat} {x : OpT} {w' : World} (h : w'.heap[bx]? = some (.cells #[.int .i64 x.kind, .int .i64 x.owner, .int .i64 x.key, .bool x.alone] 40 (0, 0))) : BxS bx x w' :=
  ⟨by rw [cell_of_row _ _ 0 _ _ _ h]; rfl, by rw [cell_of_row _ _ 1 _ _ _ h]; rfl, by rw [cell_of_row _ _ 2 _ _ _ h]; rfl, by rw [cell_of_row _ _ 3 _ _ _ h]; rfl⟩
def EvS (bx : Nat) (ow : Int) (w0 : World) (F : Nat → Prop) (b0 b1 : Nat) (v : Value) (A : LTab) (w' : World) : Prop := w'.cell? ⟨b1, 0, none⟩ = some v ∧ LS w0 w' F b0 b1 v A A
theorem evS_step {bx : Nat} {ow : Int} {w0 w1 w2 : World} {F : Nat → Prop} {b0 b1 : Nat} {v : Value} {A : LTab} (hb : Below w1.heap.size w1 w2) (h : w1.cell? ⟨bx, 1, none⟩ = some (.int .i64 ow) ∧ w1.cell? ⟨b1, 0, none⟩ = some v ∧ LS w0 w1 F b0 b1 v A A) : w2.cell? ⟨bx, 1, none⟩ = some (.int .i64 ow) ∧ w2.cell? ⟨b1, 0, none⟩ = some v ∧ LS w0 w2 F b0 b1 v A A :=
  ⟨cell_step h.1 hb, cell_step h.2.1 hb, h.2.2.below hb⟩
attribute [local go_sem] yielded_undef in
set_option maxRecDepth 100000 in
set_option maxHeartbeats 8000000 in
theorem lives_any (A : Option Addr) (l : List OpT) (cap : Nat) (w : World) (hl : OpsAt w w.heap.size A l) (hcap : l.length ≤ 1000000000000000000) :
    Calls Try.prog 5 #[.slice A l.length cap] w fun e w' => e = .returned (.bool true) ∧ Below w.heap.size w w' := by
  go_enter Try.func5, Try.ntmps5
  go_wp2_with fail
  refine (new_any w).mono ?_
  rintro e w1 ⟨rfl, rfl⟩
  have hw1 : Below w.heap.size w (w.alloc (.cells #[.map none] 49)) := (Below.refl _ _).alloc (Nat.le_refl _) _
  have t1 := (Tbl.made w).bound
  have hs1 : (w.alloc (.cells #[.map none] 49)).heap.size = w.heap.size + 1 := by simp
  generalize w.alloc (.cells #[.map none] 49) = w1 at *
  have hw2 : Below w1.heap.size w1 (w1.alloc (.cells #[.slice none 0 0] 38)) := (Below.refl _ _).alloc (Nat.le_refl _) _
  have hx2 : (w1.alloc (.cells #[.slice none 0 0] 38)).heap[w1.heap.size]? = some (.cells #[.slice none 0 0] 38 (0, 0)) := (MapKept.heap_alloc w1 _).1
  have hls : LS w (w1.alloc (.cells #[.slice none 0 0] 38)) (fun i => w.heap.size ≤ i ∧ i < w1.heap.size) w.heap.size w1.heap.size (.slice none 0 0) [] [] := by
    refine ⟨t1.below hw2, ⟨hx2, Kd.R_nil _ _ _ _ _⟩, fun i hi => ⟨Nat.lt_of_lt_of_le hi.2 hw2.size, hi.1, by omega, by simp [Value.ownBlock]⟩, by omega, fun k hk => by simp [Value.ownBlock] at hk, hw1.trans (hw2.mono hw1.size)⟩
  have HLS := hid hls
  clear hls hx2 hw2 t1 hw1 hs1
  go_wp2_with fail
  generalize w1.alloc (.cells #[.slice none 0 0] 38) = w2 at *
  generalize hb0 : w.heap.size = b0 at *
  generalize hb1 : w1.heap.size = b1 at *
  go_loopg [5] 101 (fun m v wr => ∃ (i : Nat) (F : Nat → Prop) (u : Value) (T : LTab), v = .int .i64 i ∧ i ≤ l.length ∧ i ≤ 100 ∧ m = 101 - i ∧ LS w wr F b0 b1 u T T ∧ Right T)
  case atStart => exact ⟨0, _, _, [], rfl, Nat.zero_le _, Nat.zero_le _, rfl, HLS.out, Right.nil⟩
  case round =>
    obtain ⟨i, F, u, T, rfl, hi1, hi2, hm, hls, hrt⟩ := hrel
    have HN := hid hm
    have HL := hid hls
    have HR := hid hrt
    clear hm hls hrt HLS
    by_cases h1 : i < l.length ∧ (i : Int) < 100
    · obtain ⟨h1, h2'⟩ := h1
      obtain ⟨⟨kd, ow, ky, al⟩, hx⟩ : ∃ x, l[i]? = some x := ⟨_, List.getElem?_eq_getElem h1⟩
      have hbw := HL.out.2.2.2.2.2
      obtain ⟨b, off, rfl, hb, hc⟩ := (hl.below (by rw [← hb0]; exact hbw)) i _ hx
      have k0 : wr.cell? ⟨b, off + i * 4, none⟩ = some (.int .i64 kd) := hc 0 _ rfl
      have k1 := hc 1 _ rfl
      have k2 := hc 2 _ rfl
      have k3 := hc 3 _ rfl
      have hba : Below wr.heap.size wr (wr.alloc (.cells #[.int .i64 kd, .int .i64 ow, .int .i64 ky, .bool al] 40)) := (Below.refl _ _).alloc (Nat.le_refl _) _
      have hbx : (wr.alloc (.cells #[.int .i64 kd, .int .i64 ow, .int .i64 ky, .bool al] 40)).heap[wr.heap.size]? = some (.cells #[.int .i64 kd, .int .i64 ow, .int .i64 ky, .bool al] 40 (0, 0)) := (MapKept.heap_alloc wr _).1
      have hfb : ¬ F wr.heap.size ∧ wr.heap.size ≠ b1 := ⟨fun q => by have := (HL.out.2.2.1 _ q).1; omega, fun q => by have := HL.out.2.1.lt; omega⟩
      have HLA := hid (HL.out.below hba)
      have HBX := hid hbx
      have HFB := hid hfb
      have hsz : (wr.alloc (.cells #[.int .i64 kd, .int .i64 ow, .int .i64 ky, .bool al] 40)).heap.size = wr.heap.size + 1 := by simp
      have HSZ := hid hsz
      clear hc hx hba hbx hfb hbw hsz
      cases hk0 : (kd == 0)
      · cases hk1 : (kd == 1)
        · go_wp2_with fail
          generalize wr.alloc (.cells #[.int .i64 kd, .int .i64 ow, .int .i64 ky, .bool al] 40) = wa at *
          generalize wr.heap.size = bx at *
          have hbs := BxS.of (x := ⟨kd, ow, ky, al⟩) HBX.out
          obtain ⟨e0, e1, e2, e3⟩ := hbs
          go_quiet (fail)
          go_wp2_with fail
          have HLZ := hid (HLA.out.below (bdn wa nq))
          have HXZ : Hid ((wa.drewN nq).heap[bx]? = some (.cells #[.int .i64 kd, .int .i64 ow, .int .i64 ky, .bool al] 40 (0, 0))) := HBX
          have HRZ := HR
          clear HLA HBX e0 e1 e2 e3
          generalize wa.drewN nq = wz at *
          generalize F = F2 at *
          generalize T = T2 at *

          obtain ⟨A', c, hv, hAc, _⟩ := HLZ.out.2.1.2.at_
          subst hv
          have hlen := HRZ.out.len
          have hkl : (sorted (keysA ow T2)).length ≤ 1000000 := by
            rw [(sorted_perm _).length_eq, keysA, List.length_map]
            exact Nat.le_trans (List.length_filter_le _ _) (by omega)
          have hbs := BxS.of (x := ⟨kd, ow, ky, al⟩) HXZ.out
          have k1' : wz.cell? ⟨bx, 1, none⟩ = some (.int .i64 ow) := hbs.2.1
          have k2' : wz.cell? ⟨bx, 2, none⟩ = some (.int .i64 ky) := hbs.2.2.1
          have hk' : ∀ w', LS w w' F2 b0 b1 (.slice A' T2.length c) T2 T2 → Calls Try.prog 20 #[.pointer (some ⟨b0, 0, none⟩), .int .i64 ow] w' fun e w'' => ∃ A5 c5, e = .returned (.slice A5 (sorted (keysA ow T2)).length c5) ∧ IntsAt w'' w''.heap.size A5 (sorted (keysA ow T2)) ∧ Below w'.heap.size w' w'' := fun w' h => held_t h.1 (by omega) ow
          have hk2' : ∀ w', LS w w' F2 b0 b1 (.slice A' T2.length c) T2 T2 → Calls Try.prog 21 #[.pointer (some ⟨b1, 0, none⟩), .int .i64 ow] w' fun e w'' => ∃ A5 c5, e = .returned (.slice A5 (sorted (keysA ow T2)).length c5) ∧ IntsAt w'' w''.heap.size A5 (sorted (keysA ow T2)) ∧ Below w'.heap.size w' w'' := fun w' h => ref_held h.2.1 HRZ.out ow
          have hrh := ref_holds HLZ.out.2.1 HRZ.out ow ky
          have hh := holds_k HLZ.out.1 ow ky
          generalize sorted (keysA ow T2) = ks at *
          generalize (aget (ky, ow) T2).isSome = q1 at *
          generalize (aget (ky, ow) T2).getD false = q2 at *
          have HK1 := hid hk'
          have HK2 := hid hk2'
          have HRH := hid hrh
          have HHO := hid hh
          have d1 : (q1 != q1) = false := by simp
          have d2 : (q2 != q2) = false := by simp
          have d3 : ((T2.length : Int) != (T2.length : Int)) = false := by simp
          have hS0 : wz.cell? ⟨bx, 1, none⟩ = some (.int .i64 ow) ∧ wz.cell? ⟨b1, 0, none⟩ = some (.slice A' T2.length c) ∧ LS w wz F2 b0 b1 (.slice A' T2.length c) T2 T2 := ⟨k1', HLZ.out.2.1.cell, HLZ.out⟩
          have HS0 := hid hS0
          clear hk' hk2' hrh hh hbs hS0
          refine HHO.out.mono ?_
          rintro e w8 ⟨rfl, rfl⟩
          go_wp2_with fail
          refine HRH.out.mono ?_
          rintro e w9 ⟨rfl, nq2, hq⟩
          subst hq
          have hS : (wz.drewN nq2).cell? ⟨bx, 1, none⟩ = some (.int .i64 ow) ∧ (wz.drewN nq2).cell? ⟨b1, 0, none⟩ = some (.slice A' T2.length c) ∧ LS w (wz.drewN nq2) F2 b0 b1 (.slice A' T2.length c) T2 T2 := evS_step (bdn wz nq2) HS0.out
          have HS := hid hS
          clear hS
          go_wp2_with fail
          have hS := HS.out
          generalize wz.drewN nq2 = wy at *
          clear k1' k2' HS HS0 HLZ HXZ HHO HRH
          go_region_held3 (fun w' => w'.cell? ⟨bx, 1, none⟩ = some (.int .i64 ow) ∧ w'.cell? ⟨b1, 0, none⟩ = some (.slice A' T2.length c) ∧ LS w w' F2 b0 b1 (.slice A' T2.length c) T2 T2) (first | exact evS_step (bd1 _) (by assumption) | exact evS_step (bdn _ _) (by assumption) | exact evS_step (by assumption) (by assumption) | assumption) (first
            | (go_at_call 13; refine (len_k ((by assumption : _ ∧ _ ∧ LS w _ F2 b0 b1 (.slice A' T2.length c) T2 T2).2.2.1)).mono ?_; rintro e w6 ⟨rfl, rfl⟩)
            | (go_at_call 20; refine (HK1.out _ ((by assumption : _ ∧ _ ∧ LS w _ F2 b0 b1 (.slice A' T2.length c) T2 T2).2.2)).mono ?_; rintro e w7 ⟨A7, c7, rfl, hi7, f7⟩)
            | (go_at_call 21; refine (HK2.out _ ((by assumption : _ ∧ _ ∧ LS w _ F2 b0 b1 (.slice A' T2.length c) T2 T2).2.2)).mono ?_; rintro e w8 ⟨A8, c8, rfl, hi8, f8⟩)
            | (go_at_call 19; refine (ints_same _ _ _ _ _ _ (hi7.below f8) hi8 hkl).mono ?_; rintro e w9 ⟨rfl, n9, rfl⟩))
          all_goals
            go_wp2_with fail
            go_roundg (101 - (i + 1))
            case measure => rw [HN.out]; omega
            case rel => exact ⟨i + 1, F2, _, T2, by go_num, by omega, by omega, rfl, (by assumption : _ ∧ _ ∧ LS w _ F2 b0 b1 (.slice A' T2.length c) T2 T2).2.2, HRZ.out⟩
        · have hkd : kd = 1 := by simpa using hk1
          subst hkd
          clear hk1 hk0
          go_wp2_with fail
          generalize wr.alloc (.cells #[.int .i64 1, .int .i64 ow, .int .i64 ky, .bool al] 40) = wa at *
          generalize wr.heap.size = bx at *
          have hbs := BxS.of (x := ⟨1, ow, ky, al⟩) HBX.out
          obtain ⟨e0, e1, e2, e3⟩ := hbs
          go_quiet (fail)
          go_wp2_with fail
          have HL1 := hid (HLA.out.below (bdn wa nq))
          have HX1 : Hid ((wa.drewN nq).heap[bx]? = some (.cells #[.int .i64 1, .int .i64 ow, .int .i64 ky, .bool al] 40 (0, 0))) := HBX
          have hlt := HR.out.len
          clear HLA HBX e0 e1 e2 e3
          generalize wa.drewN nq = wb at *
          refine (drop_t HL1.out.1 (by omega) ow).mono ?_
          rintro e w5 ⟨rfl, T5, f5⟩
          have HL5 := hid (HL1.out.one (T5.mono (fun _ q => .inl q)) f5)
          have HX5 := hid (f5.at_ HX1.out HFB.out.1)
          have e1 : w5.cell? ⟨bx, 1, none⟩ = some (.int .i64 ow) := (BxS.of (x := ⟨1, ow, ky, al⟩) HX5.out).2.1
          have dn : ((dropNA ow T : Int) != (dropNA ow T : Int)) = false := by simp
          have HRD := hid (ref_drop HL5.out.2.1 (by omega) ow)
          have HRT := hid (HR.out.drop ow)
          clear T5 f5
          generalize dropNA ow T = dna at *
          generalize dropA ow T = T' at *
          go_wp2_with fail
          refine HRD.out.mono ?_
          rintro e w6 ⟨rfl, v6, RT6, ho6, f6⟩
          have HL6 := hid (HL5.out.two RT6 (fun j hj => .inr (ho6 j hj)) f6)
          have HX6 := hid (f6.at_ HX5.out HFB.out.2)
          have e1' : w6.cell? ⟨bx, 1, none⟩ = some (.int .i64 ow) := (BxS.of (x := ⟨1, ow, ky, al⟩) HX6.out).2.1
          have e2' : w6.cell? ⟨bx, 2, none⟩ = some (.int .i64 ky) := (BxS.of (x := ⟨1, ow, ky, al⟩) HX6.out).2.2.1
          clear RT6 ho6 f6
          go_wp2_with fail
          have HLZ := HL6
          have HXZ := HX6
          have HRZ := HRT
          clear HL5 HX5 HL1 HX1 e1 e1' e2' HRD HRT
          generalize (fun i => grow F wb i ∧ i < w5.heap.size) = F2 at *
          generalize w6 = wz at *
          generalize T' = T2 at *

          obtain ⟨A', c, hv, hAc, _⟩ := HLZ.out.2.1.2.at_
          subst hv
          have hlen := HRZ.out.len
          have hkl : (sorted (keysA ow T2)).length ≤ 1000000 := by
            rw [(sorted_perm _).length_eq, keysA, List.length_map]
            exact Nat.le_trans (List.length_filter_le _ _) (by omega)
          have hbs := BxS.of (x := ⟨1, ow, ky, al⟩) HXZ.out
          have k1' : wz.cell? ⟨bx, 1, none⟩ = some (.int .i64 ow) := hbs.2.1
          have k2' : wz.cell? ⟨bx, 2, none⟩ = some (.int .i64 ky) := hbs.2.2.1
          have hk' : ∀ w', LS w w' F2 b0 b1 (.slice A' T2.length c) T2 T2 → Calls Try.prog 20 #[.pointer (some ⟨b0, 0, none⟩), .int .i64 ow] w' fun e w'' => ∃ A5 c5, e = .returned (.slice A5 (sorted (keysA ow T2)).length c5) ∧ IntsAt w'' w''.heap.size A5 (sorted (keysA ow T2)) ∧ Below w'.heap.size w' w'' := fun w' h => held_t h.1 (by omega) ow
          have hk2' : ∀ w', LS w w' F2 b0 b1 (.slice A' T2.length c) T2 T2 → Calls Try.prog 21 #[.pointer (some ⟨b1, 0, none⟩), .int .i64 ow] w' fun e w'' => ∃ A5 c5, e = .returned (.slice A5 (sorted (keysA ow T2)).length c5) ∧ IntsAt w'' w''.heap.size A5 (sorted (keysA ow T2)) ∧ Below w'.heap.size w' w'' := fun w' h => ref_held h.2.1 HRZ.out ow
          have hrh := ref_holds HLZ.out.2.1 HRZ.out ow ky
          have hh := holds_k HLZ.out.1 ow ky
          generalize sorted (keysA ow T2) = ks at *
          generalize (aget (ky, ow) T2).isSome = q1 at *
          generalize (aget (ky, ow) T2).getD false = q2 at *
          have HK1 := hid hk'
          have HK2 := hid hk2'
          have HRH := hid hrh
          have HHO := hid hh
          have d1 : (q1 != q1) = false := by simp
          have d2 : (q2 != q2) = false := by simp
          have d3 : ((T2.length : Int) != (T2.length : Int)) = false := by simp
          have hS0 : wz.cell? ⟨bx, 1, none⟩ = some (.int .i64 ow) ∧ wz.cell? ⟨b1, 0, none⟩ = some (.slice A' T2.length c) ∧ LS w wz F2 b0 b1 (.slice A' T2.length c) T2 T2 := ⟨k1', HLZ.out.2.1.cell, HLZ.out⟩
          have HS0 := hid hS0
          clear hk' hk2' hrh hh hbs hS0
          refine HHO.out.mono ?_
          rintro e w8 ⟨rfl, rfl⟩
          go_wp2_with fail
          refine HRH.out.mono ?_
          rintro e w9 ⟨rfl, nq2, hq⟩
          subst hq
          have hS : (wz.drewN nq2).cell? ⟨bx, 1, none⟩ = some (.int .i64 ow) ∧ (wz.drewN nq2).cell? ⟨b1, 0, none⟩ = some (.slice A' T2.length c) ∧ LS w (wz.drewN nq2) F2 b0 b1 (.slice A' T2.length c) T2 T2 := evS_step (bdn wz nq2) HS0.out
          have HS := hid hS
          clear hS
          go_wp2_with fail
          have hS := HS.out
          generalize wz.drewN nq2 = wy at *
          clear k1' k2' HS HS0 HLZ HXZ HHO HRH
          go_region_held3 (fun w' => w'.cell? ⟨bx, 1, none⟩ = some (.int .i64 ow) ∧ w'.cell? ⟨b1, 0, none⟩ = some (.slice A' T2.length c) ∧ LS w w' F2 b0 b1 (.slice A' T2.length c) T2 T2) (first | exact evS_step (bd1 _) (by assumption) | exact evS_step (bdn _ _) (by assumption) | exact evS_step (by assumption) (by assumption) | assumption) (first
            | (go_at_call 13; refine (len_k ((by assumption : _ ∧ _ ∧ LS w _ F2 b0 b1 (.slice A' T2.length c) T2 T2).2.2.1)).mono ?_; rintro e w6 ⟨rfl, rfl⟩)
            | (go_at_call 20; refine (HK1.out _ ((by assumption : _ ∧ _ ∧ LS w _ F2 b0 b1 (.slice A' T2.length c) T2 T2).2.2)).mono ?_; rintro e w7 ⟨A7, c7, rfl, hi7, f7⟩)
            | (go_at_call 21; refine (HK2.out _ ((by assumption : _ ∧ _ ∧ LS w _ F2 b0 b1 (.slice A' T2.length c) T2 T2).2.2)).mono ?_; rintro e w8 ⟨A8, c8, rfl, hi8, f8⟩)
            | (go_at_call 19; refine (ints_same _ _ _ _ _ _ (hi7.below f8) hi8 hkl).mono ?_; rintro e w9 ⟨rfl, n9, rfl⟩))
          all_goals
            go_wp2_with fail
            go_roundg (101 - (i + 1))
            case measure => rw [HN.out]; omega
            case rel => exact ⟨i + 1, F2, _, T2, by go_num, by omega, by omega, rfl, (by assumption : _ ∧ _ ∧ LS w _ F2 b0 b1 (.slice A' T2.length c) T2 T2).2.2, HRZ.out⟩
      · have hkd : kd = 0 := by simpa using hk0
        subst hkd
        clear hk0
        go_wp2_with fail
        generalize wr.alloc (.cells #[.int .i64 0, .int .i64 ow, .int .i64 ky, .bool al] 40) = wa at *
        generalize wr.heap.size = bx at *
        have hbs : BxS bx ⟨0, ow, ky, al⟩ wa.drew := BxS.of (x := ⟨0, ow, ky, al⟩) HBX.out
        have hna : ∃ (en : Int) (T' : LTab), takeA T ow ky al = (en, T') := ⟨_, _, rfl⟩
        obtain ⟨en, T', hna⟩ := hna
        have ht := take_t (HLA.out.below (bd1 wa)).1 ow ky al
        have hrr := HR.out.take ow ky al
        rw [hna] at ht hrr
        have HTK := hid ht
        have HRR := hid hrr
        have HNA := hid hna
        have dn : (en != en) = false := by simp
        clear ht hrr hna
        go_region_held3 (fun w' => w'.cell? ⟨bx, 0, none⟩ = some (.int .i64 0) ∧ w'.cell? ⟨bx, 1, none⟩ = some (.int .i64 ow) ∧ w'.cell? ⟨bx, 2, none⟩ = some (.int .i64 ky) ∧ w'.cell? ⟨bx, 3, none⟩ = some (.bool al)) (first | exact ⟨hbs.1, hbs.2.1, hbs.2.2.1, hbs.2.2.2⟩ | assumption) (first
          | (go_at_call 12; refine HTK.out.mono ?_; rintro e w5 ⟨rfl, T5, f5⟩; have HL5 := hid ((HLA.out.below (bd1 wa)).one T5 f5); have hx5 := f5.at_ HBX.out HFB.out.1; have hbs5 : BxS bx ⟨0, ow, ky, al⟩ w5 := BxS.of (x := ⟨0, ow, ky, al⟩) hx5; have HX5 := hid hx5; clear T5 f5 hx5)
          | (go_at_call 15; refine (ref_take HL5.out.2.1 HR.out ow ky al).mono ?_; rintro e w6 ⟨rfl, v6, RT6, ho6, f6⟩; rw [HNA.out] at RT6; have HL6 := hid (HL5.out.two RT6 ho6 f6); have hx6 := f6.at_ HX5.out HFB.out.2; have hbs6 : BxS bx ⟨0, ow, ky, al⟩ w6 := BxS.of (x := ⟨0, ow, ky, al⟩) hx6; have HX6 := hid hx6; rw [HNA.out]; clear RT6 ho6 f6 hx6))
        all_goals
          go_wp2_with fail
          have HLZ := HL6
          have HXZ := HX6
          have HRZ : Hid (Right T') := HRR
          clear HL5 HX5 HLA HBX HSZ HTK HNA hbs5 hbs6 HRR
          generalize (fun i => grow F wa.drew i ∧ i < w5.heap.size) = F2 at *
          generalize w6 = wz at *
          generalize T' = T2 at *

          obtain ⟨A', c, hv, hAc, _⟩ := HLZ.out.2.1.2.at_
          subst hv
          have hlen := HRZ.out.len
          have hkl : (sorted (keysA ow T2)).length ≤ 1000000 := by
            rw [(sorted_perm _).length_eq, keysA, List.length_map]
            exact Nat.le_trans (List.length_filter_le _ _) (by omega)
          have hbs := BxS.of (x := ⟨0, ow, ky, al⟩) HXZ.out
          have k1' : wz.cell? ⟨bx, 1, none⟩ = some (.int .i64 ow) := hbs.2.1
          have k2' : wz.cell? ⟨bx, 2, none⟩ = some (.int .i64 ky) := hbs.2.2.1
          have hk' : ∀ w', LS w w' F2 b0 b1 (.slice A' T2.length c) T2 T2 → Calls Try.prog 20 #[.pointer (some ⟨b0, 0, none⟩), .int .i64 ow] w' fun e w'' => ∃ A5 c5, e = .returned (.slice A5 (sorted (keysA ow T2)).length c5) ∧ IntsAt w'' w''.heap.size A5 (sorted (keysA ow T2)) ∧ Below w'.heap.size w' w'' := fun w' h => held_t h.1 (by omega) ow
          have hk2' : ∀ w', LS w w' F2 b0 b1 (.slice A' T2.length c) T2 T2 → Calls Try.prog 21 #[.pointer (some ⟨b1, 0, none⟩), .int .i64 ow] w' fun e w'' => ∃ A5 c5, e = .returned (.slice A5 (sorted (keysA ow T2)).length c5) ∧ IntsAt w'' w''.heap.size A5 (sorted (keysA ow T2)) ∧ Below w'.heap.size w' w'' := fun w' h => ref_held h.2.1 HRZ.out ow
          have hrh := ref_holds HLZ.out.2.1 HRZ.out ow ky
          have hh := holds_k HLZ.out.1 ow ky
          generalize sorted (keysA ow T2) = ks at *
          generalize (aget (ky, ow) T2).isSome = q1 at *
          generalize (aget (ky, ow) T2).getD false = q2 at *
          have HK1 := hid hk'
          have HK2 := hid hk2'
          have HRH := hid hrh
          have HHO := hid hh
          have d1 : (q1 != q1) = false := by simp
          have d2 : (q2 != q2) = false := by simp
          have d3 : ((T2.length : Int) != (T2.length : Int)) = false := by simp
          have hS0 : wz.cell? ⟨bx, 1, none⟩ = some (.int .i64 ow) ∧ wz.cell? ⟨b1, 0, none⟩ = some (.slice A' T2.length c) ∧ LS w wz F2 b0 b1 (.slice A' T2.length c) T2 T2 := ⟨k1', HLZ.out.2.1.cell, HLZ.out⟩
          have HS0 := hid hS0
          clear hk' hk2' hrh hh hbs hS0
          refine HHO.out.mono ?_
          rintro e w8 ⟨rfl, rfl⟩
          go_wp2_with fail
          refine HRH.out.mono ?_
          rintro e w9 ⟨rfl, nq2, hq⟩
          subst hq
          have hS : (wz.drewN nq2).cell? ⟨bx, 1, none⟩ = some (.int .i64 ow) ∧ (wz.drewN nq2).cell? ⟨b1, 0, none⟩ = some (.slice A' T2.length c) ∧ LS w (wz.drewN nq2) F2 b0 b1 (.slice A' T2.length c) T2 T2 := evS_step (bdn wz nq2) HS0.out
          have HS := hid hS
          clear hS
          go_wp2_with fail
          have hS := HS.out
          generalize wz.drewN nq2 = wy at *
          clear k1' k2' HS HS0 HLZ HXZ HHO HRH
          go_region_held3 (fun w' => w'.cell? ⟨bx, 1, none⟩ = some (.int .i64 ow) ∧ w'.cell? ⟨b1, 0, none⟩ = some (.slice A' T2.length c) ∧ LS w w' F2 b0 b1 (.slice A' T2.length c) T2 T2) (first | exact evS_step (bd1 _) (by assumption) | exact evS_step (bdn _ _) (by assumption) | exact evS_step (by assumption) (by assumption) | assumption) (first
            | (go_at_call 13; refine (len_k ((by assumption : _ ∧ _ ∧ LS w _ F2 b0 b1 (.slice A' T2.length c) T2 T2).2.2.1)).mono ?_; rintro e w6 ⟨rfl, rfl⟩)
            | (go_at_call 20; refine (HK1.out _ ((by assumption : _ ∧ _ ∧ LS w _ F2 b0 b1 (.slice A' T2.length c) T2 T2).2.2)).mono ?_; rintro e w7 ⟨A7, c7, rfl, hi7, f7⟩)
            | (go_at_call 21; refine (HK2.out _ ((by assumption : _ ∧ _ ∧ LS w _ F2 b0 b1 (.slice A' T2.length c) T2 T2).2.2)).mono ?_; rintro e w8 ⟨A8, c8, rfl, hi8, f8⟩)
            | (go_at_call 19; refine (ints_same _ _ _ _ _ _ (hi7.below f8) hi8 hkl).mono ?_; rintro e w9 ⟨rfl, n9, rfl⟩))
          all_goals
            go_wp2_with fail
            go_roundg (101 - (i + 1))
            case measure => rw [HN.out]; omega
            case rel => exact ⟨i + 1, F2, _, T2, by go_num, by omega, by omega, rfl, (by assumption : _ ∧ _ ∧ LS w _ F2 b0 b1 (.slice A' T2.length c) T2 T2).2.2, HRZ.out⟩
    · go_wp2_with fail
      all_goals
        refine (alive_any _).mono ?_
        rintro e w9 ⟨rfl, f9⟩
        go_wp2_with fail
        go_ret
        exact ⟨rfl, (HL.out.2.2.2.2.2).trans (f9.mono HL.out.2.2.2.2.2.size)⟩
end Go.Proofs.Ytgfiifhnnjammaa

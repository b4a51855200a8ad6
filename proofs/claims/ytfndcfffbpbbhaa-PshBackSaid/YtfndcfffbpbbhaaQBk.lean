/- What the print of the translation gave for functions of this seat: for each a plain function and the proof that the call does what it says. -/
import Derived.Test.YtfndcfffbpbbhaaQx0
import Derived.Test.YtfndcfffbpbbhaaQHand
import Derived.Test.YtfndcfffbpbbhaaQReadZ
import Derived.Test.YtfndcfffbpbbhaaQx2
import Derived.Test.YtfndcfffbpbbhaaQx3
import Derived.Test.YtfndcfffbpbbhaaQx10
import Derived.Test.YtfndcfffbpbbhaaQx11
namespace Go.Proofs.Ytfndcfffbpbbhaa.Q
open Go.RowKit Go.Proofs.YtfndcfffbpbbhaaW.PrintWords Go.Proofs.YtfndcfffbpbbhaaW.PrintLast Go.Proofs.YtfndcfffbpbbhaaW.PrintMore
attribute [local go_sem] max2_int min2_int max_two min_two max_three min_three max_four min_four   -- for this text's walks alone
set_option linter.unusedVariables false
set_option linter.unusedSimpArgs false

attribute [local go_sem high] eqA26
/-! ### trothlaw06_PshBack: function 5 -/
def trothlaw06_PshBack.j0 : Nat → List Int → Option (Bool)
  | 0, _ => none
  | k + 1, x1 => (psh_Read.f x1).bind fun bt414 => (if bt414.2.2.2.2.2.2.2 = 0 then ((psh_Write.f bt414.1 bt414.2.1 bt414.2.2.1 bt414.2.2.2.1 bt414.2.2.2.2.1 bt414.2.2.2.2.2.1 bt414.2.2.2.2.2.2.1).bind fun bt423 => ((trothlaw06_alive.f).bind fun t427 => (if t427 = true then (if bt423.2 = 0 then (if (strOfNums bt423.1).toList = (strOfNums x1).toList then ((psh_Name.f bt414.1).bind fun t428 => (some (t428.toList != ([] : List UInt8)))) else (some false)) else (some false)) else (some false)))) else ((trothlaw06_alive.f).bind fun t429 => (if t429 = true then (some (bt414.1 == 0 && ((bt414.2.1 == 0 && (bt414.2.2.1 == 0 && (bt414.2.2.2.1 == 0))) && (!bt414.2.2.2.2.1 && (bt414.2.2.2.2.2.1 == 0 && (bt414.2.2.2.2.2.2.1 == 0)))))) else (some false))))
def trothlaw06_PshBack.f (k : Nat) (a0_0 : Int) (a0_1 : Int) (a0_2 : Int) (a0_3 : Int) (a0_4 : Bool) (a0_5 : Int) (a0_6 : Int) (l1 : List Int) : Option (Bool) := if (l1.length : Int) > 3000 then ((trothlaw06_alive.f).bind fun t399 => (some t399)) else ((psh_Write.f a0_0 a0_1 a0_2 a0_3 a0_4 a0_5 a0_6).bind fun bt400 => (if bt400.2 = 0 then ((psh_Read.f bt400.1).bind fun bt404 => (if bt404.2.2.2.2.2.2.2 = 0 then (if (!(bt404.1 == a0_0) || ((!(bt404.2.1 == a0_1) || (!(bt404.2.2.1 == a0_2) || (!(bt404.2.2.2.1 == a0_3)))) || (!(bt404.2.2.2.2.1 == a0_4) || (!(bt404.2.2.2.2.2.1 == a0_5) || (!(bt404.2.2.2.2.2.2.1 == a0_6)))))) = true then (some false) else ((psh_Right.f a0_0 a0_1 a0_2 a0_3 a0_4 a0_5 a0_6).bind fun t413 => (if t413 = true then (trothlaw06_PshBack.j0 k l1) else (some false)))) else (some false))) else (trothlaw06_PshBack.j0 k l1)))
theorem trothlaw06_PshBack.mono_l : ∀ k, (∀ y0, LeO (trothlaw06_PshBack.j0 k y0) (trothlaw06_PshBack.j0 (k + 1) y0))
  | 0 => fun _ r h => by simp [trothlaw06_PshBack.j0] at h
  | k + 1 => by
    have ih0 := trothlaw06_PshBack.mono_l k
    · intro y0
      unfold trothlaw06_PshBack.j0
      repeat' first
      | (with_reducible exact ih0 _)
      | (with_reducible exact LeO.refl _)
      | (with_reducible exact LeO.none _)
      | (with_reducible refine LeO.ite ?_ ?_)
      | (with_reducible refine LeO.bind ?_ (fun _ => ?_))
      | exact ih0 _
      | exact LeO.none _
      | refine LeO.ite ?_ ?_
      | refine LeO.bind ?_ (fun _ => ?_)
theorem trothlaw06_PshBack.mono : ∀ a0 a1 a2 a3 a4 a5 a6 a7 k, LeO (trothlaw06_PshBack.f k a0 a1 a2 a3 a4 a5 a6 a7) (trothlaw06_PshBack.f (k + 1) a0 a1 a2 a3 a4 a5 a6 a7) := by
  intro a0 a1 a2 a3 a4 a5 a6 a7 k
  have ih0 := trothlaw06_PshBack.mono_l k
  unfold trothlaw06_PshBack.f
  repeat' first
      | (with_reducible exact ih0 _)
      | (with_reducible exact LeO.refl _)
      | (with_reducible exact LeO.none _)
      | (with_reducible refine LeO.ite ?_ ?_)
      | (with_reducible refine LeO.bind ?_ (fun _ => ?_))
      | exact ih0 _
      | exact LeO.none _
      | refine LeO.ite ?_ ?_
      | refine LeO.bind ?_ (fun _ => ?_)
set_option maxHeartbeats 8000000 in
set_option maxRecDepth 100000 in
theorem trothlaw06_PshBack.calls (k : Nat) (a0_0 : Int) (a0_1 : Int) (a0_2 : Int) (a0_3 : Int) (a0_4 : Bool) (a0_5 : Int) (a0_6 : Int) (A1 : Option Addr) (c1 : Nat) (l1 : List Int) (r : Bool) (w : World) (hr1 : Kd.C (Kd.int .u8) w A1 l1.length l1) (hc1 : l1.length ≤ c1) (hrt : r = true) (h : trothlaw06_PshBack.f k a0_0 a0_1 a0_2 a0_3 a0_4 a0_5 a0_6 l1 = some r) :
    Calls Try.prog 5 #[.agg #[.int .i64 a0_0, .int .i64 a0_1, .int .u32 a0_2, .int .u32 a0_3, .bool a0_4, .int .u32 a0_5, .int .u32 a0_6], .slice A1 l1.length c1] w fun e w' => e = .returned (.bool r) ∧ Below w.heap.size w w' := by
  have hu26 := Try.underlying26
  have HR1 := Aside0.mk hr1
  have HC1 := Aside0.mk hc1
  clear hr1 hc1
  have HB := Aside0.mk (Below.refl w.heap.size w)
  have H : (if (l1.length : Int) > 3000 then ((trothlaw06_alive.f).bind fun t399 => (some t399)) else ((psh_Write.f a0_0 a0_1 a0_2 a0_3 a0_4 a0_5 a0_6).bind fun bt400 => (if bt400.2 = 0 then ((psh_Read.f bt400.1).bind fun bt404 => (if bt404.2.2.2.2.2.2.2 = 0 then (if (!(bt404.1 == a0_0) || ((!(bt404.2.1 == a0_1) || (!(bt404.2.2.1 == a0_2) || (!(bt404.2.2.2.1 == a0_3)))) || (!(bt404.2.2.2.2.1 == a0_4) || (!(bt404.2.2.2.2.2.1 == a0_5) || (!(bt404.2.2.2.2.2.2.1 == a0_6)))))) = true then (some false) else ((psh_Right.f a0_0 a0_1 a0_2 a0_3 a0_4 a0_5 a0_6).bind fun t413 => (if t413 = true then (trothlaw06_PshBack.j0 k l1) else (some false)))) else (some false))) else (trothlaw06_PshBack.j0 k l1)))) = some r := h
  clear h
  by_cases c3 : (l1.length : Int) > 3000
  · rw [if_pos c3] at H
    have c3b0 : decide (3000 < (l1.length : Int)) = true := decide_eq_true c3
    have c3b1 : decide (3000 < l1.length) = true := decide_eq_true (by omega)
    clear c3
    replace H := Option.bind_eq_some_iff.mp H
    obtain ⟨t399, A40, H⟩ := H
    replace H : (some t399) = some r := H
    have A4 := Aside0.mk A40
    clear A40
    obtain rfl := Option.some.inj H
    go_enter Try.func5, Try.ntmps5
    go_wp2_with (first | ((with_reducible refine gate_dst (N := 2) rfl ?_); refine box_event ?hg (N := 2) ?hd (cs := #[.int .i64 a0_0, .int .i64 a0_1, .int .u32 a0_2, .int .u32 a0_3, .bool a0_4, .int .u32 a0_5, .int .u32 a0_6]) (t := 26) ?hr ?_; (case hd => rfl); (case hg => rfl); (case hr => first | (go_simp; done) | (go_simp; rfl)); intro gb398 hg w5 hbox hb; have n0_ := Aside0.mk (below_step (by repeat (first | (with_reducible first | exact HB.out | apply below_alloc | apply pw_below_drewN | apply below_drew1) | exact HB.out)) hb); have n1_ := Aside0.mk (hbox); have n2_ := Aside0.mk ((by rw [hg]; exact (below_size (by repeat (first | (with_reducible first | exact HB.out | apply below_alloc | apply pw_below_drewN | apply below_drew1) | exact HB.out))) : w.heap.size ≤ gb398)); have n3_ := Aside0.mk ((by rw [hg]; exact (below_size (by repeat (first | (with_reducible first | exact HB.out | apply below_alloc | apply pw_below_drewN | apply below_drew1) | exact HB.out))) : w.heap.size ≤ gb398)); clear HB; have HB := n0_; have BK398 := n1_; have GW398 := n2_; have GE398 := n3_; clear n0_ n1_ n2_ n3_; clear hb hbox hg) | ((with_reducible refine gate_callee (f := 10) rfl ?_); refine goesL_ (some 16) rfl rfl Try.func10 (by kernel_rfl) rfl #[] rfl (by (try simp only [List.map_toArray, List.map_cons, List.map_nil]); first | done | rfl | (simp only [List.length_drop, List.length_take]; rfl)) ?_; (with_reducible refine (trothlaw06_alive.calls  t399 _ A4.out).mono ?_); rintro e w6 ⟨rfl, hb⟩; refine ⟨_, rfl, ?_⟩; have n0_ := Aside0.mk (blk_below (g := gb398) (o := .cells #[.int .i64 a0_0, .int .i64 a0_1, .int .u32 a0_2, .int .u32 a0_3, .bool a0_4, .int .u32 a0_5, .int .u32 a0_6] 26 (0, 0)) (by (with_reducible repeat (first | refine blk_drewN ?_ _ | refine blk_drew ?_ | refine blk_alloc ?_ _)); exact BK398.out) hb); have n1_ := Aside0.mk (below_step (by repeat (first | (with_reducible first | exact HB.out | apply below_alloc | apply pw_below_drewN | apply below_drew1 | refine below_set ?_ GE398.out) | exact HB.out)) hb); clear BK398; clear HB; have BK398 := n0_; have HB := n1_; clear n0_ n1_; (try clear hb); (try clear hb2); (try clear hk); (try clear hi)))
    go_ret
    exact ⟨by first | rfl | (simp [errW_none, errW_some]; simpa using hrt) | (simp [errW_none, errW_some] <;> rfl) | (simp [*, errW_none, errW_some] <;> rfl), by repeat (first | (with_reducible first | exact HB.out | apply below_alloc | apply pw_below_drewN | apply below_drew1 | refine below_set ?_ GE398.out) | exact HB.out)⟩
  · rw [if_neg c3] at H
    have c3b0 : decide (3000 < (l1.length : Int)) = false := decide_eq_false c3
    have c3b1 : decide (3000 < l1.length) = false := decide_eq_false (by omega)
    clear c3
    replace H := Option.bind_eq_some_iff.mp H
    obtain ⟨⟨t400, t403⟩, A70, H⟩ := H
    replace H : (if t403 = 0 then ((psh_Read.f t400).bind fun bt404 => (if bt404.2.2.2.2.2.2.2 = 0 then (if (!(bt404.1 == a0_0) || ((!(bt404.2.1 == a0_1) || (!(bt404.2.2.1 == a0_2) || (!(bt404.2.2.2.1 == a0_3)))) || (!(bt404.2.2.2.2.1 == a0_4) || (!(bt404.2.2.2.2.2.1 == a0_5) || (!(bt404.2.2.2.2.2.2.1 == a0_6)))))) = true then (some false) else ((psh_Right.f a0_0 a0_1 a0_2 a0_3 a0_4 a0_5 a0_6).bind fun t413 => (if t413 = true then (trothlaw06_PshBack.j0 k l1) else (some false)))) else (some false))) else (trothlaw06_PshBack.j0 k l1)) = some r := H
    have A7 := Aside0.mk A70
    clear A70
    have HC8 := Aside0.mk H
    clear H
    go_enter Try.func5, Try.ntmps5
    go_upto_if 23 with (first | ((with_reducible refine gate_dst (N := 2) rfl ?_); refine box_event ?hg (N := 2) ?hd (cs := #[.int .i64 a0_0, .int .i64 a0_1, .int .u32 a0_2, .int .u32 a0_3, .bool a0_4, .int .u32 a0_5, .int .u32 a0_6]) (t := 26) ?hr ?_; (case hd => rfl); (case hg => rfl); (case hr => first | (go_simp; done) | (go_simp; rfl)); intro gb398 hg w9 hbox hb; have n0_ := Aside0.mk (below_step (by repeat (first | (with_reducible first | exact HB.out | apply below_alloc | apply pw_below_drewN | apply below_drew1) | exact HB.out)) hb); have n1_ := Aside0.mk (hbox); have n2_ := Aside0.mk ((by rw [hg]; exact (below_size (by repeat (first | (with_reducible first | exact HB.out | apply below_alloc | apply pw_below_drewN | apply below_drew1) | exact HB.out))) : w.heap.size ≤ gb398)); have n3_ := Aside0.mk ((by rw [hg]; exact (below_size (by repeat (first | (with_reducible first | exact HB.out | apply below_alloc | apply pw_below_drewN | apply below_drew1) | exact HB.out))) : w.heap.size ≤ gb398)); clear HB; have HB := n0_; have BK398 := n1_; have GW398 := n2_; have GE398 := n3_; clear n0_ n1_ n2_ n3_; clear hb hbox hg; have hcz10_0 : w9.cell? ⟨gb398, 0, none⟩ = some (.int .i64 a0_0) := (blk_cell BK398.out 0).trans rfl; have hcz10_1 : w9.cell? ⟨gb398, 1, none⟩ = some (.int .i64 a0_1) := (blk_cell BK398.out 1).trans rfl; have hcz10_2 : w9.cell? ⟨gb398, 2, none⟩ = some (.int .u32 a0_2) := (blk_cell BK398.out 2).trans rfl; have hcz10_3 : w9.cell? ⟨gb398, 3, none⟩ = some (.int .u32 a0_3) := (blk_cell BK398.out 3).trans rfl; have hcz10_4 : w9.cell? ⟨gb398, 4, none⟩ = some (.bool a0_4) := (blk_cell BK398.out 4).trans rfl; have hcz10_5 : w9.cell? ⟨gb398, 5, none⟩ = some (.int .u32 a0_5) := (blk_cell BK398.out 5).trans rfl; have hcz10_6 : w9.cell? ⟨gb398, 6, none⟩ = some (.int .u32 a0_6) := (blk_cell BK398.out 6).trans rfl; have hfz10_0 := blk_frozen BK398.out 0; have hfz10_1 := blk_frozen BK398.out 1; have hfz10_2 := blk_frozen BK398.out 2; have hfz10_3 := blk_frozen BK398.out 3; have hfz10_4 := blk_frozen BK398.out 4; have hfz10_5 := blk_frozen BK398.out 5; have hfz10_6 := blk_frozen BK398.out 6) | ((with_reducible refine gate_callee (f := 8) rfl ?_); refine goesL_ (some 19) rfl rfl Try.func8 (by kernel_rfl) rfl #[.agg #[.int .i64 a0_0, .int .i64 a0_1, .int .u32 a0_2, .int .u32 a0_3, .bool a0_4, .int .u32 a0_5, .int .u32 a0_6]] rfl (by (try simp only [List.map_toArray, List.map_cons, List.map_nil]); first | done | rfl | (simp only [List.length_drop, List.length_take]; rfl)) ?_; (with_reducible refine (psh_Write.calls a0_0 a0_1 a0_2 a0_3 a0_4 a0_5 a0_6 t400 t403 _ A7.out).mono ?_); rintro e w11 ⟨v401, rfl, ho0, hb⟩; refine ⟨_, rfl, ?_⟩; have n0_ := Aside0.mk (Kd.R_lower ho0 (below_size (by repeat (first | (with_reducible first | exact HB.out | apply below_alloc | apply pw_below_drewN | apply below_drew1 | refine below_set ?_ GE398.out) | exact HB.out)))); have n1_ := Aside0.mk (blk_below (g := gb398) (o := .cells #[.int .i64 a0_0, .int .i64 a0_1, .int .u32 a0_2, .int .u32 a0_3, .bool a0_4, .int .u32 a0_5, .int .u32 a0_6] 26 (0, 0)) (by (with_reducible repeat (first | refine blk_drewN ?_ _ | refine blk_drew ?_ | refine blk_alloc ?_ _)); exact BK398.out) hb); have n2_ := Aside0.mk (below_step (by repeat (first | (with_reducible first | exact HB.out | apply below_alloc | apply pw_below_drewN | apply below_drew1 | refine below_set ?_ GE398.out) | exact HB.out)) hb); clear BK398; clear HB; have HO402 := n0_; have BK398 := n1_; have HB := n2_; clear n0_ n1_ n2_; (try clear hb); (try clear hb2); (try clear hk); (try clear hi); (try clear ho0)))
    (try simp only [Act.put, List.setIfInBounds_toArray, List.set_cons_zero, List.set_cons_succ])
    go_cut [] (fun wc => ∃ (kq : Nat), Aside0 (trothlaw06_PshBack.j0 kq l1 = some r) ∧ Aside0 (kq ≤ k) ∧ Aside0 (wc.heap[gb398]? = some (.cells #[.int .i64 a0_0, .int .i64 a0_1, .int .u32 a0_2, .int .u32 a0_3, .bool a0_4, .int .u32 a0_5, .int .u32 a0_6] 26 (0, 0))) ∧ Aside0 (Below w.heap.size w wc))
    case first =>
      have H := HC8.out
      clear HC8
      by_cases c12 : t403 = 0
      · rw [if_pos c12] at H
        have c12b0 : (t403 == 0) = true := beq_iff_eq.mpr c12
        have c12b1 : (t403 != 0) = false := bne_eq_false_iff_eq.mpr c12
        clear c12
        (first | rw [c12b0] | (simp only [i64_w, i32_w]; rw [c12b0]) | skip)
        replace H := Option.bind_eq_some_iff.mp H
        obtain ⟨⟨t404, t405, t406, t407, t408, t409, t410, t411⟩, A130, H⟩ := H
        replace H : (if t411 = 0 then (if (!(t404 == a0_0) || ((!(t405 == a0_1) || (!(t406 == a0_2) || (!(t407 == a0_3)))) || (!(t408 == a0_4) || (!(t409 == a0_5) || (!(t410 == a0_6)))))) = true then (some false) else ((psh_Right.f a0_0 a0_1 a0_2 a0_3 a0_4 a0_5 a0_6).bind fun t413 => (if t413 = true then (trothlaw06_PshBack.j0 k l1) else (some false)))) else (some false)) = some r := H
        have A13 := Aside0.mk A130
        clear A130
        by_cases c14 : t411 = 0
        · rw [if_pos c14] at H
          have c14b0 : (t411 == 0) = true := beq_iff_eq.mpr c14
          have c14b1 : (t411 != 0) = false := bne_eq_false_iff_eq.mpr c14
          clear c14
          by_cases c15 : (!(t404 == a0_0) || ((!(t405 == a0_1) || (!(t406 == a0_2) || (!(t407 == a0_3)))) || (!(t408 == a0_4) || (!(t409 == a0_5) || (!(t410 == a0_6)))))) = true
          · rw [if_pos c15, hrt] at H
            cases H
          · rw [if_neg c15] at H
            have c15b0 : (!(t404 == a0_0) || ((!(t405 == a0_1) || (!(t406 == a0_2) || (!(t407 == a0_3)))) || (!(t408 == a0_4) || (!(t409 == a0_5) || (!(t410 == a0_6)))))) = false := by simpa using c15
            clear c15
            replace H := Option.bind_eq_some_iff.mp H
            obtain ⟨t413, A220, H⟩ := H
            replace H : (if t413 = true then (trothlaw06_PshBack.j0 k l1) else (some false)) = some r := H
            have A22 := Aside0.mk A220
            clear A220
            by_cases c23 : t413 = true
            · subst c23
              have H1 : (trothlaw06_PshBack.j0 k l1) = some r := by rw [if_pos rfl] at H; exact H
              clear H
              have H := H1
              clear H1
              have H' := Aside0.mk H
              clear H
              obtain ⟨Ao24, co24, eo24⟩ := Kd.R_slice HO402.out
              subst eo24
              go_wp2_with (first | ((with_reducible refine gate_callee (f := 15) rfl ?_); refine goesL_ (some 26) rfl rfl Try.func15 (by kernel_rfl) rfl #[.slice Ao24 t400.length co24] rfl (by (try simp only [List.map_toArray, List.map_cons, List.map_nil]); first | done | rfl | (simp only [List.length_drop, List.length_take]; rfl)) ?_; (with_reducible refine (psh_Read.calls _ _ t400 t404 t405 t406 t407 t408 t409 t410 t411 _ ?side1 ?side2 A13.out).mono ?_); (case side1 => repeat (first | exact (Kd.R_reads' HO402.out).2.2 | (with_reducible refine Kd.C_alloc ?_ _) | (with_reducible refine Kd.C_drewN ?_ _) | (with_reducible refine Kd.C_drew ?_))); (case side2 => exact (Kd.R_reads' HO402.out).2.1); rintro e w25 ⟨rfl, hb⟩; refine ⟨_, rfl, ?_⟩; have n0_ := Aside0.mk (Kd.R_below (by (with_reducible repeat (first | apply Kd.R_alloc | apply Kd.R_drewN | apply Kd.R_drew)); exact HO402.out) hb); have n1_ := Aside0.mk (blk_below (g := gb398) (o := .cells #[.int .i64 a0_0, .int .i64 a0_1, .int .u32 a0_2, .int .u32 a0_3, .bool a0_4, .int .u32 a0_5, .int .u32 a0_6] 26 (0, 0)) (by (with_reducible repeat (first | refine blk_drewN ?_ _ | refine blk_drew ?_ | refine blk_alloc ?_ _)); exact BK398.out) hb); have n2_ := Aside0.mk (below_step (by repeat (first | (with_reducible first | exact HB.out | apply below_alloc | apply pw_below_drewN | apply below_drew1 | refine below_set ?_ GE398.out) | exact HB.out)) hb); clear HO402; clear BK398; clear HB; have HO402 := n0_; have BK398 := n1_; have HB := n2_; clear n0_ n1_ n2_; (try clear hb); (try clear hb2); (try clear hk); (try clear hi)) | ((with_reducible refine gate_dst (N := 7) rfl ?_); refine box_event ?hg (N := 7) ?hd (cs := #[.int .i64 0, .int .i64 0, .int .u32 0, .int .u32 0, .bool false, .int .u32 0, .int .u32 0]) (t := 26) ?hr ?_; (case hd => rfl); (case hg => rfl); (case hr => first | (go_simp; done) | (go_simp; rfl)); intro gb412 hg w26 hbox hb; have n0_ := Aside0.mk (Kd.R_below (by (with_reducible repeat (first | apply Kd.R_alloc | apply Kd.R_drewN | apply Kd.R_drew)); exact HO402.out) hb); have n1_ := Aside0.mk (blk_below (g := gb398) (o := .cells #[.int .i64 a0_0, .int .i64 a0_1, .int .u32 a0_2, .int .u32 a0_3, .bool a0_4, .int .u32 a0_5, .int .u32 a0_6] 26 (0, 0)) (by (with_reducible repeat (first | refine blk_drewN ?_ _ | refine blk_drew ?_ | refine blk_alloc ?_ _)); exact BK398.out) hb); have n2_ := Aside0.mk (below_step (by repeat (first | (with_reducible first | exact HB.out | apply below_alloc | apply pw_below_drewN | apply below_drew1 | refine below_set ?_ GE398.out) | exact HB.out)) hb); have n3_ := Aside0.mk (hbox); have n4_ := Aside0.mk ((by rw [hg]; exact (below_size (by repeat (first | (with_reducible first | exact HB.out | apply below_alloc | apply pw_below_drewN | apply below_drew1 | refine below_set ?_ GE398.out) | exact HB.out))) : w.heap.size ≤ gb412)); have n5_ := Aside0.mk ((by rw [hg]; exact (below_size (by repeat (first | (with_reducible first | exact HB.out | apply below_alloc | apply pw_below_drewN | apply below_drew1 | refine below_set ?_ GE398.out) | exact HB.out))) : w.heap.size ≤ gb412)); have n6_ := Aside0.mk ((by rw [hg]; exact Nat.ne_of_lt (blk_lt (g := gb398) (o := .cells #[.int .i64 a0_0, .int .i64 a0_1, .int .u32 a0_2, .int .u32 a0_3, .bool a0_4, .int .u32 a0_5, .int .u32 a0_6] 26 (0, 0)) (by (with_reducible repeat (first | refine blk_drewN ?_ _ | refine blk_drew ?_ | refine blk_alloc ?_ _)); exact BK398.out)) : gb398 ≠ gb412)); have n7_ := Aside0.mk ((by rw [hg]; exact Nat.ne_of_gt (blk_lt (g := gb398) (o := .cells #[.int .i64 a0_0, .int .i64 a0_1, .int .u32 a0_2, .int .u32 a0_3, .bool a0_4, .int .u32 a0_5, .int .u32 a0_6] 26 (0, 0)) (by (with_reducible repeat (first | refine blk_drewN ?_ _ | refine blk_drew ?_ | refine blk_alloc ?_ _)); exact BK398.out)) : gb412 ≠ gb398)); clear HO402; clear BK398; clear HB; have HO402 := n0_; have BK398 := n1_; have HB := n2_; have BK412 := n3_; have GW412 := n4_; have GE412 := n5_; have NB398_412 := n6_; have NB412_398 := n7_; clear n0_ n1_ n2_ n3_ n4_ n5_ n6_ n7_; clear hb hbox hg; have hnb27 := NB412_398.out; have hnc27 := NB398_412.out; have hcz28_0 : w26.cell? ⟨gb412, 0, none⟩ = some (.int .i64 0) := (blk_cell BK412.out 0).trans rfl; have hcz28_1 : w26.cell? ⟨gb412, 1, none⟩ = some (.int .i64 0) := (blk_cell BK412.out 1).trans rfl; have hcz28_2 : w26.cell? ⟨gb412, 2, none⟩ = some (.int .u32 0) := (blk_cell BK412.out 2).trans rfl; have hcz28_3 : w26.cell? ⟨gb412, 3, none⟩ = some (.int .u32 0) := (blk_cell BK412.out 3).trans rfl; have hcz28_4 : w26.cell? ⟨gb412, 4, none⟩ = some (.bool false) := (blk_cell BK412.out 4).trans rfl; have hcz28_5 : w26.cell? ⟨gb412, 5, none⟩ = some (.int .u32 0) := (blk_cell BK412.out 5).trans rfl; have hcz28_6 : w26.cell? ⟨gb412, 6, none⟩ = some (.int .u32 0) := (blk_cell BK412.out 6).trans rfl; have hfz28_0 := blk_frozen BK412.out 0; have hfz28_1 := blk_frozen BK412.out 1; have hfz28_2 := blk_frozen BK412.out 2; have hfz28_3 := blk_frozen BK412.out 3; have hfz28_4 := blk_frozen BK412.out 4; have hfz28_5 := blk_frozen BK412.out 5; have hfz28_6 := blk_frozen BK412.out 6; have hcz29_0 : w26.cell? ⟨gb398, 0, none⟩ = some (.int .i64 a0_0) := (blk_cell BK398.out 0).trans rfl; have hcz29_1 : w26.cell? ⟨gb398, 1, none⟩ = some (.int .i64 a0_1) := (blk_cell BK398.out 1).trans rfl; have hcz29_2 : w26.cell? ⟨gb398, 2, none⟩ = some (.int .u32 a0_2) := (blk_cell BK398.out 2).trans rfl; have hcz29_3 : w26.cell? ⟨gb398, 3, none⟩ = some (.int .u32 a0_3) := (blk_cell BK398.out 3).trans rfl; have hcz29_4 : w26.cell? ⟨gb398, 4, none⟩ = some (.bool a0_4) := (blk_cell BK398.out 4).trans rfl; have hcz29_5 : w26.cell? ⟨gb398, 5, none⟩ = some (.int .u32 a0_5) := (blk_cell BK398.out 5).trans rfl; have hcz29_6 : w26.cell? ⟨gb398, 6, none⟩ = some (.int .u32 a0_6) := (blk_cell BK398.out 6).trans rfl; have hfz29_0 := blk_frozen BK398.out 0; have hfz29_1 := blk_frozen BK398.out 1; have hfz29_2 := blk_frozen BK398.out 2; have hfz29_3 := blk_frozen BK398.out 3; have hfz29_4 := blk_frozen BK398.out 4; have hfz29_5 := blk_frozen BK398.out 5; have hfz29_6 := blk_frozen BK398.out 6) | (go_at_call 11; (with_reducible refine (psh_Right.calls a0_0 a0_1 a0_2 a0_3 a0_4 a0_5 a0_6 true _ A22.out).mono ?_); rintro e w30 ⟨rfl, hb⟩; have n0_ := Aside0.mk (Kd.R_below (by (with_reducible repeat (first | apply Kd.R_alloc | apply Kd.R_drewN | apply Kd.R_drew)); exact (Kd.R_mono (Kd.R_far (p := ⟨gb412, 6, none⟩) (Kd.R_far (p := ⟨gb412, 5, none⟩) (Kd.R_far (p := ⟨gb412, 4, none⟩) (Kd.R_far (p := ⟨gb412, 3, none⟩) (Kd.R_far (p := ⟨gb412, 2, none⟩) (Kd.R_far (p := ⟨gb412, 1, none⟩) (Kd.R_far (p := ⟨gb412, 0, none⟩) (Kd.R_types HO402.out BK412.out (by decide)) (fun _ hk => hk.2) (.int .i64 t404)) (fun _ hk => hk.2) (.int .i64 t405)) (fun _ hk => hk.2) (.int .u32 t406)) (fun _ hk => hk.2) (.int .u32 t407)) (fun _ hk => hk.2) (.bool t408)) (fun _ hk => hk.2) (.int .u32 t409)) (fun _ hk => hk.2) (.int .u32 t410)) (fun _ h_ => h_.1))) hb); have n1_ := Aside0.mk (blk_below (g := gb398) (o := .cells #[.int .i64 a0_0, .int .i64 a0_1, .int .u32 a0_2, .int .u32 a0_3, .bool a0_4, .int .u32 a0_5, .int .u32 a0_6] 26 (0, 0)) (by (with_reducible repeat (first | refine blk_drewN ?_ _ | refine blk_drew ?_ | refine blk_alloc ?_ _)); refine blk_far ?_ NB398_412.out _; (with_reducible repeat (first | refine blk_drewN ?_ _ | refine blk_drew ?_ | refine blk_alloc ?_ _)); refine blk_far ?_ NB398_412.out _; (with_reducible repeat (first | refine blk_drewN ?_ _ | refine blk_drew ?_ | refine blk_alloc ?_ _)); refine blk_far ?_ NB398_412.out _; (with_reducible repeat (first | refine blk_drewN ?_ _ | refine blk_drew ?_ | refine blk_alloc ?_ _)); refine blk_far ?_ NB398_412.out _; (with_reducible repeat (first | refine blk_drewN ?_ _ | refine blk_drew ?_ | refine blk_alloc ?_ _)); refine blk_far ?_ NB398_412.out _; (with_reducible repeat (first | refine blk_drewN ?_ _ | refine blk_drew ?_ | refine blk_alloc ?_ _)); refine blk_far ?_ NB398_412.out _; (with_reducible repeat (first | refine blk_drewN ?_ _ | refine blk_drew ?_ | refine blk_alloc ?_ _)); refine blk_far ?_ NB398_412.out _; (with_reducible repeat (first | refine blk_drewN ?_ _ | refine blk_drew ?_ | refine blk_alloc ?_ _)); exact BK398.out) hb); have n2_ := Aside0.mk (blk_below (g := gb412) (o := .cells #[.int .i64 t404, .int .i64 t405, .int .u32 t406, .int .u32 t407, .bool t408, .int .u32 t409, .int .u32 t410] 26 (0, 0)) (by (with_reducible repeat (first | refine blk_drewN ?_ _ | refine blk_drew ?_ | refine blk_alloc ?_ _)); refine blk_put (cs := #[.int .i64 t404, .int .i64 t405, .int .u32 t406, .int .u32 t407, .bool t408, .int .u32 t409, .int .u32 0]) ?_ 6 _ rfl; (with_reducible repeat (first | refine blk_drewN ?_ _ | refine blk_drew ?_ | refine blk_alloc ?_ _)); refine blk_put (cs := #[.int .i64 t404, .int .i64 t405, .int .u32 t406, .int .u32 t407, .bool t408, .int .u32 0, .int .u32 0]) ?_ 5 _ rfl; (with_reducible repeat (first | refine blk_drewN ?_ _ | refine blk_drew ?_ | refine blk_alloc ?_ _)); refine blk_put (cs := #[.int .i64 t404, .int .i64 t405, .int .u32 t406, .int .u32 t407, .bool false, .int .u32 0, .int .u32 0]) ?_ 4 _ rfl; (with_reducible repeat (first | refine blk_drewN ?_ _ | refine blk_drew ?_ | refine blk_alloc ?_ _)); refine blk_put (cs := #[.int .i64 t404, .int .i64 t405, .int .u32 t406, .int .u32 0, .bool false, .int .u32 0, .int .u32 0]) ?_ 3 _ rfl; (with_reducible repeat (first | refine blk_drewN ?_ _ | refine blk_drew ?_ | refine blk_alloc ?_ _)); refine blk_put (cs := #[.int .i64 t404, .int .i64 t405, .int .u32 0, .int .u32 0, .bool false, .int .u32 0, .int .u32 0]) ?_ 2 _ rfl; (with_reducible repeat (first | refine blk_drewN ?_ _ | refine blk_drew ?_ | refine blk_alloc ?_ _)); refine blk_put (cs := #[.int .i64 t404, .int .i64 0, .int .u32 0, .int .u32 0, .bool false, .int .u32 0, .int .u32 0]) ?_ 1 _ rfl; (with_reducible repeat (first | refine blk_drewN ?_ _ | refine blk_drew ?_ | refine blk_alloc ?_ _)); refine blk_put (cs := #[.int .i64 0, .int .i64 0, .int .u32 0, .int .u32 0, .bool false, .int .u32 0, .int .u32 0]) ?_ 0 _ rfl; (with_reducible repeat (first | refine blk_drewN ?_ _ | refine blk_drew ?_ | refine blk_alloc ?_ _)); exact BK412.out) hb); have n3_ := Aside0.mk (below_step (by repeat (first | (with_reducible first | exact HB.out | apply below_alloc | apply pw_below_drewN | apply below_drew1 | refine below_set ?_ GE398.out | refine below_set ?_ GE412.out) | exact HB.out)) hb); clear HO402; clear BK398; clear BK412; clear HB; have HO402 := n0_; have BK398 := n1_; have BK412 := n2_; have HB := n3_; clear n0_ n1_ n2_ n3_; (try clear hb); (try clear hb2); (try clear hk); (try clear hi)))
              go_meet
              case rel => exact ⟨_, H', ⟨by first | omega | exact Nat.le_refl _⟩, ⟨by (with_reducible repeat (first | refine blk_drewN ?_ _ | refine blk_drew ?_ | refine blk_alloc ?_ _)); exact BK398.out⟩, ⟨by repeat (first | (with_reducible first | exact HB.out | apply below_alloc | apply pw_below_drewN | apply below_drew1 | refine below_set ?_ GE398.out | refine below_set ?_ GE412.out) | exact HB.out)⟩⟩
            · replace c23 := Bool.eq_false_iff.mpr c23
              subst c23
              have H1 : (some false) = some r := by rw [if_neg (show ¬ (false = true) by decide)] at H; exact H
              rw [hrt] at H1
              cases H1
        · rw [if_neg c14, hrt] at H
          cases H
      · rw [if_neg c12] at H
        have c12b0 : (t403 == 0) = false := beq_eq_false_iff_ne.mpr c12
        have c12b1 : (t403 != 0) = true := bne_iff_ne.mpr c12
        (first | rw [c12b0] | (simp only [i64_w, i32_w]; rw [c12b0]) | skip)
        have H' := Aside0.mk H
        clear H
        go_wp2
        go_meet
        case rel => exact ⟨_, H', ⟨by first | omega | exact Nat.le_refl _⟩, ⟨by (with_reducible repeat (first | refine blk_drewN ?_ _ | refine blk_drew ?_ | refine blk_alloc ?_ _)); exact BK398.out⟩, ⟨by repeat (first | (with_reducible first | exact HB.out | apply below_alloc | apply pw_below_drewN | apply below_drew1 | refine below_set ?_ GE398.out) | exact HB.out)⟩⟩
    case rest =>
      clear HC8
      try clear c1
      try clear c2
      try clear p2
      try clear c3
      try clear c3b0
      try clear c3b1
      try clear c4
      try clear c5
      try clear c8
      try clear c10
      try clear c12
      try clear c12b0
      try clear c12b1
      try clear c14
      try clear c14b0
      try clear c14b1
      try clear c15
      try clear c15b0
      try clear c19
      try clear c23
      try clear c27
      try clear c34
      try clear c41
      try clear hcz10_0
      try clear hcz10_1
      try clear hcz10_2
      try clear hcz10_3
      try clear hcz10_4
      try clear hcz10_5
      try clear hcz10_6
      try clear hcz20_0
      try clear hcz20_1
      try clear hcz20_2
      try clear hcz20_3
      try clear hcz20_4
      try clear hcz20_5
      try clear hcz20_6
      try clear hcz21_0
      try clear hcz21_1
      try clear hcz21_2
      try clear hcz21_3
      try clear hcz21_4
      try clear hcz21_5
      try clear hcz21_6
      try clear hcz28_0
      try clear hcz28_1
      try clear hcz28_2
      try clear hcz28_3
      try clear hcz28_4
      try clear hcz28_5
      try clear hcz28_6
      try clear hcz29_0
      try clear hcz29_1
      try clear hcz29_2
      try clear hcz29_3
      try clear hcz29_4
      try clear hcz29_5
      try clear hcz29_6
      try clear hcz35_0
      try clear hcz35_1
      try clear hcz35_2
      try clear hcz35_3
      try clear hcz35_4
      try clear hcz35_5
      try clear hcz35_6
      try clear hcz36_0
      try clear hcz36_1
      try clear hcz36_2
      try clear hcz36_3
      try clear hcz36_4
      try clear hcz36_5
      try clear hcz36_6
      try clear hcz42_0
      try clear hcz42_1
      try clear hcz42_2
      try clear hcz42_3
      try clear hcz42_4
      try clear hcz42_5
      try clear hcz42_6
      try clear hfz10_0
      try clear hfz10_1
      try clear hfz10_2
      try clear hfz10_3
      try clear hfz10_4
      try clear hfz10_5
      try clear hfz10_6
      try clear hfz20_0
      try clear hfz20_1
      try clear hfz20_2
      try clear hfz20_3
      try clear hfz20_4
      try clear hfz20_5
      try clear hfz20_6
      try clear hfz21_0
      try clear hfz21_1
      try clear hfz21_2
      try clear hfz21_3
      try clear hfz21_4
      try clear hfz21_5
      try clear hfz21_6
      try clear hfz28_0
      try clear hfz28_1
      try clear hfz28_2
      try clear hfz28_3
      try clear hfz28_4
      try clear hfz28_5
      try clear hfz28_6
      try clear hfz29_0
      try clear hfz29_1
      try clear hfz29_2
      try clear hfz29_3
      try clear hfz29_4
      try clear hfz29_5
      try clear hfz29_6
      try clear hfz35_0
      try clear hfz35_1
      try clear hfz35_2
      try clear hfz35_3
      try clear hfz35_4
      try clear hfz35_5
      try clear hfz35_6
      try clear hfz36_0
      try clear hfz36_1
      try clear hfz36_2
      try clear hfz36_3
      try clear hfz36_4
      try clear hfz36_5
      try clear hfz36_6
      try clear hfz42_0
      try clear hfz42_1
      try clear hfz42_2
      try clear hfz42_3
      try clear hfz42_4
      try clear hfz42_5
      try clear hfz42_6
      obtain ⟨kq, HA, HJ7, BK398, HB⟩ := hcut
      cases kq with
      | zero => exact absurd HA.out (by simp [trothlaw06_PshBack.j0])
      | succ kj7 =>
        have H := HA.out
        clear HA
        simp only [trothlaw06_PshBack.j0] at H
        replace H := Option.bind_eq_some_iff.mp H
        obtain ⟨⟨t414, t415, t416, t417, t418, t419, t420, t421⟩, A430, H⟩ := H
        replace H : (if t421 = 0 then ((psh_Write.f t414 t415 t416 t417 t418 t419 t420).bind fun bt423 => ((trothlaw06_alive.f).bind fun t427 => (if t427 = true then (if bt423.2 = 0 then (if (strOfNums bt423.1).toList = (strOfNums l1).toList then ((psh_Name.f t414).bind fun t428 => (some (t428.toList != ([] : List UInt8)))) else (some false)) else (some false)) else (some false)))) else ((trothlaw06_alive.f).bind fun t429 => (if t429 = true then (some (t414 == 0 && ((t415 == 0 && (t416 == 0 && (t417 == 0))) && (!t418 && (t419 == 0 && (t420 == 0)))))) else (some false)))) = some r := H
        have A43 := Aside0.mk A430
        clear A430
        by_cases c44 : t421 = 0
        · rw [if_pos c44] at H
          have c44b0 : (t421 == 0) = true := beq_iff_eq.mpr c44
          have c44b1 : (t421 != 0) = false := bne_eq_false_iff_eq.mpr c44
          clear c44
          replace H := Option.bind_eq_some_iff.mp H
          obtain ⟨⟨t423, t426⟩, A450, H⟩ := H
          replace H : ((trothlaw06_alive.f).bind fun t427 => (if t427 = true then (if t426 = 0 then (if (strOfNums t423).toList = (strOfNums l1).toList then ((psh_Name.f t414).bind fun t428 => (some (t428.toList != ([] : List UInt8)))) else (some false)) else (some false)) else (some false))) = some r := H
          have A45 := Aside0.mk A450
          clear A450
          replace H := Option.bind_eq_some_iff.mp H
          obtain ⟨t427, A460, H⟩ := H
          replace H : (if t427 = true then (if t426 = 0 then (if (strOfNums t423).toList = (strOfNums l1).toList then ((psh_Name.f t414).bind fun t428 => (some (t428.toList != ([] : List UInt8)))) else (some false)) else (some false)) else (some false)) = some r := H
          have A46 := Aside0.mk A460
          clear A460
          by_cases c47 : t427 = true
          · subst c47
            have H1 : (if t426 = 0 then (if (strOfNums t423).toList = (strOfNums l1).toList then ((psh_Name.f t414).bind fun t428 => (some (t428.toList != ([] : List UInt8)))) else (some false)) else (some false)) = some r := by rw [if_pos rfl] at H; exact H
            clear H
            have H := H1
            clear H1
            by_cases c48 : t426 = 0
            · rw [if_pos c48] at H
              have c48b0 : (t426 == 0) = true := beq_iff_eq.mpr c48
              have c48b1 : (t426 != 0) = false := bne_eq_false_iff_eq.mpr c48
              clear c48
              by_cases c49 : (strOfNums t423).toList = (strOfNums l1).toList
              · rw [if_pos c49] at H
                have c49b0 : ((strOfNums t423).toList == (strOfNums l1).toList) = true := beq_iff_eq.mpr c49
                have c49b1 : ((strOfNums t423).toList != (strOfNums l1).toList) = false := bne_eq_false_iff_eq.mpr c49
                clear c49
                replace H := Option.bind_eq_some_iff.mp H
                obtain ⟨t428, A500, H⟩ := H
                replace H : (some (t428.toList != ([] : List UInt8))) = some r := H
                have A50 := Aside0.mk A500
                clear A500
                have hz : (t428.toList != ([] : List UInt8)) = true := (Option.some.inj H).trans hrt; subst hrt
                go_wp2_with (first | ((with_reducible refine gate_callee (f := 15) rfl ?_); refine goesL_ (some 43) rfl rfl Try.func15 (by kernel_rfl) rfl #[.slice A1 l1.length c1] rfl (by (try simp only [List.map_toArray, List.map_cons, List.map_nil]); first | done | rfl | (simp only [List.length_drop, List.length_take]; rfl)) ?_; (with_reducible refine (psh_Read.calls _ _ l1 t414 t415 t416 t417 t418 t419 t420 t421 _ ?side1 ?side2 A43.out).mono ?_); (case side1 => repeat (first | exact (Kd.C_below HR1.out HB.out) | (with_reducible refine Kd.C_alloc ?_ _) | (with_reducible refine Kd.C_drewN ?_ _) | (with_reducible refine Kd.C_drew ?_))); (case side2 => exact HC1.out); rintro e w51 ⟨rfl, hb⟩; refine ⟨_, rfl, ?_⟩; have n0_ := Aside0.mk (blk_below (g := gb398) (o := .cells #[.int .i64 a0_0, .int .i64 a0_1, .int .u32 a0_2, .int .u32 a0_3, .bool a0_4, .int .u32 a0_5, .int .u32 a0_6] 26 (0, 0)) (by (with_reducible repeat (first | refine blk_drewN ?_ _ | refine blk_drew ?_ | refine blk_alloc ?_ _)); exact BK398.out) hb); have n1_ := Aside0.mk (below_step (by repeat (first | (with_reducible first | exact HB.out | apply below_alloc | apply pw_below_drewN | apply below_drew1 | refine below_set ?_ GE398.out) | exact HB.out)) hb); clear BK398; clear HB; have BK398 := n0_; have HB := n1_; clear n0_ n1_; (try clear hb); (try clear hb2); (try clear hk); (try clear hi)) | ((with_reducible refine gate_dst (N := 9) rfl ?_); refine box_event ?hg (N := 9) ?hd (cs := #[.int .i64 0, .int .i64 0, .int .u32 0, .int .u32 0, .bool false, .int .u32 0, .int .u32 0]) (t := 26) ?hr ?_; (case hd => rfl); (case hg => rfl); (case hr => first | (go_simp; done) | (go_simp; rfl)); intro gb422 hg w52 hbox hb; have n0_ := Aside0.mk (blk_below (g := gb398) (o := .cells #[.int .i64 a0_0, .int .i64 a0_1, .int .u32 a0_2, .int .u32 a0_3, .bool a0_4, .int .u32 a0_5, .int .u32 a0_6] 26 (0, 0)) (by (with_reducible repeat (first | refine blk_drewN ?_ _ | refine blk_drew ?_ | refine blk_alloc ?_ _)); exact BK398.out) hb); have n1_ := Aside0.mk (below_step (by repeat (first | (with_reducible first | exact HB.out | apply below_alloc | apply pw_below_drewN | apply below_drew1 | refine below_set ?_ GE398.out) | exact HB.out)) hb); have n2_ := Aside0.mk (hbox); have n3_ := Aside0.mk ((by rw [hg]; exact (below_size (by repeat (first | (with_reducible first | exact HB.out | apply below_alloc | apply pw_below_drewN | apply below_drew1 | refine below_set ?_ GE398.out) | exact HB.out))) : w.heap.size ≤ gb422)); have n4_ := Aside0.mk ((by rw [hg]; exact (below_size (by repeat (first | (with_reducible first | exact HB.out | apply below_alloc | apply pw_below_drewN | apply below_drew1 | refine below_set ?_ GE398.out) | exact HB.out))) : w.heap.size ≤ gb422)); have n5_ := Aside0.mk ((by rw [hg]; exact Nat.ne_of_lt (blk_lt (g := gb398) (o := .cells #[.int .i64 a0_0, .int .i64 a0_1, .int .u32 a0_2, .int .u32 a0_3, .bool a0_4, .int .u32 a0_5, .int .u32 a0_6] 26 (0, 0)) (by (with_reducible repeat (first | refine blk_drewN ?_ _ | refine blk_drew ?_ | refine blk_alloc ?_ _)); exact BK398.out)) : gb398 ≠ gb422)); have n6_ := Aside0.mk ((by rw [hg]; exact Nat.ne_of_gt (blk_lt (g := gb398) (o := .cells #[.int .i64 a0_0, .int .i64 a0_1, .int .u32 a0_2, .int .u32 a0_3, .bool a0_4, .int .u32 a0_5, .int .u32 a0_6] 26 (0, 0)) (by (with_reducible repeat (first | refine blk_drewN ?_ _ | refine blk_drew ?_ | refine blk_alloc ?_ _)); exact BK398.out)) : gb422 ≠ gb398)); clear BK398; clear HB; have BK398 := n0_; have HB := n1_; have BK422 := n2_; have GW422 := n3_; have GE422 := n4_; have NB398_422 := n5_; have NB422_398 := n6_; clear n0_ n1_ n2_ n3_ n4_ n5_ n6_; clear hb hbox hg; have hnb53 := NB422_398.out; have hnc53 := NB398_422.out; have hcz54_0 : w52.cell? ⟨gb422, 0, none⟩ = some (.int .i64 0) := (blk_cell BK422.out 0).trans rfl; have hcz54_1 : w52.cell? ⟨gb422, 1, none⟩ = some (.int .i64 0) := (blk_cell BK422.out 1).trans rfl; have hcz54_2 : w52.cell? ⟨gb422, 2, none⟩ = some (.int .u32 0) := (blk_cell BK422.out 2).trans rfl; have hcz54_3 : w52.cell? ⟨gb422, 3, none⟩ = some (.int .u32 0) := (blk_cell BK422.out 3).trans rfl; have hcz54_4 : w52.cell? ⟨gb422, 4, none⟩ = some (.bool false) := (blk_cell BK422.out 4).trans rfl; have hcz54_5 : w52.cell? ⟨gb422, 5, none⟩ = some (.int .u32 0) := (blk_cell BK422.out 5).trans rfl; have hcz54_6 : w52.cell? ⟨gb422, 6, none⟩ = some (.int .u32 0) := (blk_cell BK422.out 6).trans rfl; have hfz54_0 := blk_frozen BK422.out 0; have hfz54_1 := blk_frozen BK422.out 1; have hfz54_2 := blk_frozen BK422.out 2; have hfz54_3 := blk_frozen BK422.out 3; have hfz54_4 := blk_frozen BK422.out 4; have hfz54_5 := blk_frozen BK422.out 5; have hfz54_6 := blk_frozen BK422.out 6) | ((with_reducible refine gate_callee (f := 8) rfl ?_); refine goesL_ (some 56) rfl rfl Try.func8 (by kernel_rfl) rfl #[.agg #[.int .i64 t414, .int .i64 t415, .int .u32 t416, .int .u32 t417, .bool t418, .int .u32 t419, .int .u32 t420]] rfl (by (try simp only [List.map_toArray, List.map_cons, List.map_nil]); first | done | rfl | (simp only [List.length_drop, List.length_take]; rfl)) ?_; (with_reducible refine (psh_Write.calls t414 t415 t416 t417 t418 t419 t420 t423 t426 _ A45.out).mono ?_); rintro e w55 ⟨v424, rfl, ho0, hb⟩; refine ⟨_, rfl, ?_⟩; have n0_ := Aside0.mk (Kd.R_lower ho0 (below_size (by repeat (first | (with_reducible first | exact HB.out | apply below_alloc | apply pw_below_drewN | apply below_drew1 | refine below_set ?_ GE398.out | refine below_set ?_ GE422.out) | exact HB.out)))); have n1_ := Aside0.mk (blk_below (g := gb398) (o := .cells #[.int .i64 a0_0, .int .i64 a0_1, .int .u32 a0_2, .int .u32 a0_3, .bool a0_4, .int .u32 a0_5, .int .u32 a0_6] 26 (0, 0)) (by (with_reducible repeat (first | refine blk_drewN ?_ _ | refine blk_drew ?_ | refine blk_alloc ?_ _)); refine blk_far ?_ NB398_422.out _; (with_reducible repeat (first | refine blk_drewN ?_ _ | refine blk_drew ?_ | refine blk_alloc ?_ _)); refine blk_far ?_ NB398_422.out _; (with_reducible repeat (first | refine blk_drewN ?_ _ | refine blk_drew ?_ | refine blk_alloc ?_ _)); refine blk_far ?_ NB398_422.out _; (with_reducible repeat (first | refine blk_drewN ?_ _ | refine blk_drew ?_ | refine blk_alloc ?_ _)); refine blk_far ?_ NB398_422.out _; (with_reducible repeat (first | refine blk_drewN ?_ _ | refine blk_drew ?_ | refine blk_alloc ?_ _)); refine blk_far ?_ NB398_422.out _; (with_reducible repeat (first | refine blk_drewN ?_ _ | refine blk_drew ?_ | refine blk_alloc ?_ _)); refine blk_far ?_ NB398_422.out _; (with_reducible repeat (first | refine blk_drewN ?_ _ | refine blk_drew ?_ | refine blk_alloc ?_ _)); refine blk_far ?_ NB398_422.out _; (with_reducible repeat (first | refine blk_drewN ?_ _ | refine blk_drew ?_ | refine blk_alloc ?_ _)); exact BK398.out) hb); have n2_ := Aside0.mk (blk_below (g := gb422) (o := .cells #[.int .i64 t414, .int .i64 t415, .int .u32 t416, .int .u32 t417, .bool t418, .int .u32 t419, .int .u32 t420] 26 (0, 0)) (by (with_reducible repeat (first | refine blk_drewN ?_ _ | refine blk_drew ?_ | refine blk_alloc ?_ _)); refine blk_put (cs := #[.int .i64 t414, .int .i64 t415, .int .u32 t416, .int .u32 t417, .bool t418, .int .u32 t419, .int .u32 0]) ?_ 6 _ rfl; (with_reducible repeat (first | refine blk_drewN ?_ _ | refine blk_drew ?_ | refine blk_alloc ?_ _)); refine blk_put (cs := #[.int .i64 t414, .int .i64 t415, .int .u32 t416, .int .u32 t417, .bool t418, .int .u32 0, .int .u32 0]) ?_ 5 _ rfl; (with_reducible repeat (first | refine blk_drewN ?_ _ | refine blk_drew ?_ | refine blk_alloc ?_ _)); refine blk_put (cs := #[.int .i64 t414, .int .i64 t415, .int .u32 t416, .int .u32 t417, .bool false, .int .u32 0, .int .u32 0]) ?_ 4 _ rfl; (with_reducible repeat (first | refine blk_drewN ?_ _ | refine blk_drew ?_ | refine blk_alloc ?_ _)); refine blk_put (cs := #[.int .i64 t414, .int .i64 t415, .int .u32 t416, .int .u32 0, .bool false, .int .u32 0, .int .u32 0]) ?_ 3 _ rfl; (with_reducible repeat (first | refine blk_drewN ?_ _ | refine blk_drew ?_ | refine blk_alloc ?_ _)); refine blk_put (cs := #[.int .i64 t414, .int .i64 t415, .int .u32 0, .int .u32 0, .bool false, .int .u32 0, .int .u32 0]) ?_ 2 _ rfl; (with_reducible repeat (first | refine blk_drewN ?_ _ | refine blk_drew ?_ | refine blk_alloc ?_ _)); refine blk_put (cs := #[.int .i64 t414, .int .i64 0, .int .u32 0, .int .u32 0, .bool false, .int .u32 0, .int .u32 0]) ?_ 1 _ rfl; (with_reducible repeat (first | refine blk_drewN ?_ _ | refine blk_drew ?_ | refine blk_alloc ?_ _)); refine blk_put (cs := #[.int .i64 0, .int .i64 0, .int .u32 0, .int .u32 0, .bool false, .int .u32 0, .int .u32 0]) ?_ 0 _ rfl; (with_reducible repeat (first | refine blk_drewN ?_ _ | refine blk_drew ?_ | refine blk_alloc ?_ _)); exact BK422.out) hb); have n3_ := Aside0.mk (below_step (by repeat (first | (with_reducible first | exact HB.out | apply below_alloc | apply pw_below_drewN | apply below_drew1 | refine below_set ?_ GE398.out | refine below_set ?_ GE422.out) | exact HB.out)) hb); clear BK398; clear BK422; clear HB; have HO425 := n0_; have BK398 := n1_; have BK422 := n2_; have HB := n3_; clear n0_ n1_ n2_ n3_; (try clear hb); (try clear hb2); (try clear hk); (try clear hi); (try clear ho0)) | ((with_reducible refine gate_callee (f := 10) rfl ?_); refine goesL_ (some 59) rfl rfl Try.func10 (by kernel_rfl) rfl #[] rfl (by (try simp only [List.map_toArray, List.map_cons, List.map_nil]); first | done | rfl | (simp only [List.length_drop, List.length_take]; rfl)) ?_; (with_reducible refine (trothlaw06_alive.calls  true _ A46.out).mono ?_); rintro e w56 ⟨rfl, hb⟩; refine ⟨_, rfl, ?_⟩; have n0_ := Aside0.mk (Kd.R_below (by (with_reducible repeat (first | apply Kd.R_alloc | apply Kd.R_drewN | apply Kd.R_drew)); exact HO425.out) hb); have n1_ := Aside0.mk (blk_below (g := gb398) (o := .cells #[.int .i64 a0_0, .int .i64 a0_1, .int .u32 a0_2, .int .u32 a0_3, .bool a0_4, .int .u32 a0_5, .int .u32 a0_6] 26 (0, 0)) (by (with_reducible repeat (first | refine blk_drewN ?_ _ | refine blk_drew ?_ | refine blk_alloc ?_ _)); exact BK398.out) hb); have n2_ := Aside0.mk (blk_below (g := gb422) (o := .cells #[.int .i64 t414, .int .i64 t415, .int .u32 t416, .int .u32 t417, .bool t418, .int .u32 t419, .int .u32 t420] 26 (0, 0)) (by (with_reducible repeat (first | refine blk_drewN ?_ _ | refine blk_drew ?_ | refine blk_alloc ?_ _)); exact BK422.out) hb); have n3_ := Aside0.mk (below_step (by repeat (first | (with_reducible first | exact HB.out | apply below_alloc | apply pw_below_drewN | apply below_drew1 | refine below_set ?_ GE398.out | refine below_set ?_ GE422.out) | exact HB.out)) hb); clear HO425; clear BK398; clear BK422; clear HB; have HO425 := n0_; have BK398 := n1_; have BK422 := n2_; have HB := n3_; clear n0_ n1_ n2_ n3_; (try clear hb); (try clear hb2); (try clear hk); (try clear hi); have hcv57 := own_string (P := Try.prog) Try.underlying27 Try.underlying5 Try.underlying9 (Kd.own_of_R HO425.out); (try have hcv57_2 := fun (u0_ : Value) (u1_ : Value) => own_string (P := Try.prog) Try.underlying27 Try.underlying5 Try.underlying9 (Kd.own_of_R (Kd.R_far (p := ⟨gb422, 1, none⟩) (Kd.R_far (p := ⟨gb422, 0, none⟩) (Kd.R_types HO425.out BK422.out (by decide)) (fun _ hk => hk.2) u0_) (fun _ hk => hk.2) u1_))); (try have hcv57_3 := fun (u0_ : Value) (u1_ : Value) (u2_ : Value) => own_string (P := Try.prog) Try.underlying27 Try.underlying5 Try.underlying9 (Kd.own_of_R (Kd.R_far (p := ⟨gb422, 2, none⟩) (Kd.R_far (p := ⟨gb422, 1, none⟩) (Kd.R_far (p := ⟨gb422, 0, none⟩) (Kd.R_types HO425.out BK422.out (by decide)) (fun _ hk => hk.2) u0_) (fun _ hk => hk.2) u1_) (fun _ hk => hk.2) u2_))); have hcv58 := Kd.C_string (P := Try.prog) (A := A1) (c := c1) Try.underlying27 Try.underlying5 Try.underlying9 (Kd.C_below HR1.out HB.out); have hcz59_0 : w56.cell? ⟨gb422, 0, none⟩ = some (.int .i64 t414) := (blk_cell BK422.out 0).trans rfl; have hcz59_1 : w56.cell? ⟨gb422, 1, none⟩ = some (.int .i64 t415) := (blk_cell BK422.out 1).trans rfl; have hcz59_2 : w56.cell? ⟨gb422, 2, none⟩ = some (.int .u32 t416) := (blk_cell BK422.out 2).trans rfl; have hcz59_3 : w56.cell? ⟨gb422, 3, none⟩ = some (.int .u32 t417) := (blk_cell BK422.out 3).trans rfl; have hcz59_4 : w56.cell? ⟨gb422, 4, none⟩ = some (.bool t418) := (blk_cell BK422.out 4).trans rfl; have hcz59_5 : w56.cell? ⟨gb422, 5, none⟩ = some (.int .u32 t419) := (blk_cell BK422.out 5).trans rfl; have hcz59_6 : w56.cell? ⟨gb422, 6, none⟩ = some (.int .u32 t420) := (blk_cell BK422.out 6).trans rfl; have hfz59_0 := blk_frozen BK422.out 0; have hfz59_1 := blk_frozen BK422.out 1; have hfz59_2 := blk_frozen BK422.out 2; have hfz59_3 := blk_frozen BK422.out 3; have hfz59_4 := blk_frozen BK422.out 4; have hfz59_5 := blk_frozen BK422.out 5; have hfz59_6 := blk_frozen BK422.out 6) | (go_at_call 13; (with_reducible refine (psh_Name.calls t414 t428 _ A50.out).mono ?_); rintro e w60 ⟨rfl, hb⟩; have n0_ := Aside0.mk (Kd.R_below (by (with_reducible repeat (first | apply Kd.R_alloc | apply Kd.R_drewN | apply Kd.R_drew)); exact HO425.out) hb); have n1_ := Aside0.mk (blk_below (g := gb398) (o := .cells #[.int .i64 a0_0, .int .i64 a0_1, .int .u32 a0_2, .int .u32 a0_3, .bool a0_4, .int .u32 a0_5, .int .u32 a0_6] 26 (0, 0)) (by (with_reducible repeat (first | refine blk_drewN ?_ _ | refine blk_drew ?_ | refine blk_alloc ?_ _)); exact BK398.out) hb); have n2_ := Aside0.mk (blk_below (g := gb422) (o := .cells #[.int .i64 t414, .int .i64 t415, .int .u32 t416, .int .u32 t417, .bool t418, .int .u32 t419, .int .u32 t420] 26 (0, 0)) (by (with_reducible repeat (first | refine blk_drewN ?_ _ | refine blk_drew ?_ | refine blk_alloc ?_ _)); exact BK422.out) hb); have n3_ := Aside0.mk (below_step (by repeat (first | (with_reducible first | exact HB.out | apply below_alloc | apply pw_below_drewN | apply below_drew1 | refine below_set ?_ GE398.out | refine below_set ?_ GE422.out) | exact HB.out)) hb); clear HO425; clear BK398; clear BK422; clear HB; have HO425 := n0_; have BK398 := n1_; have BK422 := n2_; have HB := n3_; clear n0_ n1_ n2_ n3_; (try clear hb); (try clear hb2); (try clear hk); (try clear hi)))
                go_ret
                exact ⟨by first | rfl | (simp [errW_none, errW_some]; exact bne_iff_ne.mp hz) | (simp [errW_none, errW_some] <;> rfl) | (simp [*, errW_none, errW_some] <;> rfl), by repeat (first | (with_reducible first | exact HB.out | apply below_alloc | apply pw_below_drewN | apply below_drew1 | refine below_set ?_ GE398.out | refine below_set ?_ GE422.out) | exact HB.out)⟩
              · rw [if_neg c49, hrt] at H
                cases H
            · rw [if_neg c48, hrt] at H
              cases H
          · replace c47 := Bool.eq_false_iff.mpr c47
            subst c47
            have H1 : (some false) = some r := by rw [if_neg (show ¬ (false = true) by decide)] at H; exact H
            rw [hrt] at H1
            cases H1
        · rw [if_neg c44] at H
          have c44b0 : (t421 == 0) = false := beq_eq_false_iff_ne.mpr c44
          have c44b1 : (t421 != 0) = true := bne_iff_ne.mpr c44
          replace H := Option.bind_eq_some_iff.mp H
          obtain ⟨t429, A810, H⟩ := H
          replace H : (if t429 = true then (some (t414 == 0 && ((t415 == 0 && (t416 == 0 && (t417 == 0))) && (!t418 && (t419 == 0 && (t420 == 0)))))) else (some false)) = some r := H
          have A81 := Aside0.mk A810
          clear A810
          by_cases c82 : t429 = true
          · subst c82
            have H1 : (some (t414 == 0 && ((t415 == 0 && (t416 == 0 && (t417 == 0))) && (!t418 && (t419 == 0 && (t420 == 0)))))) = some r := by rw [if_pos rfl] at H; exact H
            clear H
            have H := H1
            clear H1
            obtain rfl := Option.some.inj H
            go_wp2_with (first | ((with_reducible refine gate_callee (f := 15) rfl ?_); refine goesL_ (some 43) rfl rfl Try.func15 (by kernel_rfl) rfl #[.slice A1 l1.length c1] rfl (by (try simp only [List.map_toArray, List.map_cons, List.map_nil]); first | done | rfl | (simp only [List.length_drop, List.length_take]; rfl)) ?_; (with_reducible refine (psh_Read.calls _ _ l1 t414 t415 t416 t417 t418 t419 t420 t421 _ ?side1 ?side2 A43.out).mono ?_); (case side1 => repeat (first | exact (Kd.C_below HR1.out HB.out) | (with_reducible refine Kd.C_alloc ?_ _) | (with_reducible refine Kd.C_drewN ?_ _) | (with_reducible refine Kd.C_drew ?_))); (case side2 => exact HC1.out); rintro e w83 ⟨rfl, hb⟩; refine ⟨_, rfl, ?_⟩; have n0_ := Aside0.mk (blk_below (g := gb398) (o := .cells #[.int .i64 a0_0, .int .i64 a0_1, .int .u32 a0_2, .int .u32 a0_3, .bool a0_4, .int .u32 a0_5, .int .u32 a0_6] 26 (0, 0)) (by (with_reducible repeat (first | refine blk_drewN ?_ _ | refine blk_drew ?_ | refine blk_alloc ?_ _)); exact BK398.out) hb); have n1_ := Aside0.mk (below_step (by repeat (first | (with_reducible first | exact HB.out | apply below_alloc | apply pw_below_drewN | apply below_drew1 | refine below_set ?_ GE398.out) | exact HB.out)) hb); clear BK398; clear HB; have BK398 := n0_; have HB := n1_; clear n0_ n1_; (try clear hb); (try clear hb2); (try clear hk); (try clear hi)) | ((with_reducible refine gate_dst (N := 9) rfl ?_); refine box_event ?hg (N := 9) ?hd (cs := #[.int .i64 0, .int .i64 0, .int .u32 0, .int .u32 0, .bool false, .int .u32 0, .int .u32 0]) (t := 26) ?hr ?_; (case hd => rfl); (case hg => rfl); (case hr => first | (go_simp; done) | (go_simp; rfl)); intro gb422 hg w84 hbox hb; have n0_ := Aside0.mk (blk_below (g := gb398) (o := .cells #[.int .i64 a0_0, .int .i64 a0_1, .int .u32 a0_2, .int .u32 a0_3, .bool a0_4, .int .u32 a0_5, .int .u32 a0_6] 26 (0, 0)) (by (with_reducible repeat (first | refine blk_drewN ?_ _ | refine blk_drew ?_ | refine blk_alloc ?_ _)); exact BK398.out) hb); have n1_ := Aside0.mk (below_step (by repeat (first | (with_reducible first | exact HB.out | apply below_alloc | apply pw_below_drewN | apply below_drew1 | refine below_set ?_ GE398.out) | exact HB.out)) hb); have n2_ := Aside0.mk (hbox); have n3_ := Aside0.mk ((by rw [hg]; exact (below_size (by repeat (first | (with_reducible first | exact HB.out | apply below_alloc | apply pw_below_drewN | apply below_drew1 | refine below_set ?_ GE398.out) | exact HB.out))) : w.heap.size ≤ gb422)); have n4_ := Aside0.mk ((by rw [hg]; exact (below_size (by repeat (first | (with_reducible first | exact HB.out | apply below_alloc | apply pw_below_drewN | apply below_drew1 | refine below_set ?_ GE398.out) | exact HB.out))) : w.heap.size ≤ gb422)); have n5_ := Aside0.mk ((by rw [hg]; exact Nat.ne_of_lt (blk_lt (g := gb398) (o := .cells #[.int .i64 a0_0, .int .i64 a0_1, .int .u32 a0_2, .int .u32 a0_3, .bool a0_4, .int .u32 a0_5, .int .u32 a0_6] 26 (0, 0)) (by (with_reducible repeat (first | refine blk_drewN ?_ _ | refine blk_drew ?_ | refine blk_alloc ?_ _)); exact BK398.out)) : gb398 ≠ gb422)); have n6_ := Aside0.mk ((by rw [hg]; exact Nat.ne_of_gt (blk_lt (g := gb398) (o := .cells #[.int .i64 a0_0, .int .i64 a0_1, .int .u32 a0_2, .int .u32 a0_3, .bool a0_4, .int .u32 a0_5, .int .u32 a0_6] 26 (0, 0)) (by (with_reducible repeat (first | refine blk_drewN ?_ _ | refine blk_drew ?_ | refine blk_alloc ?_ _)); exact BK398.out)) : gb422 ≠ gb398)); clear BK398; clear HB; have BK398 := n0_; have HB := n1_; have BK422 := n2_; have GW422 := n3_; have GE422 := n4_; have NB398_422 := n5_; have NB422_398 := n6_; clear n0_ n1_ n2_ n3_ n4_ n5_ n6_; clear hb hbox hg; have hnb85 := NB422_398.out; have hnc85 := NB398_422.out; have hcz86_0 : w84.cell? ⟨gb422, 0, none⟩ = some (.int .i64 0) := (blk_cell BK422.out 0).trans rfl; have hcz86_1 : w84.cell? ⟨gb422, 1, none⟩ = some (.int .i64 0) := (blk_cell BK422.out 1).trans rfl; have hcz86_2 : w84.cell? ⟨gb422, 2, none⟩ = some (.int .u32 0) := (blk_cell BK422.out 2).trans rfl; have hcz86_3 : w84.cell? ⟨gb422, 3, none⟩ = some (.int .u32 0) := (blk_cell BK422.out 3).trans rfl; have hcz86_4 : w84.cell? ⟨gb422, 4, none⟩ = some (.bool false) := (blk_cell BK422.out 4).trans rfl; have hcz86_5 : w84.cell? ⟨gb422, 5, none⟩ = some (.int .u32 0) := (blk_cell BK422.out 5).trans rfl; have hcz86_6 : w84.cell? ⟨gb422, 6, none⟩ = some (.int .u32 0) := (blk_cell BK422.out 6).trans rfl; have hfz86_0 := blk_frozen BK422.out 0; have hfz86_1 := blk_frozen BK422.out 1; have hfz86_2 := blk_frozen BK422.out 2; have hfz86_3 := blk_frozen BK422.out 3; have hfz86_4 := blk_frozen BK422.out 4; have hfz86_5 := blk_frozen BK422.out 5; have hfz86_6 := blk_frozen BK422.out 6) | ((with_reducible refine gate_callee (f := 10) rfl ?_); refine goesL_ (some 48) rfl rfl Try.func10 (by kernel_rfl) rfl #[] rfl (by (try simp only [List.map_toArray, List.map_cons, List.map_nil]); first | done | rfl | (simp only [List.length_drop, List.length_take]; rfl)) ?_; (with_reducible refine (trothlaw06_alive.calls  true _ A81.out).mono ?_); rintro e w87 ⟨rfl, hb⟩; refine ⟨_, rfl, ?_⟩; have n0_ := Aside0.mk (blk_below (g := gb398) (o := .cells #[.int .i64 a0_0, .int .i64 a0_1, .int .u32 a0_2, .int .u32 a0_3, .bool a0_4, .int .u32 a0_5, .int .u32 a0_6] 26 (0, 0)) (by (with_reducible repeat (first | refine blk_drewN ?_ _ | refine blk_drew ?_ | refine blk_alloc ?_ _)); refine blk_far ?_ NB398_422.out _; (with_reducible repeat (first | refine blk_drewN ?_ _ | refine blk_drew ?_ | refine blk_alloc ?_ _)); refine blk_far ?_ NB398_422.out _; (with_reducible repeat (first | refine blk_drewN ?_ _ | refine blk_drew ?_ | refine blk_alloc ?_ _)); refine blk_far ?_ NB398_422.out _; (with_reducible repeat (first | refine blk_drewN ?_ _ | refine blk_drew ?_ | refine blk_alloc ?_ _)); refine blk_far ?_ NB398_422.out _; (with_reducible repeat (first | refine blk_drewN ?_ _ | refine blk_drew ?_ | refine blk_alloc ?_ _)); refine blk_far ?_ NB398_422.out _; (with_reducible repeat (first | refine blk_drewN ?_ _ | refine blk_drew ?_ | refine blk_alloc ?_ _)); refine blk_far ?_ NB398_422.out _; (with_reducible repeat (first | refine blk_drewN ?_ _ | refine blk_drew ?_ | refine blk_alloc ?_ _)); refine blk_far ?_ NB398_422.out _; (with_reducible repeat (first | refine blk_drewN ?_ _ | refine blk_drew ?_ | refine blk_alloc ?_ _)); exact BK398.out) hb); have n1_ := Aside0.mk (blk_below (g := gb422) (o := .cells #[.int .i64 t414, .int .i64 t415, .int .u32 t416, .int .u32 t417, .bool t418, .int .u32 t419, .int .u32 t420] 26 (0, 0)) (by (with_reducible repeat (first | refine blk_drewN ?_ _ | refine blk_drew ?_ | refine blk_alloc ?_ _)); refine blk_put (cs := #[.int .i64 t414, .int .i64 t415, .int .u32 t416, .int .u32 t417, .bool t418, .int .u32 t419, .int .u32 0]) ?_ 6 _ rfl; (with_reducible repeat (first | refine blk_drewN ?_ _ | refine blk_drew ?_ | refine blk_alloc ?_ _)); refine blk_put (cs := #[.int .i64 t414, .int .i64 t415, .int .u32 t416, .int .u32 t417, .bool t418, .int .u32 0, .int .u32 0]) ?_ 5 _ rfl; (with_reducible repeat (first | refine blk_drewN ?_ _ | refine blk_drew ?_ | refine blk_alloc ?_ _)); refine blk_put (cs := #[.int .i64 t414, .int .i64 t415, .int .u32 t416, .int .u32 t417, .bool false, .int .u32 0, .int .u32 0]) ?_ 4 _ rfl; (with_reducible repeat (first | refine blk_drewN ?_ _ | refine blk_drew ?_ | refine blk_alloc ?_ _)); refine blk_put (cs := #[.int .i64 t414, .int .i64 t415, .int .u32 t416, .int .u32 0, .bool false, .int .u32 0, .int .u32 0]) ?_ 3 _ rfl; (with_reducible repeat (first | refine blk_drewN ?_ _ | refine blk_drew ?_ | refine blk_alloc ?_ _)); refine blk_put (cs := #[.int .i64 t414, .int .i64 t415, .int .u32 0, .int .u32 0, .bool false, .int .u32 0, .int .u32 0]) ?_ 2 _ rfl; (with_reducible repeat (first | refine blk_drewN ?_ _ | refine blk_drew ?_ | refine blk_alloc ?_ _)); refine blk_put (cs := #[.int .i64 t414, .int .i64 0, .int .u32 0, .int .u32 0, .bool false, .int .u32 0, .int .u32 0]) ?_ 1 _ rfl; (with_reducible repeat (first | refine blk_drewN ?_ _ | refine blk_drew ?_ | refine blk_alloc ?_ _)); refine blk_put (cs := #[.int .i64 0, .int .i64 0, .int .u32 0, .int .u32 0, .bool false, .int .u32 0, .int .u32 0]) ?_ 0 _ rfl; (with_reducible repeat (first | refine blk_drewN ?_ _ | refine blk_drew ?_ | refine blk_alloc ?_ _)); exact BK422.out) hb); have n2_ := Aside0.mk (below_step (by repeat (first | (with_reducible first | exact HB.out | apply below_alloc | apply pw_below_drewN | apply below_drew1 | refine below_set ?_ GE398.out | refine below_set ?_ GE422.out) | exact HB.out)) hb); clear BK398; clear BK422; clear HB; have BK398 := n0_; have BK422 := n1_; have HB := n2_; clear n0_ n1_ n2_; (try clear hb); (try clear hb2); (try clear hk); (try clear hi); have hcz88_0 : w87.cell? ⟨gb422, 0, none⟩ = some (.int .i64 t414) := (blk_cell BK422.out 0).trans rfl; have hcz88_1 : w87.cell? ⟨gb422, 1, none⟩ = some (.int .i64 t415) := (blk_cell BK422.out 1).trans rfl; have hcz88_2 : w87.cell? ⟨gb422, 2, none⟩ = some (.int .u32 t416) := (blk_cell BK422.out 2).trans rfl; have hcz88_3 : w87.cell? ⟨gb422, 3, none⟩ = some (.int .u32 t417) := (blk_cell BK422.out 3).trans rfl; have hcz88_4 : w87.cell? ⟨gb422, 4, none⟩ = some (.bool t418) := (blk_cell BK422.out 4).trans rfl; have hcz88_5 : w87.cell? ⟨gb422, 5, none⟩ = some (.int .u32 t419) := (blk_cell BK422.out 5).trans rfl; have hcz88_6 : w87.cell? ⟨gb422, 6, none⟩ = some (.int .u32 t420) := (blk_cell BK422.out 6).trans rfl; have hfz88_0 := blk_frozen BK422.out 0; have hfz88_1 := blk_frozen BK422.out 1; have hfz88_2 := blk_frozen BK422.out 2; have hfz88_3 := blk_frozen BK422.out 3; have hfz88_4 := blk_frozen BK422.out 4; have hfz88_5 := blk_frozen BK422.out 5; have hfz88_6 := blk_frozen BK422.out 6))
            go_ret
            exact ⟨by first | rfl | (simp [errW_none, errW_some]; simpa using hrt) | (simp [errW_none, errW_some] <;> rfl) | (simp [*, errW_none, errW_some] <;> rfl), by repeat (first | (with_reducible first | exact HB.out | apply below_alloc | apply pw_below_drewN | apply below_drew1 | refine below_set ?_ GE398.out | refine below_set ?_ GE422.out) | exact HB.out)⟩
          · replace c82 := Bool.eq_false_iff.mpr c82
            subst c82
            have H1 : (some false) = some r := by rw [if_neg (show ¬ (false = true) by decide)] at H; exact H
            rw [hrt] at H1
            cases H1
-- NOT PRINTED: function 6 (trothlaw06_PshCut)

end Go.Proofs.Ytfndcfffbpbbhaa.Q

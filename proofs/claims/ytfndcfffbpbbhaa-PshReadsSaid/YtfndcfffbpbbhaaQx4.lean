/- What the print of the translation gave for functions of this seat: for each a plain function and the proof that the call does what it says. -/
import Derived.Test.YtfndcfffbpbbhaaQx0
import Derived.Test.YtfndcfffbpbbhaaQHand
import Derived.Test.YtfndcfffbpbbhaaQx3
namespace Go.Proofs.Ytfndcfffbpbbhaa.Q
open Go.RowKit Go.Proofs.YtfndcfffbpbbhaaW.PrintWords Go.Proofs.YtfndcfffbpbbhaaW.PrintLast Go.Proofs.YtfndcfffbpbbhaaW.PrintMore
attribute [local go_sem] max2_int min2_int max_two min_two max_three min_three max_four min_four   
set_option linter.unusedVariables false
set_option linter.unusedSimpArgs false
mutual
def trothref06_Right.j0 : Nat → Bool → Int → Int → Int → Int → Bool → Int → Int → Option (Bool)
 | 0, _, _, _, _, _, _, _, _ => none
 | k + 1, x10, x160000, x160001, x160002, x160003, x160004, x160005, x160006 => if x10 = true then (some false) else (if x160000 < 12 then ((trothref05_Right.f x160001 x160002 x160003).bind fun t160 => (if t160 = true then (if x160000 = 9 then (if x160005 = 0 then (some (x160006 == 0)) else (some false)) else (if x160004 = true then (some false) else (if x160005 = 0 then (some (x160006 == 0)) else (some false)))) else (some false))) else (if x160001 = 0 then (if x160002 = 0 then (if x160003 = 0 then (trothref06_Right.j1 k x160004 x160000 x160001 x160002 x160003 x160004 x160005 x160006) else (trothref06_Right.j1 k true x160000 x160001 x160002 x160003 x160004 x160005 x160006)) else (trothref06_Right.j1 k true x160000 x160001 x160002 x160003 x160004 x160005 x160006)) else (trothref06_Right.j1 k true x160000 x160001 x160002 x160003 x160004 x160005 x160006)))
def trothref06_Right.j1 : Nat → Bool → Int → Int → Int → Int → Bool → Int → Int → Option (Bool)
 | 0, _, _, _, _, _, _, _, _ => none
 | k + 1, x56, x160000, x160001, x160002, x160003, x160004, x160005, x160006 => if x56 = true then (some false) else (if x160000 = 12 then (some (x160005 != 0)) else (if x160005 = 0 then (some (x160006 == 0)) else (some false)))
end
def trothref06_Right.f (k : Nat) (a0_0 : Int) (a0_1 : Int) (a0_2 : Int) (a0_3 : Int) (a0_4 : Bool) (a0_5 : Int) (a0_6 : Int) : Option (Bool) := if a0_0 < 1 then (trothref06_Right.j0 k true a0_0 a0_1 a0_2 a0_3 a0_4 a0_5 a0_6) else (trothref06_Right.j0 k (decide (a0_0 > 13)) a0_0 a0_1 a0_2 a0_3 a0_4 a0_5 a0_6)
theorem trothref06_Right.mono_l : ∀ k, (∀ y0 y1 y2 y3 y4 y5 y6 y7, LeO (trothref06_Right.j0 k y0 y1 y2 y3 y4 y5 y6 y7) (trothref06_Right.j0 (k + 1) y0 y1 y2 y3 y4 y5 y6 y7)) ∧ (∀ y0 y1 y2 y3 y4 y5 y6 y7, LeO (trothref06_Right.j1 k y0 y1 y2 y3 y4 y5 y6 y7) (trothref06_Right.j1 (k + 1) y0 y1 y2 y3 y4 y5 y6 y7))
 | 0 => ⟨fun _ _ _ _ _ _ _ _ r h => by simp [trothref06_Right.j0] at h, fun _ _ _ _ _ _ _ _ r h => by simp [trothref06_Right.j1] at h⟩
 | k + 1 => by
  obtain ⟨ih0, ih1⟩ := trothref06_Right.mono_l k
  refine ⟨?_, ?_⟩
  ·intro y0 y1 y2 y3 y4 y5 y6 y7
   unfold trothref06_Right.j0
   repeat' first
   | (with_reducible exact ih0 _ _ _ _ _ _ _ _)
   | (with_reducible exact ih1 _ _ _ _ _ _ _ _)
   | (with_reducible exact LeO.refl _)
   | (with_reducible exact LeO.none _)
   | (with_reducible refine LeO.ite ?_ ?_)
   | (with_reducible refine LeO.bind ?_ (fun _ => ?_))
   | exact ih0 _ _ _ _ _ _ _ _
   | exact ih1 _ _ _ _ _ _ _ _
   | exact LeO.none _
   | refine LeO.ite ?_ ?_
   | refine LeO.bind ?_ (fun _ => ?_)
  ·intro y0 y1 y2 y3 y4 y5 y6 y7
   unfold trothref06_Right.j1
   repeat' first
   | (with_reducible exact ih0 _ _ _ _ _ _ _ _)
   | (with_reducible exact ih1 _ _ _ _ _ _ _ _)
   | (with_reducible exact LeO.refl _)
   | (with_reducible exact LeO.none _)
   | (with_reducible refine LeO.ite ?_ ?_)
   | (with_reducible refine LeO.bind ?_ (fun _ => ?_))
   | exact ih0 _ _ _ _ _ _ _ _
   | exact ih1 _ _ _ _ _ _ _ _
   | exact LeO.none _
   | refine LeO.ite ?_ ?_
   | refine LeO.bind ?_ (fun _ => ?_)
theorem trothref06_Right.mono : ∀ a0 a1 a2 a3 a4 a5 a6 k, LeO (trothref06_Right.f k a0 a1 a2 a3 a4 a5 a6) (trothref06_Right.f (k + 1) a0 a1 a2 a3 a4 a5 a6) := by
 intro a0 a1 a2 a3 a4 a5 a6 k
 obtain ⟨ih0, ih1⟩ := trothref06_Right.mono_l k
 unfold trothref06_Right.f
 repeat' first
   | (with_reducible exact ih0 _ _ _ _ _ _ _ _)
   | (with_reducible exact ih1 _ _ _ _ _ _ _ _)
   | (with_reducible exact LeO.refl _)
   | (with_reducible exact LeO.none _)
   | (with_reducible refine LeO.ite ?_ ?_)
   | (with_reducible refine LeO.bind ?_ (fun _ => ?_))
   | exact ih0 _ _ _ _ _ _ _ _
   | exact ih1 _ _ _ _ _ _ _ _
   | exact LeO.none _
   | refine LeO.ite ?_ ?_
   | refine LeO.bind ?_ (fun _ => ?_)
set_option maxHeartbeats 8000000 in
set_option maxRecDepth 100000 in
theorem trothref06_Right.calls (k : Nat) (a0_0 : Int) (a0_1 : Int) (a0_2 : Int) (a0_3 : Int) (a0_4 : Bool) (a0_5 : Int) (a0_6 : Int) (r : Bool) (w : World) (h : trothref06_Right.f k a0_0 a0_1 a0_2 a0_3 a0_4 a0_5 a0_6 = some r) :
  Calls Try.prog 12 #[.agg #[.int .i64 a0_0, .int .i64 a0_1, .int .u32 a0_2, .int .u32 a0_3, .bool a0_4, .int .u32 a0_5, .int .u32 a0_6]] w fun e w' => e = .returned (.bool r) ∧ Below w.heap.size w w' := by
 have hu26 := Try.underlying26
 have hu24 := Try.underlying24
 have HB := Aside0.mk (Below.refl w.heap.size w)
 have H : (if a0_0 < 1 then (trothref06_Right.j0 k true a0_0 a0_1 a0_2 a0_3 a0_4 a0_5 a0_6) else (trothref06_Right.j0 k (decide (a0_0 > 13)) a0_0 a0_1 a0_2 a0_3 a0_4 a0_5 a0_6)) = some r := h
 clear h
 have HC2 := Aside0.mk H
 clear H
 go_enter Try.func12, Try.ntmps12
 go_upto_region 1 with (first | ((with_reducible refine gate_dst (N := 1) rfl ?_); refine box_event ?hg (N := 1) ?hd (cs := #[.int .i64 a0_0, .int .i64 a0_1, .int .u32 a0_2, .int .u32 a0_3, .bool a0_4, .int .u32 a0_5, .int .u32 a0_6]) (t := 26) ?hr ?_; (case hd => rfl); (case hg => rfl); (case hr => first | (go_simp; done) | (go_simp; rfl)); intro gb159 hg w3 hbox hb; have n0_ := Aside0.mk (below_step (by repeat (first | (with_reducible first | exact HB.out | apply below_alloc | apply pw_below_drewN | apply below_drew1) | exact HB.out)) hb); have n1_ := Aside0.mk (hbox); have n2_ := Aside0.mk ((by rw [hg]; exact (below_size (by repeat (first | (with_reducible first | exact HB.out | apply below_alloc | apply pw_below_drewN | apply below_drew1) | exact HB.out))) : w.heap.size ≤ gb159)); have n3_ := Aside0.mk ((by rw [hg]; exact (below_size (by repeat (first | (with_reducible first | exact HB.out | apply below_alloc | apply pw_below_drewN | apply below_drew1) | exact HB.out))) : w.heap.size ≤ gb159)); clear HB; have HB := n0_; have BK159 := n1_; have GW159 := n2_; have GE159 := n3_; clear n0_ n1_ n2_ n3_; clear hb hbox hg))
 (try simp only [Act.put, List.setIfInBounds_toArray, List.set_cons_zero, List.set_cons_succ])
 go_cut [10] (fun v10 wc => ∃ (kq : Nat) (x10_1 : Bool), v10 = .bool x10_1 ∧ Aside0 (trothref06_Right.j0 kq x10_1 a0_0 a0_1 a0_2 a0_3 a0_4 a0_5 a0_6 = some r) ∧ Aside0 (kq ≤ k) ∧ Aside0 (wc.heap[gb159]? = some (.cells #[.int .i64 a0_0, .int .i64 a0_1, .int .u32 a0_2, .int .u32 a0_3, .bool a0_4, .int .u32 a0_5, .int .u32 a0_6] 26 (0, 0))) ∧ Aside0 (Below w.heap.size w wc))
 case first =>
  have H := HC2.out
  clear HC2
  by_cases c4 : a0_0 < 1
  ·rw [if_pos c4] at H
   have c4b0 : decide (a0_0 < 1) = true := decide_eq_true c4
   clear c4
   (first | rw [c4b0] | (simp only [i64_w, i32_w]; rw [c4b0]) | skip)
   have H' := Aside0.mk H
   clear H
   have hcz5_0 : w3.cell? ⟨gb159, 0, none⟩ = some (.int .i64 a0_0) := (blk_cell BK159.out 0).trans rfl
   have hcz5_1 : w3.cell? ⟨gb159, 1, none⟩ = some (.int .i64 a0_1) := (blk_cell BK159.out 1).trans rfl
   have hcz5_2 : w3.cell? ⟨gb159, 2, none⟩ = some (.int .u32 a0_2) := (blk_cell BK159.out 2).trans rfl
   have hcz5_3 : w3.cell? ⟨gb159, 3, none⟩ = some (.int .u32 a0_3) := (blk_cell BK159.out 3).trans rfl
   have hcz5_4 : w3.cell? ⟨gb159, 4, none⟩ = some (.bool a0_4) := (blk_cell BK159.out 4).trans rfl
   have hcz5_5 : w3.cell? ⟨gb159, 5, none⟩ = some (.int .u32 a0_5) := (blk_cell BK159.out 5).trans rfl
   have hcz5_6 : w3.cell? ⟨gb159, 6, none⟩ = some (.int .u32 a0_6) := (blk_cell BK159.out 6).trans rfl
   have hfz5_0 := blk_frozen BK159.out 0
   have hfz5_1 := blk_frozen BK159.out 1
   have hfz5_2 := blk_frozen BK159.out 2
   have hfz5_3 := blk_frozen BK159.out 3
   have hfz5_4 := blk_frozen BK159.out 4
   have hfz5_5 := blk_frozen BK159.out 5
   have hfz5_6 := blk_frozen BK159.out 6
   go_wp2
   go_meet
   case rel => exact ⟨_, (true), (by first | rfl | (simp; done) | (simp [*]; done)), H', ⟨by first | omega | exact Nat.le_refl _⟩, ⟨by (with_reducible repeat (first | refine blk_drewN ?_ _ | refine blk_drew ?_ | refine blk_alloc ?_ _)); exact BK159.out⟩, ⟨by repeat (first | (with_reducible first | exact HB.out | apply below_alloc | apply pw_below_drewN | apply below_drew1 | refine below_set ?_ GE159.out) | exact HB.out)⟩⟩
  ·rw [if_neg c4] at H
   have c4b0 : decide (a0_0 < 1) = false := decide_eq_false c4
   clear c4
   (first | rw [c4b0] | (simp only [i64_w, i32_w]; rw [c4b0]) | skip)
   have H' := Aside0.mk H
   clear H
   have hcz6_0 : w3.cell? ⟨gb159, 0, none⟩ = some (.int .i64 a0_0) := (blk_cell BK159.out 0).trans rfl
   have hcz6_1 : w3.cell? ⟨gb159, 1, none⟩ = some (.int .i64 a0_1) := (blk_cell BK159.out 1).trans rfl
   have hcz6_2 : w3.cell? ⟨gb159, 2, none⟩ = some (.int .u32 a0_2) := (blk_cell BK159.out 2).trans rfl
   have hcz6_3 : w3.cell? ⟨gb159, 3, none⟩ = some (.int .u32 a0_3) := (blk_cell BK159.out 3).trans rfl
   have hcz6_4 : w3.cell? ⟨gb159, 4, none⟩ = some (.bool a0_4) := (blk_cell BK159.out 4).trans rfl
   have hcz6_5 : w3.cell? ⟨gb159, 5, none⟩ = some (.int .u32 a0_5) := (blk_cell BK159.out 5).trans rfl
   have hcz6_6 : w3.cell? ⟨gb159, 6, none⟩ = some (.int .u32 a0_6) := (blk_cell BK159.out 6).trans rfl
   have hfz6_0 := blk_frozen BK159.out 0
   have hfz6_1 := blk_frozen BK159.out 1
   have hfz6_2 := blk_frozen BK159.out 2
   have hfz6_3 := blk_frozen BK159.out 3
   have hfz6_4 := blk_frozen BK159.out 4
   have hfz6_5 := blk_frozen BK159.out 5
   have hfz6_6 := blk_frozen BK159.out 6
   go_wp2
   go_meet
   case rel => exact ⟨_, (decide (a0_0 > 13)), (by first | rfl | (simp; done) | (simp [*]; done)), H', ⟨by first | omega | exact Nat.le_refl _⟩, ⟨by (with_reducible repeat (first | refine blk_drewN ?_ _ | refine blk_drew ?_ | refine blk_alloc ?_ _)); exact BK159.out⟩, ⟨by repeat (first | (with_reducible first | exact HB.out | apply below_alloc | apply pw_below_drewN | apply below_drew1 | refine below_set ?_ GE159.out) | exact HB.out)⟩⟩
 case rest =>
  clear HC2
  try clear c1
  try clear p2
  try clear c4
  try clear c4b0
  try clear hcz5_0
  try clear hcz5_1
  try clear hcz5_2
  try clear hcz5_3
  try clear hcz5_4
  try clear hcz5_5
  try clear hcz5_6
  try clear hcz6_0
  try clear hcz6_1
  try clear hcz6_2
  try clear hcz6_3
  try clear hcz6_4
  try clear hcz6_5
  try clear hcz6_6
  try clear hfz5_0
  try clear hfz5_1
  try clear hfz5_2
  try clear hfz5_3
  try clear hfz5_4
  try clear hfz5_5
  try clear hfz5_6
  try clear hfz6_0
  try clear hfz6_1
  try clear hfz6_2
  try clear hfz6_3
  try clear hfz6_4
  try clear hfz6_5
  try clear hfz6_6
  obtain ⟨kq, x10_1, rfl, HA, HJ1, BK159, HB⟩ := hcut
  cases kq with
  | zero => exact absurd HA.out (by simp [trothref06_Right.j0])
  | succ kj1 =>
   have H := HA.out
   clear HA
   simp only [trothref06_Right.j0] at H
   by_cases c7 : x10_1 = true
   ·subst c7
    have H1 : (some false) = some r := by rw [if_pos rfl] at H; exact H
    clear H
    have H := H1
    clear H1
    obtain rfl := Option.some.inj H
    go_wp2
    go_ret
    exact ⟨by first | rfl | (simp [errW_none, errW_some] <;> rfl) | (simp [*, errW_none, errW_some] <;> rfl), by repeat (first | (with_reducible first | exact HB.out | apply below_alloc | apply pw_below_drewN | apply below_drew1 | refine below_set ?_ GE159.out) | exact HB.out)⟩
   ·replace c7 := Bool.eq_false_iff.mpr c7
    subst c7
    have H1 : (if a0_0 < 12 then ((trothref05_Right.f a0_1 a0_2 a0_3).bind fun t160 => (if t160 = true then (if a0_0 = 9 then (if a0_5 = 0 then (some (a0_6 == 0)) else (some false)) else (if a0_4 = true then (some false) else (if a0_5 = 0 then (some (a0_6 == 0)) else (some false)))) else (some false))) else (if a0_1 = 0 then (if a0_2 = 0 then (if a0_3 = 0 then (trothref06_Right.j1 kj1 a0_4 a0_0 a0_1 a0_2 a0_3 a0_4 a0_5 a0_6) else (trothref06_Right.j1 kj1 true a0_0 a0_1 a0_2 a0_3 a0_4 a0_5 a0_6)) else (trothref06_Right.j1 kj1 true a0_0 a0_1 a0_2 a0_3 a0_4 a0_5 a0_6)) else (trothref06_Right.j1 kj1 true a0_0 a0_1 a0_2 a0_3 a0_4 a0_5 a0_6))) = some r := by rw [if_neg (show ¬ (false = true) by decide)] at H; exact H
    clear H
    have H := H1
    clear H1
    by_cases c8 : a0_0 < 12
    ·rw [if_pos c8] at H
     have c8b0 : decide (a0_0 < 12) = true := decide_eq_true c8
     clear c8
     replace H := Option.bind_eq_some_iff.mp H
     obtain ⟨t160, A90, H⟩ := H
     replace H : (if t160 = true then (if a0_0 = 9 then (if a0_5 = 0 then (some (a0_6 == 0)) else (some false)) else (if a0_4 = true then (some false) else (if a0_5 = 0 then (some (a0_6 == 0)) else (some false)))) else (some false)) = some r := H
     have A9 := Aside0.mk A90
     clear A90
     by_cases c10 : t160 = true
     ·subst c10
      have H1 : (if a0_0 = 9 then (if a0_5 = 0 then (some (a0_6 == 0)) else (some false)) else (if a0_4 = true then (some false) else (if a0_5 = 0 then (some (a0_6 == 0)) else (some false)))) = some r := by rw [if_pos rfl] at H; exact H
      clear H
      have H := H1
      clear H1
      by_cases c11 : a0_0 = 9
      ·rw [if_pos c11] at H
       have c11b0 : (a0_0 == 9) = true := beq_iff_eq.mpr c11
       have c11b1 : (a0_0 != 9) = false := bne_eq_false_iff_eq.mpr c11
       clear c11
       by_cases c12 : a0_5 = 0
       ·rw [if_pos c12] at H
        have c12b0 : (a0_5 == 0) = true := beq_iff_eq.mpr c12
        have c12b1 : (a0_5 != 0) = false := bne_eq_false_iff_eq.mpr c12
        clear c12
        obtain rfl := Option.some.inj H
        have hcz13_0 : wc.cell? ⟨gb159, 0, none⟩ = some (.int .i64 a0_0) := (blk_cell BK159.out 0).trans rfl
        have hcz13_1 : wc.cell? ⟨gb159, 1, none⟩ = some (.int .i64 a0_1) := (blk_cell BK159.out 1).trans rfl
        have hcz13_2 : wc.cell? ⟨gb159, 2, none⟩ = some (.int .u32 a0_2) := (blk_cell BK159.out 2).trans rfl
        have hcz13_3 : wc.cell? ⟨gb159, 3, none⟩ = some (.int .u32 a0_3) := (blk_cell BK159.out 3).trans rfl
        have hcz13_4 : wc.cell? ⟨gb159, 4, none⟩ = some (.bool a0_4) := (blk_cell BK159.out 4).trans rfl
        have hcz13_5 : wc.cell? ⟨gb159, 5, none⟩ = some (.int .u32 a0_5) := (blk_cell BK159.out 5).trans rfl
        have hcz13_6 : wc.cell? ⟨gb159, 6, none⟩ = some (.int .u32 a0_6) := (blk_cell BK159.out 6).trans rfl
        have hfz13_0 := blk_frozen BK159.out 0
        have hfz13_1 := blk_frozen BK159.out 1
        have hfz13_2 := blk_frozen BK159.out 2
        have hfz13_3 := blk_frozen BK159.out 3
        have hfz13_4 := blk_frozen BK159.out 4
        have hfz13_5 := blk_frozen BK159.out 5
        have hfz13_6 := blk_frozen BK159.out 6
        go_wp2_with (first | ((with_reducible refine gate_callee (f := 25) rfl ?_); refine goesL_ (some 16) rfl rfl Try.func25 (by kernel_rfl) rfl #[.agg #[.int .i64 a0_1, .int .u32 a0_2, .int .u32 a0_3]] rfl (by (try simp only [List.map_toArray, List.map_cons, List.map_nil]); first | done | rfl | (simp only [List.length_drop, List.length_take]; rfl)) ?_; (with_reducible refine (trothref05_Right.calls a0_1 a0_2 a0_3 true _ A9.out).mono ?_); rintro e w14 ⟨rfl, hb⟩; refine ⟨_, rfl, ?_⟩; have n0_ := Aside0.mk (blk_below (g := gb159) (o := .cells #[.int .i64 a0_0, .int .i64 a0_1, .int .u32 a0_2, .int .u32 a0_3, .bool a0_4, .int .u32 a0_5, .int .u32 a0_6] 26 (0, 0)) (by (with_reducible repeat (first | refine blk_drewN ?_ _ | refine blk_drew ?_ | refine blk_alloc ?_ _)); exact BK159.out) hb); have n1_ := Aside0.mk (below_step (by repeat (first | (with_reducible first | exact HB.out | apply below_alloc | apply pw_below_drewN | apply below_drew1 | refine below_set ?_ GE159.out) | exact HB.out)) hb); clear BK159; clear HB; have BK159 := n0_; have HB := n1_; clear n0_ n1_; (try clear hb); (try clear hb2); (try clear hk); (try clear hi); have hcz15_0 : w14.cell? ⟨gb159, 0, none⟩ = some (.int .i64 a0_0) := (blk_cell BK159.out 0).trans rfl; have hcz15_1 : w14.cell? ⟨gb159, 1, none⟩ = some (.int .i64 a0_1) := (blk_cell BK159.out 1).trans rfl; have hcz15_2 : w14.cell? ⟨gb159, 2, none⟩ = some (.int .u32 a0_2) := (blk_cell BK159.out 2).trans rfl; have hcz15_3 : w14.cell? ⟨gb159, 3, none⟩ = some (.int .u32 a0_3) := (blk_cell BK159.out 3).trans rfl; have hcz15_4 : w14.cell? ⟨gb159, 4, none⟩ = some (.bool a0_4) := (blk_cell BK159.out 4).trans rfl; have hcz15_5 : w14.cell? ⟨gb159, 5, none⟩ = some (.int .u32 a0_5) := (blk_cell BK159.out 5).trans rfl; have hcz15_6 : w14.cell? ⟨gb159, 6, none⟩ = some (.int .u32 a0_6) := (blk_cell BK159.out 6).trans rfl; have hfz15_0 := blk_frozen BK159.out 0; have hfz15_1 := blk_frozen BK159.out 1; have hfz15_2 := blk_frozen BK159.out 2; have hfz15_3 := blk_frozen BK159.out 3; have hfz15_4 := blk_frozen BK159.out 4; have hfz15_5 := blk_frozen BK159.out 5; have hfz15_6 := blk_frozen BK159.out 6))
        go_ret
        exact ⟨by first | rfl | (simp [errW_none, errW_some] <;> rfl) | (simp [*, errW_none, errW_some] <;> rfl), by repeat (first | (with_reducible first | exact HB.out | apply below_alloc | apply pw_below_drewN | apply below_drew1 | refine below_set ?_ GE159.out) | exact HB.out)⟩
       ·rw [if_neg c12] at H
        have c12b0 : (a0_5 == 0) = false := beq_eq_false_iff_ne.mpr c12
        have c12b1 : (a0_5 != 0) = true := bne_iff_ne.mpr c12
        obtain rfl := Option.some.inj H
        have hcz16_0 : wc.cell? ⟨gb159, 0, none⟩ = some (.int .i64 a0_0) := (blk_cell BK159.out 0).trans rfl
        have hcz16_1 : wc.cell? ⟨gb159, 1, none⟩ = some (.int .i64 a0_1) := (blk_cell BK159.out 1).trans rfl
        have hcz16_2 : wc.cell? ⟨gb159, 2, none⟩ = some (.int .u32 a0_2) := (blk_cell BK159.out 2).trans rfl
        have hcz16_3 : wc.cell? ⟨gb159, 3, none⟩ = some (.int .u32 a0_3) := (blk_cell BK159.out 3).trans rfl
        have hcz16_4 : wc.cell? ⟨gb159, 4, none⟩ = some (.bool a0_4) := (blk_cell BK159.out 4).trans rfl
        have hcz16_5 : wc.cell? ⟨gb159, 5, none⟩ = some (.int .u32 a0_5) := (blk_cell BK159.out 5).trans rfl
        have hcz16_6 : wc.cell? ⟨gb159, 6, none⟩ = some (.int .u32 a0_6) := (blk_cell BK159.out 6).trans rfl
        have hfz16_0 := blk_frozen BK159.out 0
        have hfz16_1 := blk_frozen BK159.out 1
        have hfz16_2 := blk_frozen BK159.out 2
        have hfz16_3 := blk_frozen BK159.out 3
        have hfz16_4 := blk_frozen BK159.out 4
        have hfz16_5 := blk_frozen BK159.out 5
        have hfz16_6 := blk_frozen BK159.out 6
        go_wp2_with (first | ((with_reducible refine gate_callee (f := 25) rfl ?_); refine goesL_ (some 16) rfl rfl Try.func25 (by kernel_rfl) rfl #[.agg #[.int .i64 a0_1, .int .u32 a0_2, .int .u32 a0_3]] rfl (by (try simp only [List.map_toArray, List.map_cons, List.map_nil]); first | done | rfl | (simp only [List.length_drop, List.length_take]; rfl)) ?_; (with_reducible refine (trothref05_Right.calls a0_1 a0_2 a0_3 true _ A9.out).mono ?_); rintro e w17 ⟨rfl, hb⟩; refine ⟨_, rfl, ?_⟩; have n0_ := Aside0.mk (blk_below (g := gb159) (o := .cells #[.int .i64 a0_0, .int .i64 a0_1, .int .u32 a0_2, .int .u32 a0_3, .bool a0_4, .int .u32 a0_5, .int .u32 a0_6] 26 (0, 0)) (by (with_reducible repeat (first | refine blk_drewN ?_ _ | refine blk_drew ?_ | refine blk_alloc ?_ _)); exact BK159.out) hb); have n1_ := Aside0.mk (below_step (by repeat (first | (with_reducible first | exact HB.out | apply below_alloc | apply pw_below_drewN | apply below_drew1 | refine below_set ?_ GE159.out) | exact HB.out)) hb); clear BK159; clear HB; have BK159 := n0_; have HB := n1_; clear n0_ n1_; (try clear hb); (try clear hb2); (try clear hk); (try clear hi); have hcz18_0 : w17.cell? ⟨gb159, 0, none⟩ = some (.int .i64 a0_0) := (blk_cell BK159.out 0).trans rfl; have hcz18_1 : w17.cell? ⟨gb159, 1, none⟩ = some (.int .i64 a0_1) := (blk_cell BK159.out 1).trans rfl; have hcz18_2 : w17.cell? ⟨gb159, 2, none⟩ = some (.int .u32 a0_2) := (blk_cell BK159.out 2).trans rfl; have hcz18_3 : w17.cell? ⟨gb159, 3, none⟩ = some (.int .u32 a0_3) := (blk_cell BK159.out 3).trans rfl; have hcz18_4 : w17.cell? ⟨gb159, 4, none⟩ = some (.bool a0_4) := (blk_cell BK159.out 4).trans rfl; have hcz18_5 : w17.cell? ⟨gb159, 5, none⟩ = some (.int .u32 a0_5) := (blk_cell BK159.out 5).trans rfl; have hcz18_6 : w17.cell? ⟨gb159, 6, none⟩ = some (.int .u32 a0_6) := (blk_cell BK159.out 6).trans rfl; have hfz18_0 := blk_frozen BK159.out 0; have hfz18_1 := blk_frozen BK159.out 1; have hfz18_2 := blk_frozen BK159.out 2; have hfz18_3 := blk_frozen BK159.out 3; have hfz18_4 := blk_frozen BK159.out 4; have hfz18_5 := blk_frozen BK159.out 5; have hfz18_6 := blk_frozen BK159.out 6))
        go_ret
        exact ⟨by first | rfl | (simp [errW_none, errW_some] <;> rfl) | (simp [*, errW_none, errW_some] <;> rfl), by repeat (first | (with_reducible first | exact HB.out | apply below_alloc | apply pw_below_drewN | apply below_drew1 | refine below_set ?_ GE159.out) | exact HB.out)⟩
      ·rw [if_neg c11] at H
       have c11b0 : (a0_0 == 9) = false := beq_eq_false_iff_ne.mpr c11
       have c11b1 : (a0_0 != 9) = true := bne_iff_ne.mpr c11
       by_cases c19 : a0_4 = true
       ·subst c19
        have H1 : (some false) = some r := by rw [if_pos rfl] at H; exact H
        clear H
        have H := H1
        clear H1
        obtain rfl := Option.some.inj H
        have hcz20_0 : wc.cell? ⟨gb159, 0, none⟩ = some (.int .i64 a0_0) := (blk_cell BK159.out 0).trans rfl
        have hcz20_1 : wc.cell? ⟨gb159, 1, none⟩ = some (.int .i64 a0_1) := (blk_cell BK159.out 1).trans rfl
        have hcz20_2 : wc.cell? ⟨gb159, 2, none⟩ = some (.int .u32 a0_2) := (blk_cell BK159.out 2).trans rfl
        have hcz20_3 : wc.cell? ⟨gb159, 3, none⟩ = some (.int .u32 a0_3) := (blk_cell BK159.out 3).trans rfl
        have hcz20_4 : wc.cell? ⟨gb159, 4, none⟩ = some (.bool true) := (blk_cell BK159.out 4).trans rfl
        have hcz20_5 : wc.cell? ⟨gb159, 5, none⟩ = some (.int .u32 a0_5) := (blk_cell BK159.out 5).trans rfl
        have hcz20_6 : wc.cell? ⟨gb159, 6, none⟩ = some (.int .u32 a0_6) := (blk_cell BK159.out 6).trans rfl
        have hfz20_0 := blk_frozen BK159.out 0
        have hfz20_1 := blk_frozen BK159.out 1
        have hfz20_2 := blk_frozen BK159.out 2
        have hfz20_3 := blk_frozen BK159.out 3
        have hfz20_4 := blk_frozen BK159.out 4
        have hfz20_5 := blk_frozen BK159.out 5
        have hfz20_6 := blk_frozen BK159.out 6
        go_wp2_with (first | ((with_reducible refine gate_callee (f := 25) rfl ?_); refine goesL_ (some 16) rfl rfl Try.func25 (by kernel_rfl) rfl #[.agg #[.int .i64 a0_1, .int .u32 a0_2, .int .u32 a0_3]] rfl (by (try simp only [List.map_toArray, List.map_cons, List.map_nil]); first | done | rfl | (simp only [List.length_drop, List.length_take]; rfl)) ?_; (with_reducible refine (trothref05_Right.calls a0_1 a0_2 a0_3 true _ A9.out).mono ?_); rintro e w21 ⟨rfl, hb⟩; refine ⟨_, rfl, ?_⟩; have n0_ := Aside0.mk (blk_below (g := gb159) (o := .cells #[.int .i64 a0_0, .int .i64 a0_1, .int .u32 a0_2, .int .u32 a0_3, .bool true, .int .u32 a0_5, .int .u32 a0_6] 26 (0, 0)) (by (with_reducible repeat (first | refine blk_drewN ?_ _ | refine blk_drew ?_ | refine blk_alloc ?_ _)); exact BK159.out) hb); have n1_ := Aside0.mk (below_step (by repeat (first | (with_reducible first | exact HB.out | apply below_alloc | apply pw_below_drewN | apply below_drew1 | refine below_set ?_ GE159.out) | exact HB.out)) hb); clear BK159; clear HB; have BK159 := n0_; have HB := n1_; clear n0_ n1_; (try clear hb); (try clear hb2); (try clear hk); (try clear hi); have hcz22_0 : w21.cell? ⟨gb159, 0, none⟩ = some (.int .i64 a0_0) := (blk_cell BK159.out 0).trans rfl; have hcz22_1 : w21.cell? ⟨gb159, 1, none⟩ = some (.int .i64 a0_1) := (blk_cell BK159.out 1).trans rfl; have hcz22_2 : w21.cell? ⟨gb159, 2, none⟩ = some (.int .u32 a0_2) := (blk_cell BK159.out 2).trans rfl; have hcz22_3 : w21.cell? ⟨gb159, 3, none⟩ = some (.int .u32 a0_3) := (blk_cell BK159.out 3).trans rfl; have hcz22_4 : w21.cell? ⟨gb159, 4, none⟩ = some (.bool true) := (blk_cell BK159.out 4).trans rfl; have hcz22_5 : w21.cell? ⟨gb159, 5, none⟩ = some (.int .u32 a0_5) := (blk_cell BK159.out 5).trans rfl; have hcz22_6 : w21.cell? ⟨gb159, 6, none⟩ = some (.int .u32 a0_6) := (blk_cell BK159.out 6).trans rfl; have hfz22_0 := blk_frozen BK159.out 0; have hfz22_1 := blk_frozen BK159.out 1; have hfz22_2 := blk_frozen BK159.out 2; have hfz22_3 := blk_frozen BK159.out 3; have hfz22_4 := blk_frozen BK159.out 4; have hfz22_5 := blk_frozen BK159.out 5; have hfz22_6 := blk_frozen BK159.out 6))
        go_ret
        exact ⟨by first | rfl | (simp [errW_none, errW_some] <;> rfl) | (simp [*, errW_none, errW_some] <;> rfl), by repeat (first | (with_reducible first | exact HB.out | apply below_alloc | apply pw_below_drewN | apply below_drew1 | refine below_set ?_ GE159.out) | exact HB.out)⟩
       ·replace c19 := Bool.eq_false_iff.mpr c19
        subst c19
        have H1 : (if a0_5 = 0 then (some (a0_6 == 0)) else (some false)) = some r := by rw [if_neg (show ¬ (false = true) by decide)] at H; exact H
        clear H
        have H := H1
        clear H1
        by_cases c23 : a0_5 = 0
        ·rw [if_pos c23] at H
         have c23b0 : (a0_5 == 0) = true := beq_iff_eq.mpr c23
         have c23b1 : (a0_5 != 0) = false := bne_eq_false_iff_eq.mpr c23
         clear c23
         obtain rfl := Option.some.inj H
         have hcz24_0 : wc.cell? ⟨gb159, 0, none⟩ = some (.int .i64 a0_0) := (blk_cell BK159.out 0).trans rfl
         have hcz24_1 : wc.cell? ⟨gb159, 1, none⟩ = some (.int .i64 a0_1) := (blk_cell BK159.out 1).trans rfl
         have hcz24_2 : wc.cell? ⟨gb159, 2, none⟩ = some (.int .u32 a0_2) := (blk_cell BK159.out 2).trans rfl
         have hcz24_3 : wc.cell? ⟨gb159, 3, none⟩ = some (.int .u32 a0_3) := (blk_cell BK159.out 3).trans rfl
         have hcz24_4 : wc.cell? ⟨gb159, 4, none⟩ = some (.bool false) := (blk_cell BK159.out 4).trans rfl
         have hcz24_5 : wc.cell? ⟨gb159, 5, none⟩ = some (.int .u32 a0_5) := (blk_cell BK159.out 5).trans rfl
         have hcz24_6 : wc.cell? ⟨gb159, 6, none⟩ = some (.int .u32 a0_6) := (blk_cell BK159.out 6).trans rfl
         have hfz24_0 := blk_frozen BK159.out 0
         have hfz24_1 := blk_frozen BK159.out 1
         have hfz24_2 := blk_frozen BK159.out 2
         have hfz24_3 := blk_frozen BK159.out 3
         have hfz24_4 := blk_frozen BK159.out 4
         have hfz24_5 := blk_frozen BK159.out 5
         have hfz24_6 := blk_frozen BK159.out 6
         go_wp2_with (first | ((with_reducible refine gate_callee (f := 25) rfl ?_); refine goesL_ (some 16) rfl rfl Try.func25 (by kernel_rfl) rfl #[.agg #[.int .i64 a0_1, .int .u32 a0_2, .int .u32 a0_3]] rfl (by (try simp only [List.map_toArray, List.map_cons, List.map_nil]); first | done | rfl | (simp only [List.length_drop, List.length_take]; rfl)) ?_; (with_reducible refine (trothref05_Right.calls a0_1 a0_2 a0_3 true _ A9.out).mono ?_); rintro e w25 ⟨rfl, hb⟩; refine ⟨_, rfl, ?_⟩; have n0_ := Aside0.mk (blk_below (g := gb159) (o := .cells #[.int .i64 a0_0, .int .i64 a0_1, .int .u32 a0_2, .int .u32 a0_3, .bool false, .int .u32 a0_5, .int .u32 a0_6] 26 (0, 0)) (by (with_reducible repeat (first | refine blk_drewN ?_ _ | refine blk_drew ?_ | refine blk_alloc ?_ _)); exact BK159.out) hb); have n1_ := Aside0.mk (below_step (by repeat (first | (with_reducible first | exact HB.out | apply below_alloc | apply pw_below_drewN | apply below_drew1 | refine below_set ?_ GE159.out) | exact HB.out)) hb); clear BK159; clear HB; have BK159 := n0_; have HB := n1_; clear n0_ n1_; (try clear hb); (try clear hb2); (try clear hk); (try clear hi); have hcz26_0 : w25.cell? ⟨gb159, 0, none⟩ = some (.int .i64 a0_0) := (blk_cell BK159.out 0).trans rfl; have hcz26_1 : w25.cell? ⟨gb159, 1, none⟩ = some (.int .i64 a0_1) := (blk_cell BK159.out 1).trans rfl; have hcz26_2 : w25.cell? ⟨gb159, 2, none⟩ = some (.int .u32 a0_2) := (blk_cell BK159.out 2).trans rfl; have hcz26_3 : w25.cell? ⟨gb159, 3, none⟩ = some (.int .u32 a0_3) := (blk_cell BK159.out 3).trans rfl; have hcz26_4 : w25.cell? ⟨gb159, 4, none⟩ = some (.bool false) := (blk_cell BK159.out 4).trans rfl; have hcz26_5 : w25.cell? ⟨gb159, 5, none⟩ = some (.int .u32 a0_5) := (blk_cell BK159.out 5).trans rfl; have hcz26_6 : w25.cell? ⟨gb159, 6, none⟩ = some (.int .u32 a0_6) := (blk_cell BK159.out 6).trans rfl; have hfz26_0 := blk_frozen BK159.out 0; have hfz26_1 := blk_frozen BK159.out 1; have hfz26_2 := blk_frozen BK159.out 2; have hfz26_3 := blk_frozen BK159.out 3; have hfz26_4 := blk_frozen BK159.out 4; have hfz26_5 := blk_frozen BK159.out 5; have hfz26_6 := blk_frozen BK159.out 6))
         go_ret
         exact ⟨by first | rfl | (simp [errW_none, errW_some] <;> rfl) | (simp [*, errW_none, errW_some] <;> rfl), by repeat (first | (with_reducible first | exact HB.out | apply below_alloc | apply pw_below_drewN | apply below_drew1 | refine below_set ?_ GE159.out) | exact HB.out)⟩
        ·rw [if_neg c23] at H
         have c23b0 : (a0_5 == 0) = false := beq_eq_false_iff_ne.mpr c23
         have c23b1 : (a0_5 != 0) = true := bne_iff_ne.mpr c23
         obtain rfl := Option.some.inj H
         have hcz27_0 : wc.cell? ⟨gb159, 0, none⟩ = some (.int .i64 a0_0) := (blk_cell BK159.out 0).trans rfl
         have hcz27_1 : wc.cell? ⟨gb159, 1, none⟩ = some (.int .i64 a0_1) := (blk_cell BK159.out 1).trans rfl
         have hcz27_2 : wc.cell? ⟨gb159, 2, none⟩ = some (.int .u32 a0_2) := (blk_cell BK159.out 2).trans rfl
         have hcz27_3 : wc.cell? ⟨gb159, 3, none⟩ = some (.int .u32 a0_3) := (blk_cell BK159.out 3).trans rfl
         have hcz27_4 : wc.cell? ⟨gb159, 4, none⟩ = some (.bool false) := (blk_cell BK159.out 4).trans rfl
         have hcz27_5 : wc.cell? ⟨gb159, 5, none⟩ = some (.int .u32 a0_5) := (blk_cell BK159.out 5).trans rfl
         have hcz27_6 : wc.cell? ⟨gb159, 6, none⟩ = some (.int .u32 a0_6) := (blk_cell BK159.out 6).trans rfl
         have hfz27_0 := blk_frozen BK159.out 0
         have hfz27_1 := blk_frozen BK159.out 1
         have hfz27_2 := blk_frozen BK159.out 2
         have hfz27_3 := blk_frozen BK159.out 3
         have hfz27_4 := blk_frozen BK159.out 4
         have hfz27_5 := blk_frozen BK159.out 5
         have hfz27_6 := blk_frozen BK159.out 6
         go_wp2_with (first | ((with_reducible refine gate_callee (f := 25) rfl ?_); refine goesL_ (some 16) rfl rfl Try.func25 (by kernel_rfl) rfl #[.agg #[.int .i64 a0_1, .int .u32 a0_2, .int .u32 a0_3]] rfl (by (try simp only [List.map_toArray, List.map_cons, List.map_nil]); first | done | rfl | (simp only [List.length_drop, List.length_take]; rfl)) ?_; (with_reducible refine (trothref05_Right.calls a0_1 a0_2 a0_3 true _ A9.out).mono ?_); rintro e w28 ⟨rfl, hb⟩; refine ⟨_, rfl, ?_⟩; have n0_ := Aside0.mk (blk_below (g := gb159) (o := .cells #[.int .i64 a0_0, .int .i64 a0_1, .int .u32 a0_2, .int .u32 a0_3, .bool false, .int .u32 a0_5, .int .u32 a0_6] 26 (0, 0)) (by (with_reducible repeat (first | refine blk_drewN ?_ _ | refine blk_drew ?_ | refine blk_alloc ?_ _)); exact BK159.out) hb); have n1_ := Aside0.mk (below_step (by repeat (first | (with_reducible first | exact HB.out | apply below_alloc | apply pw_below_drewN | apply below_drew1 | refine below_set ?_ GE159.out) | exact HB.out)) hb); clear BK159; clear HB; have BK159 := n0_; have HB := n1_; clear n0_ n1_; (try clear hb); (try clear hb2); (try clear hk); (try clear hi); have hcz29_0 : w28.cell? ⟨gb159, 0, none⟩ = some (.int .i64 a0_0) := (blk_cell BK159.out 0).trans rfl; have hcz29_1 : w28.cell? ⟨gb159, 1, none⟩ = some (.int .i64 a0_1) := (blk_cell BK159.out 1).trans rfl; have hcz29_2 : w28.cell? ⟨gb159, 2, none⟩ = some (.int .u32 a0_2) := (blk_cell BK159.out 2).trans rfl; have hcz29_3 : w28.cell? ⟨gb159, 3, none⟩ = some (.int .u32 a0_3) := (blk_cell BK159.out 3).trans rfl; have hcz29_4 : w28.cell? ⟨gb159, 4, none⟩ = some (.bool false) := (blk_cell BK159.out 4).trans rfl; have hcz29_5 : w28.cell? ⟨gb159, 5, none⟩ = some (.int .u32 a0_5) := (blk_cell BK159.out 5).trans rfl; have hcz29_6 : w28.cell? ⟨gb159, 6, none⟩ = some (.int .u32 a0_6) := (blk_cell BK159.out 6).trans rfl; have hfz29_0 := blk_frozen BK159.out 0; have hfz29_1 := blk_frozen BK159.out 1; have hfz29_2 := blk_frozen BK159.out 2; have hfz29_3 := blk_frozen BK159.out 3; have hfz29_4 := blk_frozen BK159.out 4; have hfz29_5 := blk_frozen BK159.out 5; have hfz29_6 := blk_frozen BK159.out 6))
         go_ret
         exact ⟨by first | rfl | (simp [errW_none, errW_some] <;> rfl) | (simp [*, errW_none, errW_some] <;> rfl), by repeat (first | (with_reducible first | exact HB.out | apply below_alloc | apply pw_below_drewN | apply below_drew1 | refine below_set ?_ GE159.out) | exact HB.out)⟩
     ·replace c10 := Bool.eq_false_iff.mpr c10
      subst c10
      have H1 : (some false) = some r := by rw [if_neg (show ¬ (false = true) by decide)] at H; exact H
      clear H
      have H := H1
      clear H1
      obtain rfl := Option.some.inj H
      have hcz30_0 : wc.cell? ⟨gb159, 0, none⟩ = some (.int .i64 a0_0) := (blk_cell BK159.out 0).trans rfl
      have hcz30_1 : wc.cell? ⟨gb159, 1, none⟩ = some (.int .i64 a0_1) := (blk_cell BK159.out 1).trans rfl
      have hcz30_2 : wc.cell? ⟨gb159, 2, none⟩ = some (.int .u32 a0_2) := (blk_cell BK159.out 2).trans rfl
      have hcz30_3 : wc.cell? ⟨gb159, 3, none⟩ = some (.int .u32 a0_3) := (blk_cell BK159.out 3).trans rfl
      have hcz30_4 : wc.cell? ⟨gb159, 4, none⟩ = some (.bool a0_4) := (blk_cell BK159.out 4).trans rfl
      have hcz30_5 : wc.cell? ⟨gb159, 5, none⟩ = some (.int .u32 a0_5) := (blk_cell BK159.out 5).trans rfl
      have hcz30_6 : wc.cell? ⟨gb159, 6, none⟩ = some (.int .u32 a0_6) := (blk_cell BK159.out 6).trans rfl
      have hfz30_0 := blk_frozen BK159.out 0
      have hfz30_1 := blk_frozen BK159.out 1
      have hfz30_2 := blk_frozen BK159.out 2
      have hfz30_3 := blk_frozen BK159.out 3
      have hfz30_4 := blk_frozen BK159.out 4
      have hfz30_5 := blk_frozen BK159.out 5
      have hfz30_6 := blk_frozen BK159.out 6
      go_wp2_with (first | ((with_reducible refine gate_callee (f := 25) rfl ?_); refine goesL_ (some 16) rfl rfl Try.func25 (by kernel_rfl) rfl #[.agg #[.int .i64 a0_1, .int .u32 a0_2, .int .u32 a0_3]] rfl (by (try simp only [List.map_toArray, List.map_cons, List.map_nil]); first | done | rfl | (simp only [List.length_drop, List.length_take]; rfl)) ?_; (with_reducible refine (trothref05_Right.calls a0_1 a0_2 a0_3 false _ A9.out).mono ?_); rintro e w31 ⟨rfl, hb⟩; refine ⟨_, rfl, ?_⟩; have n0_ := Aside0.mk (blk_below (g := gb159) (o := .cells #[.int .i64 a0_0, .int .i64 a0_1, .int .u32 a0_2, .int .u32 a0_3, .bool a0_4, .int .u32 a0_5, .int .u32 a0_6] 26 (0, 0)) (by (with_reducible repeat (first | refine blk_drewN ?_ _ | refine blk_drew ?_ | refine blk_alloc ?_ _)); exact BK159.out) hb); have n1_ := Aside0.mk (below_step (by repeat (first | (with_reducible first | exact HB.out | apply below_alloc | apply pw_below_drewN | apply below_drew1 | refine below_set ?_ GE159.out) | exact HB.out)) hb); clear BK159; clear HB; have BK159 := n0_; have HB := n1_; clear n0_ n1_; (try clear hb); (try clear hb2); (try clear hk); (try clear hi)))
      go_ret
      exact ⟨by first | rfl | (simp [errW_none, errW_some] <;> rfl) | (simp [*, errW_none, errW_some] <;> rfl), by repeat (first | (with_reducible first | exact HB.out | apply below_alloc | apply pw_below_drewN | apply below_drew1 | refine below_set ?_ GE159.out) | exact HB.out)⟩
    ·rw [if_neg c8] at H
     have c8b0 : decide (a0_0 < 12) = false := decide_eq_false c8
     clear c8
     have HC32 := Aside0.mk H
     clear H
     have hcz33_0 : wc.cell? ⟨gb159, 0, none⟩ = some (.int .i64 a0_0) := (blk_cell BK159.out 0).trans rfl
     have hcz33_1 : wc.cell? ⟨gb159, 1, none⟩ = some (.int .i64 a0_1) := (blk_cell BK159.out 1).trans rfl
     have hcz33_2 : wc.cell? ⟨gb159, 2, none⟩ = some (.int .u32 a0_2) := (blk_cell BK159.out 2).trans rfl
     have hcz33_3 : wc.cell? ⟨gb159, 3, none⟩ = some (.int .u32 a0_3) := (blk_cell BK159.out 3).trans rfl
     have hcz33_4 : wc.cell? ⟨gb159, 4, none⟩ = some (.bool a0_4) := (blk_cell BK159.out 4).trans rfl
     have hcz33_5 : wc.cell? ⟨gb159, 5, none⟩ = some (.int .u32 a0_5) := (blk_cell BK159.out 5).trans rfl
     have hcz33_6 : wc.cell? ⟨gb159, 6, none⟩ = some (.int .u32 a0_6) := (blk_cell BK159.out 6).trans rfl
     have hfz33_0 := blk_frozen BK159.out 0
     have hfz33_1 := blk_frozen BK159.out 1
     have hfz33_2 := blk_frozen BK159.out 2
     have hfz33_3 := blk_frozen BK159.out 3
     have hfz33_4 := blk_frozen BK159.out 4
     have hfz33_5 := blk_frozen BK159.out 5
     have hfz33_6 := blk_frozen BK159.out 6
     go_upto_region 5 with (fail)
     go_cut [56] (fun v56 wc => ∃ (kq : Nat) (x56_31 : Bool), v56 = .bool x56_31 ∧ Aside0 (trothref06_Right.j1 kq x56_31 a0_0 a0_1 a0_2 a0_3 a0_4 a0_5 a0_6 = some r) ∧ Aside0 (kq ≤ kj1) ∧ Aside0 (wc.heap[gb159]? = some (.cells #[.int .i64 a0_0, .int .i64 a0_1, .int .u32 a0_2, .int .u32 a0_3, .bool a0_4, .int .u32 a0_5, .int .u32 a0_6] 26 (0, 0))) ∧ Aside0 (Below w.heap.size w wc))
     case first =>
      have H := HC32.out
      clear HC32
      by_cases c34 : a0_1 = 0
      ·rw [if_pos c34] at H
       have c34b0 : (a0_1 == 0) = true := beq_iff_eq.mpr c34
       have c34b1 : (a0_1 != 0) = false := bne_eq_false_iff_eq.mpr c34
       clear c34
       (first | rw [c34b0] | (simp only [i64_w, i32_w]; rw [c34b0]) | skip)
       by_cases c35 : a0_2 = 0
       ·rw [if_pos c35] at H
        have c35b0 : (a0_2 == 0) = true := beq_iff_eq.mpr c35
        have c35b1 : (a0_2 != 0) = false := bne_eq_false_iff_eq.mpr c35
        clear c35
        by_cases c36 : a0_3 = 0
        ·rw [if_pos c36] at H
         have c36b0 : (a0_3 == 0) = true := beq_iff_eq.mpr c36
         have c36b1 : (a0_3 != 0) = false := bne_eq_false_iff_eq.mpr c36
         clear c36
         have H' := Aside0.mk H
         clear H
         have hcz37_0 : wc.cell? ⟨gb159, 0, none⟩ = some (.int .i64 a0_0) := (blk_cell BK159.out 0).trans rfl
         have hcz37_1 : wc.cell? ⟨gb159, 1, none⟩ = some (.int .i64 a0_1) := (blk_cell BK159.out 1).trans rfl
         have hcz37_2 : wc.cell? ⟨gb159, 2, none⟩ = some (.int .u32 a0_2) := (blk_cell BK159.out 2).trans rfl
         have hcz37_3 : wc.cell? ⟨gb159, 3, none⟩ = some (.int .u32 a0_3) := (blk_cell BK159.out 3).trans rfl
         have hcz37_4 : wc.cell? ⟨gb159, 4, none⟩ = some (.bool a0_4) := (blk_cell BK159.out 4).trans rfl
         have hcz37_5 : wc.cell? ⟨gb159, 5, none⟩ = some (.int .u32 a0_5) := (blk_cell BK159.out 5).trans rfl
         have hcz37_6 : wc.cell? ⟨gb159, 6, none⟩ = some (.int .u32 a0_6) := (blk_cell BK159.out 6).trans rfl
         have hfz37_0 := blk_frozen BK159.out 0
         have hfz37_1 := blk_frozen BK159.out 1
         have hfz37_2 := blk_frozen BK159.out 2
         have hfz37_3 := blk_frozen BK159.out 3
         have hfz37_4 := blk_frozen BK159.out 4
         have hfz37_5 := blk_frozen BK159.out 5
         have hfz37_6 := blk_frozen BK159.out 6
         go_wp2
         go_meet
         case rel => exact ⟨_, (a0_4), (by first | rfl | (simp; done) | (simp [*]; done)), H', ⟨by have := HJ1.out; first | omega | exact Nat.le_refl _⟩, ⟨by (with_reducible repeat (first | refine blk_drewN ?_ _ | refine blk_drew ?_ | refine blk_alloc ?_ _)); exact BK159.out⟩, ⟨by repeat (first | (with_reducible first | exact HB.out | apply below_alloc | apply pw_below_drewN | apply below_drew1 | refine below_set ?_ GE159.out) | exact HB.out)⟩⟩
        ·rw [if_neg c36] at H
         have c36b0 : (a0_3 == 0) = false := beq_eq_false_iff_ne.mpr c36
         have c36b1 : (a0_3 != 0) = true := bne_iff_ne.mpr c36
         have H' := Aside0.mk H
         clear H
         have hcz38_0 : wc.cell? ⟨gb159, 0, none⟩ = some (.int .i64 a0_0) := (blk_cell BK159.out 0).trans rfl
         have hcz38_1 : wc.cell? ⟨gb159, 1, none⟩ = some (.int .i64 a0_1) := (blk_cell BK159.out 1).trans rfl
         have hcz38_2 : wc.cell? ⟨gb159, 2, none⟩ = some (.int .u32 a0_2) := (blk_cell BK159.out 2).trans rfl
         have hcz38_3 : wc.cell? ⟨gb159, 3, none⟩ = some (.int .u32 a0_3) := (blk_cell BK159.out 3).trans rfl
         have hcz38_4 : wc.cell? ⟨gb159, 4, none⟩ = some (.bool a0_4) := (blk_cell BK159.out 4).trans rfl
         have hcz38_5 : wc.cell? ⟨gb159, 5, none⟩ = some (.int .u32 a0_5) := (blk_cell BK159.out 5).trans rfl
         have hcz38_6 : wc.cell? ⟨gb159, 6, none⟩ = some (.int .u32 a0_6) := (blk_cell BK159.out 6).trans rfl
         have hfz38_0 := blk_frozen BK159.out 0
         have hfz38_1 := blk_frozen BK159.out 1
         have hfz38_2 := blk_frozen BK159.out 2
         have hfz38_3 := blk_frozen BK159.out 3
         have hfz38_4 := blk_frozen BK159.out 4
         have hfz38_5 := blk_frozen BK159.out 5
         have hfz38_6 := blk_frozen BK159.out 6
         go_wp2
         go_meet
         case rel => exact ⟨_, (true), (by first | rfl | (simp; done) | (simp [*]; done)), H', ⟨by have := HJ1.out; first | omega | exact Nat.le_refl _⟩, ⟨by (with_reducible repeat (first | refine blk_drewN ?_ _ | refine blk_drew ?_ | refine blk_alloc ?_ _)); exact BK159.out⟩, ⟨by repeat (first | (with_reducible first | exact HB.out | apply below_alloc | apply pw_below_drewN | apply below_drew1 | refine below_set ?_ GE159.out) | exact HB.out)⟩⟩
       ·rw [if_neg c35] at H
        have c35b0 : (a0_2 == 0) = false := beq_eq_false_iff_ne.mpr c35
        have c35b1 : (a0_2 != 0) = true := bne_iff_ne.mpr c35
        have H' := Aside0.mk H
        clear H
        have hcz39_0 : wc.cell? ⟨gb159, 0, none⟩ = some (.int .i64 a0_0) := (blk_cell BK159.out 0).trans rfl
        have hcz39_1 : wc.cell? ⟨gb159, 1, none⟩ = some (.int .i64 a0_1) := (blk_cell BK159.out 1).trans rfl
        have hcz39_2 : wc.cell? ⟨gb159, 2, none⟩ = some (.int .u32 a0_2) := (blk_cell BK159.out 2).trans rfl
        have hcz39_3 : wc.cell? ⟨gb159, 3, none⟩ = some (.int .u32 a0_3) := (blk_cell BK159.out 3).trans rfl
        have hcz39_4 : wc.cell? ⟨gb159, 4, none⟩ = some (.bool a0_4) := (blk_cell BK159.out 4).trans rfl
        have hcz39_5 : wc.cell? ⟨gb159, 5, none⟩ = some (.int .u32 a0_5) := (blk_cell BK159.out 5).trans rfl
        have hcz39_6 : wc.cell? ⟨gb159, 6, none⟩ = some (.int .u32 a0_6) := (blk_cell BK159.out 6).trans rfl
        have hfz39_0 := blk_frozen BK159.out 0
        have hfz39_1 := blk_frozen BK159.out 1
        have hfz39_2 := blk_frozen BK159.out 2
        have hfz39_3 := blk_frozen BK159.out 3
        have hfz39_4 := blk_frozen BK159.out 4
        have hfz39_5 := blk_frozen BK159.out 5
        have hfz39_6 := blk_frozen BK159.out 6
        go_wp2
        go_meet
        case rel => exact ⟨_, (true), (by first | rfl | (simp; done) | (simp [*]; done)), H', ⟨by have := HJ1.out; first | omega | exact Nat.le_refl _⟩, ⟨by (with_reducible repeat (first | refine blk_drewN ?_ _ | refine blk_drew ?_ | refine blk_alloc ?_ _)); exact BK159.out⟩, ⟨by repeat (first | (with_reducible first | exact HB.out | apply below_alloc | apply pw_below_drewN | apply below_drew1 | refine below_set ?_ GE159.out) | exact HB.out)⟩⟩
      ·rw [if_neg c34] at H
       have c34b0 : (a0_1 == 0) = false := beq_eq_false_iff_ne.mpr c34
       have c34b1 : (a0_1 != 0) = true := bne_iff_ne.mpr c34
       (first | rw [c34b0] | (simp only [i64_w, i32_w]; rw [c34b0]) | skip)
       have H' := Aside0.mk H
       clear H
       have hcz40_0 : wc.cell? ⟨gb159, 0, none⟩ = some (.int .i64 a0_0) := (blk_cell BK159.out 0).trans rfl
       have hcz40_1 : wc.cell? ⟨gb159, 1, none⟩ = some (.int .i64 a0_1) := (blk_cell BK159.out 1).trans rfl
       have hcz40_2 : wc.cell? ⟨gb159, 2, none⟩ = some (.int .u32 a0_2) := (blk_cell BK159.out 2).trans rfl
       have hcz40_3 : wc.cell? ⟨gb159, 3, none⟩ = some (.int .u32 a0_3) := (blk_cell BK159.out 3).trans rfl
       have hcz40_4 : wc.cell? ⟨gb159, 4, none⟩ = some (.bool a0_4) := (blk_cell BK159.out 4).trans rfl
       have hcz40_5 : wc.cell? ⟨gb159, 5, none⟩ = some (.int .u32 a0_5) := (blk_cell BK159.out 5).trans rfl
       have hcz40_6 : wc.cell? ⟨gb159, 6, none⟩ = some (.int .u32 a0_6) := (blk_cell BK159.out 6).trans rfl
       have hfz40_0 := blk_frozen BK159.out 0
       have hfz40_1 := blk_frozen BK159.out 1
       have hfz40_2 := blk_frozen BK159.out 2
       have hfz40_3 := blk_frozen BK159.out 3
       have hfz40_4 := blk_frozen BK159.out 4
       have hfz40_5 := blk_frozen BK159.out 5
       have hfz40_6 := blk_frozen BK159.out 6
       go_wp2
       go_meet
       case rel => exact ⟨_, (true), (by first | rfl | (simp; done) | (simp [*]; done)), H', ⟨by have := HJ1.out; first | omega | exact Nat.le_refl _⟩, ⟨by (with_reducible repeat (first | refine blk_drewN ?_ _ | refine blk_drew ?_ | refine blk_alloc ?_ _)); exact BK159.out⟩, ⟨by repeat (first | (with_reducible first | exact HB.out | apply below_alloc | apply pw_below_drewN | apply below_drew1 | refine below_set ?_ GE159.out) | exact HB.out)⟩⟩
     case rest =>
      clear HC32
      try clear c1
      try clear c2
      try clear p2
      try clear c3
      try clear c4
      try clear c4b0
      try clear c7
      try clear c8
      try clear c8b0
      try clear c10
      try clear c11
      try clear c11b0
      try clear c11b1
      try clear c12
      try clear c12b0
      try clear c12b1
      try clear c19
      try clear c23
      try clear c23b0
      try clear c23b1
      try clear c25
      try clear c34
      try clear c34b0
      try clear c34b1
      try clear c35
      try clear c35b0
      try clear c35b1
      try clear c36
      try clear c36b0
      try clear c36b1
      try clear hcz13_0
      try clear hcz13_1
      try clear hcz13_2
      try clear hcz13_3
      try clear hcz13_4
      try clear hcz13_5
      try clear hcz13_6
      try clear hcz15_0
      try clear hcz15_1
      try clear hcz15_2
      try clear hcz15_3
      try clear hcz15_4
      try clear hcz15_5
      try clear hcz15_6
      try clear hcz16_0
      try clear hcz16_1
      try clear hcz16_2
      try clear hcz16_3
      try clear hcz16_4
      try clear hcz16_5
      try clear hcz16_6
      try clear hcz18_0
      try clear hcz18_1
      try clear hcz18_2
      try clear hcz18_3
      try clear hcz18_4
      try clear hcz18_5
      try clear hcz18_6
      try clear hcz20_0
      try clear hcz20_1
      try clear hcz20_2
      try clear hcz20_3
      try clear hcz20_4
      try clear hcz20_5
      try clear hcz20_6
      try clear hcz22_0
      try clear hcz22_1
      try clear hcz22_2
      try clear hcz22_3
      try clear hcz22_4
      try clear hcz22_5
      try clear hcz22_6
      try clear hcz24_0
      try clear hcz24_1
      try clear hcz24_2
      try clear hcz24_3
      try clear hcz24_4
      try clear hcz24_5
      try clear hcz24_6
      try clear hcz26_0
      try clear hcz26_1
      try clear hcz26_2
      try clear hcz26_3
      try clear hcz26_4
      try clear hcz26_5
      try clear hcz26_6
      try clear hcz27_0
      try clear hcz27_1
      try clear hcz27_2
      try clear hcz27_3
      try clear hcz27_4
      try clear hcz27_5
      try clear hcz27_6
      try clear hcz29_0
      try clear hcz29_1
      try clear hcz29_2
      try clear hcz29_3
      try clear hcz29_4
      try clear hcz29_5
      try clear hcz29_6
      try clear hcz30_0
      try clear hcz30_1
      try clear hcz30_2
      try clear hcz30_3
      try clear hcz30_4
      try clear hcz30_5
      try clear hcz30_6
      try clear hcz33_0
      try clear hcz33_1
      try clear hcz33_2
      try clear hcz33_3
      try clear hcz33_4
      try clear hcz33_5
      try clear hcz33_6
      try clear hcz37_0
      try clear hcz37_1
      try clear hcz37_2
      try clear hcz37_3
      try clear hcz37_4
      try clear hcz37_5
      try clear hcz37_6
      try clear hcz38_0
      try clear hcz38_1
      try clear hcz38_2
      try clear hcz38_3
      try clear hcz38_4
      try clear hcz38_5
      try clear hcz38_6
      try clear hcz39_0
      try clear hcz39_1
      try clear hcz39_2
      try clear hcz39_3
      try clear hcz39_4
      try clear hcz39_5
      try clear hcz39_6
      try clear hcz40_0
      try clear hcz40_1
      try clear hcz40_2
      try clear hcz40_3
      try clear hcz40_4
      try clear hcz40_5
      try clear hcz40_6
      try clear hcz5_0
      try clear hcz5_1
      try clear hcz5_2
      try clear hcz5_3
      try clear hcz5_4
      try clear hcz5_5
      try clear hcz5_6
      try clear hcz6_0
      try clear hcz6_1
      try clear hcz6_2
      try clear hcz6_3
      try clear hcz6_4
      try clear hcz6_5
      try clear hcz6_6
      try clear hfz13_0
      try clear hfz13_1
      try clear hfz13_2
      try clear hfz13_3
      try clear hfz13_4
      try clear hfz13_5
      try clear hfz13_6
      try clear hfz15_0
      try clear hfz15_1
      try clear hfz15_2
      try clear hfz15_3
      try clear hfz15_4
      try clear hfz15_5
      try clear hfz15_6
      try clear hfz16_0
      try clear hfz16_1
      try clear hfz16_2
      try clear hfz16_3
      try clear hfz16_4
      try clear hfz16_5
      try clear hfz16_6
      try clear hfz18_0
      try clear hfz18_1
      try clear hfz18_2
      try clear hfz18_3
      try clear hfz18_4
      try clear hfz18_5
      try clear hfz18_6
      try clear hfz20_0
      try clear hfz20_1
      try clear hfz20_2
      try clear hfz20_3
      try clear hfz20_4
      try clear hfz20_5
      try clear hfz20_6
      try clear hfz22_0
      try clear hfz22_1
      try clear hfz22_2
      try clear hfz22_3
      try clear hfz22_4
      try clear hfz22_5
      try clear hfz22_6
      try clear hfz24_0
      try clear hfz24_1
      try clear hfz24_2
      try clear hfz24_3
      try clear hfz24_4
      try clear hfz24_5
      try clear hfz24_6
      try clear hfz26_0
      try clear hfz26_1
      try clear hfz26_2
      try clear hfz26_3
      try clear hfz26_4
      try clear hfz26_5
      try clear hfz26_6
      try clear hfz27_0
      try clear hfz27_1
      try clear hfz27_2
      try clear hfz27_3
      try clear hfz27_4
      try clear hfz27_5
      try clear hfz27_6
      try clear hfz29_0
      try clear hfz29_1
      try clear hfz29_2
      try clear hfz29_3
      try clear hfz29_4
      try clear hfz29_5
      try clear hfz29_6
      try clear hfz30_0
      try clear hfz30_1
      try clear hfz30_2
      try clear hfz30_3
      try clear hfz30_4
      try clear hfz30_5
      try clear hfz30_6
      try clear hfz33_0
      try clear hfz33_1
      try clear hfz33_2
      try clear hfz33_3
      try clear hfz33_4
      try clear hfz33_5
      try clear hfz33_6
      try clear hfz37_0
      try clear hfz37_1
      try clear hfz37_2
      try clear hfz37_3
      try clear hfz37_4
      try clear hfz37_5
      try clear hfz37_6
      try clear hfz38_0
      try clear hfz38_1
      try clear hfz38_2
      try clear hfz38_3
      try clear hfz38_4
      try clear hfz38_5
      try clear hfz38_6
      try clear hfz39_0
      try clear hfz39_1
      try clear hfz39_2
      try clear hfz39_3
      try clear hfz39_4
      try clear hfz39_5
      try clear hfz39_6
      try clear hfz40_0
      try clear hfz40_1
      try clear hfz40_2
      try clear hfz40_3
      try clear hfz40_4
      try clear hfz40_5
      try clear hfz40_6
      try clear hfz5_0
      try clear hfz5_1
      try clear hfz5_2
      try clear hfz5_3
      try clear hfz5_4
      try clear hfz5_5
      try clear hfz5_6
      try clear hfz6_0
      try clear hfz6_1
      try clear hfz6_2
      try clear hfz6_3
      try clear hfz6_4
      try clear hfz6_5
      try clear hfz6_6
      try clear p2
      obtain ⟨kq, x56_31, rfl, HA, HJ31, BK159, HB⟩ := hcut
      cases kq with
      | zero => exact absurd HA.out (by simp [trothref06_Right.j1])
      | succ kj31 =>
       have H := HA.out
       clear HA
       simp only [trothref06_Right.j1] at H
       by_cases c41 : x56_31 = true
       ·subst c41
        have H1 : (some false) = some r := by rw [if_pos rfl] at H; exact H
        clear H
        have H := H1
        clear H1
        obtain rfl := Option.some.inj H
        go_wp2
        go_ret
        exact ⟨by first | rfl | (simp [errW_none, errW_some] <;> rfl) | (simp [*, errW_none, errW_some] <;> rfl), by repeat (first | (with_reducible first | exact HB.out | apply below_alloc | apply pw_below_drewN | apply below_drew1 | refine below_set ?_ GE159.out) | exact HB.out)⟩
       ·replace c41 := Bool.eq_false_iff.mpr c41
        subst c41
        have H1 : (if a0_0 = 12 then (some (a0_5 != 0)) else (if a0_5 = 0 then (some (a0_6 == 0)) else (some false))) = some r := by rw [if_neg (show ¬ (false = true) by decide)] at H; exact H
        clear H
        have H := H1
        clear H1
        by_cases c42 : a0_0 = 12
        ·rw [if_pos c42] at H
         have c42b0 : (a0_0 == 12) = true := beq_iff_eq.mpr c42
         have c42b1 : (a0_0 != 12) = false := bne_eq_false_iff_eq.mpr c42
         clear c42
         obtain rfl := Option.some.inj H
         have hcz43_0 : wc.cell? ⟨gb159, 0, none⟩ = some (.int .i64 a0_0) := (blk_cell BK159.out 0).trans rfl
         have hcz43_1 : wc.cell? ⟨gb159, 1, none⟩ = some (.int .i64 a0_1) := (blk_cell BK159.out 1).trans rfl
         have hcz43_2 : wc.cell? ⟨gb159, 2, none⟩ = some (.int .u32 a0_2) := (blk_cell BK159.out 2).trans rfl
         have hcz43_3 : wc.cell? ⟨gb159, 3, none⟩ = some (.int .u32 a0_3) := (blk_cell BK159.out 3).trans rfl
         have hcz43_4 : wc.cell? ⟨gb159, 4, none⟩ = some (.bool a0_4) := (blk_cell BK159.out 4).trans rfl
         have hcz43_5 : wc.cell? ⟨gb159, 5, none⟩ = some (.int .u32 a0_5) := (blk_cell BK159.out 5).trans rfl
         have hcz43_6 : wc.cell? ⟨gb159, 6, none⟩ = some (.int .u32 a0_6) := (blk_cell BK159.out 6).trans rfl
         have hfz43_0 := blk_frozen BK159.out 0
         have hfz43_1 := blk_frozen BK159.out 1
         have hfz43_2 := blk_frozen BK159.out 2
         have hfz43_3 := blk_frozen BK159.out 3
         have hfz43_4 := blk_frozen BK159.out 4
         have hfz43_5 := blk_frozen BK159.out 5
         have hfz43_6 := blk_frozen BK159.out 6
         go_wp2
         go_ret
         exact ⟨by first | rfl | (simp [errW_none, errW_some] <;> rfl) | (simp [*, errW_none, errW_some] <;> rfl), by repeat (first | (with_reducible first | exact HB.out | apply below_alloc | apply pw_below_drewN | apply below_drew1 | refine below_set ?_ GE159.out) | exact HB.out)⟩
        ·rw [if_neg c42] at H
         have c42b0 : (a0_0 == 12) = false := beq_eq_false_iff_ne.mpr c42
         have c42b1 : (a0_0 != 12) = true := bne_iff_ne.mpr c42
         by_cases c44 : a0_5 = 0
         ·rw [if_pos c44] at H
          have c44b0 : (a0_5 == 0) = true := beq_iff_eq.mpr c44
          have c44b1 : (a0_5 != 0) = false := bne_eq_false_iff_eq.mpr c44
          clear c44
          obtain rfl := Option.some.inj H
          have hcz45_0 : wc.cell? ⟨gb159, 0, none⟩ = some (.int .i64 a0_0) := (blk_cell BK159.out 0).trans rfl
          have hcz45_1 : wc.cell? ⟨gb159, 1, none⟩ = some (.int .i64 a0_1) := (blk_cell BK159.out 1).trans rfl
          have hcz45_2 : wc.cell? ⟨gb159, 2, none⟩ = some (.int .u32 a0_2) := (blk_cell BK159.out 2).trans rfl
          have hcz45_3 : wc.cell? ⟨gb159, 3, none⟩ = some (.int .u32 a0_3) := (blk_cell BK159.out 3).trans rfl
          have hcz45_4 : wc.cell? ⟨gb159, 4, none⟩ = some (.bool a0_4) := (blk_cell BK159.out 4).trans rfl
          have hcz45_5 : wc.cell? ⟨gb159, 5, none⟩ = some (.int .u32 a0_5) := (blk_cell BK159.out 5).trans rfl
          have hcz45_6 : wc.cell? ⟨gb159, 6, none⟩ = some (.int .u32 a0_6) := (blk_cell BK159.out 6).trans rfl
          have hfz45_0 := blk_frozen BK159.out 0
          have hfz45_1 := blk_frozen BK159.out 1
          have hfz45_2 := blk_frozen BK159.out 2
          have hfz45_3 := blk_frozen BK159.out 3
          have hfz45_4 := blk_frozen BK159.out 4
          have hfz45_5 := blk_frozen BK159.out 5
          have hfz45_6 := blk_frozen BK159.out 6
          go_wp2
          go_ret
          exact ⟨by first | rfl | (simp [errW_none, errW_some] <;> rfl) | (simp [*, errW_none, errW_some] <;> rfl), by repeat (first | (with_reducible first | exact HB.out | apply below_alloc | apply pw_below_drewN | apply below_drew1 | refine below_set ?_ GE159.out) | exact HB.out)⟩
         ·rw [if_neg c44] at H
          have c44b0 : (a0_5 == 0) = false := beq_eq_false_iff_ne.mpr c44
          have c44b1 : (a0_5 != 0) = true := bne_iff_ne.mpr c44
          obtain rfl := Option.some.inj H
          have hcz46_0 : wc.cell? ⟨gb159, 0, none⟩ = some (.int .i64 a0_0) := (blk_cell BK159.out 0).trans rfl
          have hcz46_1 : wc.cell? ⟨gb159, 1, none⟩ = some (.int .i64 a0_1) := (blk_cell BK159.out 1).trans rfl
          have hcz46_2 : wc.cell? ⟨gb159, 2, none⟩ = some (.int .u32 a0_2) := (blk_cell BK159.out 2).trans rfl
          have hcz46_3 : wc.cell? ⟨gb159, 3, none⟩ = some (.int .u32 a0_3) := (blk_cell BK159.out 3).trans rfl
          have hcz46_4 : wc.cell? ⟨gb159, 4, none⟩ = some (.bool a0_4) := (blk_cell BK159.out 4).trans rfl
          have hcz46_5 : wc.cell? ⟨gb159, 5, none⟩ = some (.int .u32 a0_5) := (blk_cell BK159.out 5).trans rfl
          have hcz46_6 : wc.cell? ⟨gb159, 6, none⟩ = some (.int .u32 a0_6) := (blk_cell BK159.out 6).trans rfl
          have hfz46_0 := blk_frozen BK159.out 0
          have hfz46_1 := blk_frozen BK159.out 1
          have hfz46_2 := blk_frozen BK159.out 2
          have hfz46_3 := blk_frozen BK159.out 3
          have hfz46_4 := blk_frozen BK159.out 4
          have hfz46_5 := blk_frozen BK159.out 5
          have hfz46_6 := blk_frozen BK159.out 6
          go_wp2
          go_ret
          exact ⟨by first | rfl | (simp [errW_none, errW_some] <;> rfl) | (simp [*, errW_none, errW_some] <;> rfl), by repeat (first | (with_reducible first | exact HB.out | apply below_alloc | apply pw_below_drewN | apply below_drew1 | refine below_set ?_ GE159.out) | exact HB.out)⟩
end Go.Proofs.Ytfndcfffbpbbhaa.Q

/- Texts of this seat, put together: RyP, Qx3. -/
import Derived.Test.YtdejbinmnoabeaaBd15
import Derived.Test.YtdejbinmnoabeaaBd12
import Derived.Test.YtdejbinmnoabeaaBd13
namespace Go.Proofs.Ytdejbinmnoabeaa.P
open Go.RowKit Go.Proofs.YtdejbinmnoabeaaW.PrintWords Go.Proofs.YtdejbinmnoabeaaW.PrintLast Go.Proofs.YtdejbinmnoabeaaW.PrintMore
set_option linter.unusedVariables false
set_option linter.unusedSimpArgs false
def Byt (x : Int) : Prop := 0 ≤ x ∧ x < 256
def num8 (a0 a1 a2 a3 a4 a5 a6 a7 : Int) : Int := a0 * 72057594037927936 + a1 * 281474976710656 + a2 * 1099511627776 + a3 * 4294967296 + a4 * 16777216 + a5 * 65536 + a6 * 256 + a7
theorem w64 {x : Int} (h0 : 0 ≤ x) (h1 : x ≤ 1000000) : wrap64 x = x := by unfold wrap64; omega
theorem or_u64 {a b : Int} (ha : 0 ≤ a ∧ a < 72057594037927936) (hb : 0 ≤ b ∧ b < 256) : Go.bits .or .u64 (a * 256) b = a * 256 + b := by
  obtain ⟨n, rfl⟩ := Int.eq_ofNat_of_zero_le ha.1
  obtain ⟨m, rfl⟩ := Int.eq_ofNat_of_zero_le hb.1
  unfold Go.bits
  have h1 : (BitVec.ofInt IntKind.u64.bits ((n : Int) * 256) ||| BitVec.ofInt IntKind.u64.bits (m : Int)).toNat = n * 256 + m := by
    rw [BitVec.toNat_or, BitVec.toNat_ofInt, BitVec.toNat_ofInt]
    have e1 : (((n : Int) * 256) % ((2 ^ IntKind.u64.bits : Nat) : Int)).toNat = 2 ^ 8 * n := by
      rw [show ((2 ^ IntKind.u64.bits : Nat) : Int) = 18446744073709551616 from rfl]; omega
    have e2 : ((m : Int) % ((2 ^ IntKind.u64.bits : Nat) : Int)).toNat = m := by
      rw [show ((2 ^ IntKind.u64.bits : Nat) : Int) = 18446744073709551616 from rfl]; omega
    rw [e1, e2, ← Nat.two_pow_add_eq_or_of_lt (show m < 2 ^ 8 by omega)]
    omega
  simp only [h1]
  rw [IntKind.wrap_u64]
  omega
theorem og (k : Nat) (x : Int) (l : List Int) (n i : Int) (hx : 0 ≤ x ∧ x < 72057594037927936) (hr : Byt (rd l i)) (h0 : 0 ≤ i) (hi : i < (l.length : Int)) (hn : i < n) (h1 : i + 1 ≤ 9) :
    oct_Get.l0 (k + 1) x l n i = oct_Get.l0 k (x * 256 + rd l i) l n (i + 1) := by
  unfold Byt at hr
  rw [oct_Get.l0, if_pos hn, if_pos h0, if_pos hi, IntKind.wrap_u64, IntKind.wrap_u64, show x * 256 % 18446744073709551616 = x * 256 by omega, show rd l i % 18446744073709551616 = rd l i by omega, or_u64 hx hr, w64 (by omega) (by omega)]
theorem rg (k : Nat) (l : List Int) (x i : Int) (hx : 0 ≤ x ∧ x < 72057594037927936) (hr : Byt (rd l i)) (h0 : 0 ≤ i) (hi : i < (l.length : Int)) (h1 : i + 1 ≤ 9) : trothref01_Get.l0 (k + 1) l x i = trothref01_Get.l0 k l (x * 256 + rd l i) (i + 1) := by
  unfold Byt at hr
  rw [trothref01_Get.l0, if_pos hi, if_pos h0, w64 (by omega) (by omega), IntKind.wrap_u64, IntKind.wrap_u64, IntKind.wrap_u64, show 256 * x % 18446744073709551616 = x * 256 by omega, show rd l i % 18446744073709551616 = rd l i by omega, show (x * 256 + rd l i) % 18446744073709551616 = x * 256 + rd l i by omega]
theorem oget8 (a0 a1 a2 a3 a4 a5 a6 a7 : Int) (h0 : Byt a0) (h1 : Byt a1) (h2 : Byt a2) (h3 : Byt a3) (h4 : Byt a4) (h5 : Byt a5) (h6 : Byt a6) (h7 : Byt a7) (k : Nat) : oct_Get.f (k + 10) [a0, a1, a2, a3, a4, a5, a6, a7] = some (num8 a0 a1 a2 a3 a4 a5 a6 a7, 0) := by
  have r0 : rd [a0, a1, a2, a3, a4, a5, a6, a7] 0 = a0 := rfl
  have r1 : rd [a0, a1, a2, a3, a4, a5, a6, a7] (0 + 1) = a1 := rfl
  have r2 : rd [a0, a1, a2, a3, a4, a5, a6, a7] (0 + 1 + 1) = a2 := rfl
  have r3 : rd [a0, a1, a2, a3, a4, a5, a6, a7] (0 + 1 + 1 + 1) = a3 := rfl
  have r4 : rd [a0, a1, a2, a3, a4, a5, a6, a7] (0 + 1 + 1 + 1 + 1) = a4 := rfl
  have r5 : rd [a0, a1, a2, a3, a4, a5, a6, a7] (0 + 1 + 1 + 1 + 1 + 1) = a5 := rfl
  have r6 : rd [a0, a1, a2, a3, a4, a5, a6, a7] (0 + 1 + 1 + 1 + 1 + 1 + 1) = a6 := rfl
  have r7 : rd [a0, a1, a2, a3, a4, a5, a6, a7] (0 + 1 + 1 + 1 + 1 + 1 + 1 + 1) = a7 := rfl
  have g0 := h0
  have g1 := h1
  have g2 := h2
  have g3 := h3
  have g4 := h4
  have g5 := h5
  have g6 := h6
  have g7 := h7
  unfold Byt at g0 g1 g2 g3 g4 g5 g6 g7
  have f : oct_Get.f (k + 1 + 1 + 1 + 1 + 1 + 1 + 1 + 1 + 1 + 1) [a0, a1, a2, a3, a4, a5, a6, a7] = oct_Get.l0 (k + 1 + 1 + 1 + 1 + 1 + 1 + 1 + 1 + 1) 0 [a0, a1, a2, a3, a4, a5, a6, a7] 8 0 := by
    unfold oct_Get.f
    rw [if_neg (by simp), decide_eq_false (by simp)]
    rw [oct_Get.j0, if_neg (by simp)]
    rfl
  refine f.trans ?_
  rw [og _ _ _ _ _ (by omega) (by rw [r0]; exact h0) (by omega) (by simp) (by omega) (by omega), r0]
  rw [og _ _ _ _ _ (by omega) (by rw [r1]; exact h1) (by omega) (by simp) (by omega) (by omega), r1]
  rw [og _ _ _ _ _ (by omega) (by rw [r2]; exact h2) (by omega) (by simp) (by omega) (by omega), r2]
  rw [og _ _ _ _ _ (by omega) (by rw [r3]; exact h3) (by omega) (by simp) (by omega) (by omega), r3]
  rw [og _ _ _ _ _ (by omega) (by rw [r4]; exact h4) (by omega) (by simp) (by omega) (by omega), r4]
  rw [og _ _ _ _ _ (by omega) (by rw [r5]; exact h5) (by omega) (by simp) (by omega) (by omega), r5]
  rw [og _ _ _ _ _ (by omega) (by rw [r6]; exact h6) (by omega) (by simp) (by omega) (by omega), r6]
  rw [og _ _ _ _ _ (by omega) (by rw [r7]; exact h7) (by omega) (by simp) (by omega) (by omega), r7]
  rw [oct_Get.l0, if_neg (by simp)]
  unfold num8
  congr 2
  omega
theorem rget8 (a0 a1 a2 a3 a4 a5 a6 a7 : Int) (h0 : Byt a0) (h1 : Byt a1) (h2 : Byt a2) (h3 : Byt a3) (h4 : Byt a4) (h5 : Byt a5) (h6 : Byt a6) (h7 : Byt a7) (k : Nat) : trothref01_Get.f (k + 10) [a0, a1, a2, a3, a4, a5, a6, a7] = some (num8 a0 a1 a2 a3 a4 a5 a6 a7, 0) := by
  have r0 : rd [a0, a1, a2, a3, a4, a5, a6, a7] 0 = a0 := rfl
  have r1 : rd [a0, a1, a2, a3, a4, a5, a6, a7] (0 + 1) = a1 := rfl
  have r2 : rd [a0, a1, a2, a3, a4, a5, a6, a7] (0 + 1 + 1) = a2 := rfl
  have r3 : rd [a0, a1, a2, a3, a4, a5, a6, a7] (0 + 1 + 1 + 1) = a3 := rfl
  have r4 : rd [a0, a1, a2, a3, a4, a5, a6, a7] (0 + 1 + 1 + 1 + 1) = a4 := rfl
  have r5 : rd [a0, a1, a2, a3, a4, a5, a6, a7] (0 + 1 + 1 + 1 + 1 + 1) = a5 := rfl
  have r6 : rd [a0, a1, a2, a3, a4, a5, a6, a7] (0 + 1 + 1 + 1 + 1 + 1 + 1) = a6 := rfl
  have r7 : rd [a0, a1, a2, a3, a4, a5, a6, a7] (0 + 1 + 1 + 1 + 1 + 1 + 1 + 1) = a7 := rfl
  have g0 := h0
  have g1 := h1
  have g2 := h2
  have g3 := h3
  have g4 := h4
  have g5 := h5
  have g6 := h6
  have g7 := h7
  unfold Byt at g0 g1 g2 g3 g4 g5 g6 g7
  have f : trothref01_Get.f (k + 1 + 1 + 1 + 1 + 1 + 1 + 1 + 1 + 1 + 1) [a0, a1, a2, a3, a4, a5, a6, a7] = trothref01_Get.l0 (k + 1 + 1 + 1 + 1 + 1 + 1 + 1 + 1 + 1) [a0, a1, a2, a3, a4, a5, a6, a7] 0 0 := by
    unfold trothref01_Get.f
    rw [if_neg (by simp), decide_eq_false (by simp)]
    rw [trothref01_Get.j0, if_neg (by simp)]
  refine f.trans ?_
  rw [rg _ _ _ _ (by omega) (by rw [r0]; exact h0) (by omega) (by simp) (by omega), r0]
  rw [rg _ _ _ _ (by omega) (by rw [r1]; exact h1) (by omega) (by simp) (by omega), r1]
  rw [rg _ _ _ _ (by omega) (by rw [r2]; exact h2) (by omega) (by simp) (by omega), r2]
  rw [rg _ _ _ _ (by omega) (by rw [r3]; exact h3) (by omega) (by simp) (by omega), r3]
  rw [rg _ _ _ _ (by omega) (by rw [r4]; exact h4) (by omega) (by simp) (by omega), r4]
  rw [rg _ _ _ _ (by omega) (by rw [r5]; exact h5) (by omega) (by simp) (by omega), r5]
  rw [rg _ _ _ _ (by omega) (by rw [r6]; exact h6) (by omega) (by simp) (by omega), r6]
  rw [rg _ _ _ _ (by omega) (by rw [r7]; exact h7) (by omega) (by simp) (by omega), r7]
  rw [trothref01_Get.l0, if_neg (by simp)]
  unfold num8
  congr 2
  omega
theorem be8_num (x : Int) (h0 : 0 ≤ x) (h1 : x < 18446744073709551616) : ∃ a0 a1 a2 a3 a4 a5 a6 a7 : Int, be8 x = [a0, a1, a2, a3, a4, a5, a6, a7] ∧ Byt a0 ∧ Byt a1 ∧ Byt a2 ∧ Byt a3 ∧ Byt a4 ∧ Byt a5 ∧ Byt a6 ∧ Byt a7 ∧ num8 a0 a1 a2 a3 a4 a5 a6 a7 = x := by
  refine ⟨_, _, _, _, _, _, _, _, rfl, ⟨by omega, by omega⟩, ⟨by omega, by omega⟩, ⟨by omega, by omega⟩, ⟨by omega, by omega⟩, ⟨by omega, by omega⟩, ⟨by omega, by omega⟩, ⟨by omega, by omega⟩, ⟨by omega, by omega⟩, ?_⟩
  unfold num8
  omega
theorem num8_be (a0 a1 a2 a3 a4 a5 a6 a7 : Int) (h0 : Byt a0) (h1 : Byt a1) (h2 : Byt a2) (h3 : Byt a3) (h4 : Byt a4) (h5 : Byt a5) (h6 : Byt a6) (h7 : Byt a7) : be8 (num8 a0 a1 a2 a3 a4 a5 a6 a7) = [a0, a1, a2, a3, a4, a5, a6, a7] ∧ 0 ≤ num8 a0 a1 a2 a3 a4 a5 a6 a7 ∧ num8 a0 a1 a2 a3 a4 a5 a6 a7 < 18446744073709551616 := by
  unfold Byt at h0 h1 h2 h3 h4 h5 h6 h7
  unfold be8 num8
  refine ⟨?_, by omega, by omega⟩
  simp only [List.cons.injEq, and_true]
  refine ⟨?_, ?_, ?_, ?_, ?_, ?_, ?_, ?_⟩ <;> omega
end Go.Proofs.Ytdejbinmnoabeaa.P
namespace Go.Proofs.Ytdejbinmnoabeaa.P
open Go.RowKit Go.Proofs.YtdejbinmnoabeaaW.PrintWords Go.Proofs.YtdejbinmnoabeaaW.PrintLast Go.Proofs.YtdejbinmnoabeaaW.PrintMore
attribute [local go_sem] max2_int min2_int max_two min_two max_three min_three max_four min_four   
set_option linter.unusedVariables false
set_option linter.unusedSimpArgs false
def trothref15_Read.l0 : Nat → List Int → List (S62) → Int → Option ((List (S62)) × Int)
  | 0, _, _, _ => none
  | k + 1, x0, x4, x5 => if x5 < (x0.length : Int) then (if 0 ≤ (wrap64 (x5 + 1)) then (if (wrap64 (x5 + 1)) ≤ (wrap64 (x5 + 9)) then (if (wrap64 (x5 + 9)) ≤ (x0.length : Int) then ((trothref01_Get.f k ((x0.take ((wrap64 (x5 + 9)) : Int).toNat).drop ((wrap64 (x5 + 1)) : Int).toNat)).bind fun bt152 => (if 0 ≤ (wrap64 (x5 + 9)) then (if (wrap64 (x5 + 9)) ≤ (wrap64 (x5 + 17)) then (if (wrap64 (x5 + 17)) ≤ (x0.length : Int) then ((trothref01_Get.f k ((x0.take ((wrap64 (x5 + 17)) : Int).toNat).drop ((wrap64 (x5 + 9)) : Int).toNat)).bind fun bt155 => (if 0 ≤ x5 then (if (rd x0 x5) = 0 then (some (([] : List (S62)), 30)) else (if (rd x0 x5) > 4 then (some (([] : List (S62)), 30)) else (if bt152.1 > 4611686018427387904 then (some (([] : List (S62)), 30)) else (if x4.length < 5864062014805 then (trothref15_Read.l0 k x0 (x4 ++ [(⟨wrap64 (rd x0 x5), wrap64 (bt152.1), bt155.1⟩ : S62)]) (wrap64 (x5 + 17))) else (none))))) else (none))) else (none)) else (none)) else (none))) else (none)) else (none)) else (none)) else (some (x4, 0))
def trothref15_Read.f (k : Nat) (l0 : List Int) : Option ((List (S62)) × Int) := if ((l0.length : Int) % 17) > 0 then (some (([] : List (S62)), 11)) else (if (wrap64 ((l0.length : Int) / 17)) > 48 then (some (([] : List (S62)), 2)) else (trothref15_Read.l0 k l0 ([] : List (S62)) 0))
theorem trothref15_Read.mono_l : ∀ k, (∀ y0 y1 y2, LeO (trothref15_Read.l0 k y0 y1 y2) (trothref15_Read.l0 (k + 1) y0 y1 y2))
  | 0 => fun _ _ _ r h => by simp [trothref15_Read.l0] at h
  | k + 1 => by
    have ih0 := trothref15_Read.mono_l k
    · intro y0 y1 y2
      unfold trothref15_Read.l0
      repeat' first
      | (with_reducible exact ih0 _ _ _)
      | (with_reducible exact trothref01_Get.mono _ _)
      | (with_reducible exact LeO.refl _)
      | (with_reducible exact LeO.none _)
      | (with_reducible refine LeO.ite ?_ ?_)
      | (with_reducible refine LeO.bind ?_ (fun _ => ?_))
      | exact ih0 _ _ _
      | exact trothref01_Get.mono _ _
      | exact LeO.none _
      | refine LeO.ite ?_ ?_
      | refine LeO.bind ?_ (fun _ => ?_)
theorem trothref15_Read.mono : ∀ a0 k, LeO (trothref15_Read.f k a0) (trothref15_Read.f (k + 1) a0) := by
  intro a0 k
  have ih0 := trothref15_Read.mono_l k
  unfold trothref15_Read.f
  repeat' first
      | (with_reducible exact ih0 _ _ _)
      | (with_reducible exact trothref01_Get.mono _ _)
      | (with_reducible exact LeO.refl _)
      | (with_reducible exact LeO.none _)
      | (with_reducible refine LeO.ite ?_ ?_)
      | (with_reducible refine LeO.bind ?_ (fun _ => ?_))
      | exact ih0 _ _ _
      | exact trothref01_Get.mono _ _
      | exact LeO.none _
      | refine LeO.ite ?_ ?_
      | refine LeO.bind ?_ (fun _ => ?_)
set_option maxHeartbeats 8000000 in
set_option maxRecDepth 100000 in
theorem trothref15_Read.calls (k : Nat) (A0 : Option Addr) (c0 : Nat) (l0 : List Int) (r1 : List (S62)) (r2 : Int) (w : World) (hr0 : Kd.C (Kd.int .u8) w A0 l0.length l0) (hc0 : l0.length ≤ c0) (h : trothref15_Read.f k l0 = some (r1, r2)) :
    Calls Try.prog 12 #[.slice A0 l0.length c0] w fun e w' => ∃ v0_ : Value, e = .returned (.tuple #[v0_, .int .i64 r2]) ∧ Kd.R k62 62 w' w.heap.size (fun _ => True) v0_ r1 ∧ Below w.heap.size w w' := by
  have hu62 := Try.underlying62
  have HR0 := Aside0.mk hr0
  have HC0 := Aside0.mk hc0
  clear hr0 hc0
  have HB := Aside0.mk (Below.refl w.heap.size w)
  have H : (if ((l0.length : Int) % 17) > 0 then (some (([] : List (S62)), 11)) else (if (wrap64 ((l0.length : Int) / 17)) > 48 then (some (([] : List (S62)), 2)) else (trothref15_Read.l0 k l0 ([] : List (S62)) 0))) = some (r1, r2) := h
  clear h
  by_cases c2 : ((l0.length : Int) % 17) > 0
  · rw [if_pos c2] at H
    have c2b0 : decide (0 < ((l0.length : Int) % 17)) = true := decide_eq_true c2
    clear c2
    simp only [Option.some.injEq, Prod.mk.injEq] at H
    obtain ⟨rfl, rfl⟩ := H
    go_enter Try.func12, Try.ntmps12
    go_wp2
    go_ret2
    exact ⟨_, by first | rfl | (simp [errW_none, errW_some] <;> rfl) | (simp [*, errW_none, errW_some] <;> rfl), by first | exact Kd.R_nil _ _ _ _ _ | exact Kd.N_nil _ _ _ _ _ | exact Kd.V_nil _ _ _ _ _ | exact Kd.Q_nil _ _ _ _ _ | exact Kd.S_nil _ _ _ _ _, by repeat (first | (with_reducible first | exact HB.out | apply below_alloc | apply pw_below_drewN | apply below_drew1) | exact HB.out)⟩
  · rw [if_neg c2] at H
    have c2b0 : decide (0 < ((l0.length : Int) % 17)) = false := decide_eq_false c2
    clear c2
    by_cases c3 : (wrap64 ((l0.length : Int) / 17)) > 48
    · rw [if_pos c3] at H
      have c3b0 : decide (48 < (wrap64 ((l0.length : Int) / 17))) = true := decide_eq_true c3
      clear c3
      simp only [Option.some.injEq, Prod.mk.injEq] at H
      obtain ⟨rfl, rfl⟩ := H
      go_enter Try.func12, Try.ntmps12
      go_wp2
      go_ret2
      exact ⟨_, by first | rfl | (simp [errW_none, errW_some] <;> rfl) | (simp [*, errW_none, errW_some] <;> rfl), by first | exact Kd.R_nil _ _ _ _ _ | exact Kd.N_nil _ _ _ _ _ | exact Kd.V_nil _ _ _ _ _ | exact Kd.Q_nil _ _ _ _ _ | exact Kd.S_nil _ _ _ _ _, by repeat (first | (with_reducible first | exact HB.out | apply below_alloc | apply pw_below_drewN | apply below_drew1) | exact HB.out)⟩
    · rw [if_neg c3] at H
      have c3b0 : decide (48 < (wrap64 ((l0.length : Int) / 17))) = false := decide_eq_false c3
      clear c3
      have H' := Aside0.mk H
      clear H
      go_enter Try.func12, Try.ntmps12
      go_wp2
      go_loopg [4, 5] k (fun kq v4 v5 w' => ∃ (x4_1 : List (S62)) (x5_1 : Int), v5 = .int .i64 x5_1 ∧ Aside0 (trothref15_Read.l0 kq l0 x4_1 x5_1 = some (r1, r2)) ∧ Aside0 (kq ≤ k) ∧ Aside0 (Kd.R k62 62 w' w.heap.size (fun _ => True) v4 x4_1) ∧ Aside0 (Below w.heap.size w w'))
      case atStart => exact ⟨(([] : List (S62))), (0), (by first | rfl | (simp; done) | (simp [*]; done)), H', ⟨Nat.le_refl _⟩, ⟨by first | exact Kd.R_nil _ _ _ _ _ | exact Kd.N_nil _ _ _ _ _ | exact Kd.V_nil _ _ _ _ _ | exact Kd.Q_nil _ _ _ _ _ | exact Kd.S_nil _ _ _ _ _⟩, ⟨by repeat (first | (with_reducible first | exact HB.out | apply below_alloc | apply pw_below_drewN | apply below_drew1) | exact HB.out)⟩⟩
      case round =>
        clear H'
        try clear c1
        try clear c2
        try clear c2b0
        try clear p2
        try clear c3
        try clear c3b0
        obtain ⟨x4_1, x5_1, rfl, HA, HK1, HO_4, HB⟩ := hrel
        cases gk with
        | zero => exact absurd HA.out (by simp [trothref15_Read.l0])
        | succ k1 =>
          have H := HA.out
          clear HA
          simp only [trothref15_Read.l0] at H
          by_cases c4 : x5_1 < (l0.length : Int)
          · rw [if_pos c4] at H
            have c4b0 : decide (x5_1 < (l0.length : Int)) = true := decide_eq_true c4
            clear c4
            obtain ⟨ji5, hji5⟩ : ∃ j_ : Int, (wrap64 (x5_1 + 1)) = j_ := ⟨_, rfl⟩
            replace H : (if 0 ≤ (ji5) then (if (ji5) ≤ (wrap64 (x5_1 + 9)) then (if (wrap64 (x5_1 + 9)) ≤ (l0.length : Int) then ((trothref01_Get.f k1 ((l0.take ((wrap64 (x5_1 + 9)) : Int).toNat).drop ((ji5) : Int).toNat)).bind fun bt152 => (if 0 ≤ (wrap64 (x5_1 + 9)) then (if (wrap64 (x5_1 + 9)) ≤ (wrap64 (x5_1 + 17)) then (if (wrap64 (x5_1 + 17)) ≤ (l0.length : Int) then ((trothref01_Get.f k1 ((l0.take ((wrap64 (x5_1 + 17)) : Int).toNat).drop ((wrap64 (x5_1 + 9)) : Int).toNat)).bind fun bt155 => (if 0 ≤ x5_1 then (if (rd l0 x5_1) = 0 then (some (([] : List (S62)), 30)) else (if (rd l0 x5_1) > 4 then (some (([] : List (S62)), 30)) else (if bt152.1 > 4611686018427387904 then (some (([] : List (S62)), 30)) else (if x4_1.length < 5864062014805 then (trothref15_Read.l0 k1 l0 (x4_1 ++ [(⟨wrap64 (rd l0 x5_1), wrap64 (bt152.1), bt155.1⟩ : S62)]) (wrap64 (x5_1 + 17))) else (none))))) else (none))) else (none)) else (none)) else (none))) else (none)) else (none)) else (none)) = some (r1, r2) := by first | (rw [hji5] at H; exact H) | (simp only [hji5] at H ⊢; exact H)
            have hji5w : (IntKind.i64.wrap (x5_1 + 1)) = ji5 := (i64_w _).trans hji5
            by_cases c6 : 0 ≤ (ji5)
            · rw [if_pos c6] at H
              have c6b0 := eq_true c6
              have c6b1 : decide (0 ≤ (ji5)) = true := decide_eq_true c6
              clear c6
              by_cases c7 : (ji5) ≤ (wrap64 (x5_1 + 9))
              · rw [if_pos c7] at H
                have c7b0 := eq_true c7
                have c7b1 : decide ((ji5) ≤ (wrap64 (x5_1 + 9))) = true := decide_eq_true c7
                by_cases c8 : (wrap64 (x5_1 + 9)) ≤ (l0.length : Int)
                · rw [if_pos c8] at H
                  have c8b0 := eq_true c8
                  have c8b1 : decide ((wrap64 (x5_1 + 9)) ≤ (l0.length : Int)) = true := decide_eq_true c8
                  replace H := Option.bind_eq_some_iff.mp H
                  obtain ⟨⟨t152, t153⟩, A90, H⟩ := H
                  replace H : (if 0 ≤ (wrap64 (x5_1 + 9)) then (if (wrap64 (x5_1 + 9)) ≤ (wrap64 (x5_1 + 17)) then (if (wrap64 (x5_1 + 17)) ≤ (l0.length : Int) then ((trothref01_Get.f k1 ((l0.take ((wrap64 (x5_1 + 17)) : Int).toNat).drop ((wrap64 (x5_1 + 9)) : Int).toNat)).bind fun bt155 => (if 0 ≤ x5_1 then (if (rd l0 x5_1) = 0 then (some (([] : List (S62)), 30)) else (if (rd l0 x5_1) > 4 then (some (([] : List (S62)), 30)) else (if t152 > 4611686018427387904 then (some (([] : List (S62)), 30)) else (if x4_1.length < 5864062014805 then (trothref15_Read.l0 k1 l0 (x4_1 ++ [(⟨wrap64 (rd l0 x5_1), wrap64 (t152), bt155.1⟩ : S62)]) (wrap64 (x5_1 + 17))) else (none))))) else (none))) else (none)) else (none)) else (none)) = some (r1, r2) := H
                  have A9 := Aside0.mk A90
                  clear A90
                  obtain ⟨ji10, hji10⟩ : ∃ j_ : Int, (wrap64 (x5_1 + 9)) = j_ := ⟨_, rfl⟩
                  replace H : (if 0 ≤ (ji10) then (if (ji10) ≤ (wrap64 (x5_1 + 17)) then (if (wrap64 (x5_1 + 17)) ≤ (l0.length : Int) then ((trothref01_Get.f k1 ((l0.take ((wrap64 (x5_1 + 17)) : Int).toNat).drop ((ji10) : Int).toNat)).bind fun bt155 => (if 0 ≤ x5_1 then (if (rd l0 x5_1) = 0 then (some (([] : List (S62)), 30)) else (if (rd l0 x5_1) > 4 then (some (([] : List (S62)), 30)) else (if t152 > 4611686018427387904 then (some (([] : List (S62)), 30)) else (if x4_1.length < 5864062014805 then (trothref15_Read.l0 k1 l0 (x4_1 ++ [(⟨wrap64 (rd l0 x5_1), wrap64 (t152), bt155.1⟩ : S62)]) (wrap64 (x5_1 + 17))) else (none))))) else (none))) else (none)) else (none)) else (none)) = some (r1, r2) := by first | (rw [hji10] at H; exact H) | (simp only [hji10] at H ⊢; exact H)
                  (try rw [hji10] at c7b0)
                  (try rw [hji10] at c7b1)
                  (try rw [hji10] at c7)
                  (try rw [hji10] at c8b0)
                  (try rw [hji10] at c8b1)
                  (try rw [hji10] at c8)
                  (try rw [hji10] at A9)
                  have hji10w : (IntKind.i64.wrap (x5_1 + 9)) = ji10 := (i64_w _).trans hji10
                  by_cases c11 : 0 ≤ (ji10)
                  · rw [if_pos c11] at H
                    have c11b0 := eq_true c11
                    have c11b1 : decide (0 ≤ (ji10)) = true := decide_eq_true c11
                    clear c11
                    by_cases c12 : (ji10) ≤ (wrap64 (x5_1 + 17))
                    · rw [if_pos c12] at H
                      have c12b0 := eq_true c12
                      have c12b1 : decide ((ji10) ≤ (wrap64 (x5_1 + 17))) = true := decide_eq_true c12
                      by_cases c13 : (wrap64 (x5_1 + 17)) ≤ (l0.length : Int)
                      · rw [if_pos c13] at H
                        have c13b0 := eq_true c13
                        have c13b1 : decide ((wrap64 (x5_1 + 17)) ≤ (l0.length : Int)) = true := decide_eq_true c13
                        replace H := Option.bind_eq_some_iff.mp H
                        obtain ⟨⟨t155, t156⟩, A140, H⟩ := H
                        replace H : (if 0 ≤ x5_1 then (if (rd l0 x5_1) = 0 then (some (([] : List (S62)), 30)) else (if (rd l0 x5_1) > 4 then (some (([] : List (S62)), 30)) else (if t152 > 4611686018427387904 then (some (([] : List (S62)), 30)) else (if x4_1.length < 5864062014805 then (trothref15_Read.l0 k1 l0 (x4_1 ++ [(⟨wrap64 (rd l0 x5_1), wrap64 (t152), t155⟩ : S62)]) (wrap64 (x5_1 + 17))) else (none))))) else (none)) = some (r1, r2) := H
                        have A14 := Aside0.mk A140
                        clear A140
                        by_cases c15 : 0 ≤ x5_1
                        · rw [if_pos c15] at H
                          have c15b0 : decide (0 ≤ x5_1) = true := decide_eq_true c15
                          clear c15
                          by_cases c16 : (rd l0 x5_1) = 0
                          · rw [if_pos c16] at H
                            have c16b0 : ((rd l0 x5_1) == 0) = true := beq_iff_eq.mpr c16
                            have c16b1 : ((rd l0 x5_1) != 0) = false := bne_eq_false_iff_eq.mpr c16
                            clear c16
                            simp only [Option.some.injEq, Prod.mk.injEq] at H
                            obtain ⟨rfl, rfl⟩ := H
                            obtain ⟨i017, hi017, _, hsz17, _⟩ := info_parts info5
                            obtain ⟨A17, hcut17, hA17, hC17⟩ := print_mid_of (P := Try.prog) (Value.int .u8) 0 23 5 .i64 .i64 Try.underlying23 hi017 hsz17 A0 c0 l0 (ji5) (ji10) (of_decide_eq_true (by first | (with_reducible assumption) | assumption)) (by first | omega | exact of_decide_eq_true (by first | (with_reducible assumption) | assumption)) (of_decide_eq_true (by first | (with_reducible assumption) | assumption)) HC0.out
                            have HR151 := Aside0.mk (Kd.C_of_reads (h1 := fun _ => rfl) (hA17 _ (Kd.reads_of_C HR0.out)))
                            have HC151 := Aside0.mk hC17
                            clear hA17 hC17 hi017 hsz17
                            go_wp2_with (first | ((with_reducible refine gate_callee (f := 32) rfl ?_); refine goesL_ (some 31) rfl rfl Try.func32 (by kernel_rfl) rfl #[.slice A17 ((l0.take ((ji10) : Int).toNat).drop ((ji5) : Int).toNat).length (c0 - (ji5).toNat)] rfl (by (try simp only [List.map_toArray, List.map_cons, List.map_nil]); first | done | (rw [show ((l0.take ((ji10) : Int).toNat).drop ((ji5) : Int).toNat).length = ((ji10).toNat - (ji5).toNat) from (by rw [List.length_drop, List.length_take]; have h_ : ((ji10) : Int) ≤ (l0.length : Int) := of_decide_eq_true (by first | (with_reducible assumption) | assumption); omega)] <;> rfl) | (simp only [hji10, hji5]; rfl) | rfl | (simp only [List.length_drop, List.length_take]; rfl)) ?_; (with_reducible refine (trothref01_Get.calls k1 _ _ ((l0.take ((ji10) : Int).toNat).drop ((ji5) : Int).toNat) t152 t153 _ ?side1 ?side2 A9.out).mono ?_); (case side1 => repeat (first | exact (Kd.C_below HR151.out HB.out) | (with_reducible refine Kd.C_alloc ?_ _) | (with_reducible refine Kd.C_drewN ?_ _) | (with_reducible refine Kd.C_drew ?_))); (case side2 => exact HC151.out); rintro e w' ⟨rfl, ⟨nd, rfl⟩⟩; refine ⟨_, rfl, ?_⟩; obtain ⟨i018, hi018, _, hsz18, _⟩ := info_parts info5; obtain ⟨A18, hcut18, hA18, hC18⟩ := print_mid_of (P := Try.prog) (Value.int .u8) 0 23 5 .i64 .i64 Try.underlying23 hi018 hsz18 A0 c0 l0 (ji10) (wrap64 (x5_1 + 17)) (of_decide_eq_true (by first | (with_reducible assumption) | assumption)) (by first | omega | exact of_decide_eq_true (by first | (with_reducible assumption) | assumption)) (of_decide_eq_true (by first | (with_reducible assumption) | assumption)) HC0.out; have HR154 := Aside0.mk (Kd.C_of_reads (h1 := fun _ => rfl) (hA18 _ (Kd.reads_of_C HR0.out))); have HC154 := Aside0.mk hC18; clear hA18 hC18 hi018 hsz18) | ((with_reducible refine gate_callee (f := 32) rfl ?_); refine goesL_ (some 41) rfl rfl Try.func32 (by kernel_rfl) rfl #[.slice A18 ((l0.take ((wrap64 (x5_1 + 17)) : Int).toNat).drop ((ji10) : Int).toNat).length (c0 - (ji10).toNat)] rfl (by (try simp only [List.map_toArray, List.map_cons, List.map_nil]); first | done | (rw [show ((l0.take ((wrap64 (x5_1 + 17)) : Int).toNat).drop ((ji10) : Int).toNat).length = ((wrap64 (x5_1 + 17)).toNat - (ji10).toNat) from (by rw [List.length_drop, List.length_take]; have h_ : ((wrap64 (x5_1 + 17)) : Int) ≤ (l0.length : Int) := of_decide_eq_true (by first | (with_reducible assumption) | assumption); omega)] <;> rfl) | (simp only [hji10]; rfl) | rfl | (simp only [List.length_drop, List.length_take]; rfl)) ?_; (with_reducible refine (trothref01_Get.calls k1 _ _ ((l0.take ((wrap64 (x5_1 + 17)) : Int).toNat).drop ((ji10) : Int).toNat) t155 t156 _ ?side1 ?side2 A14.out).mono ?_); (case side1 => repeat (first | exact (Kd.C_below HR154.out (by repeat (first | (with_reducible first | exact HB.out | apply below_alloc | apply pw_below_drewN | apply below_drew1) | exact HB.out))) | (with_reducible refine Kd.C_alloc ?_ _) | (with_reducible refine Kd.C_drewN ?_ _) | (with_reducible refine Kd.C_drew ?_))); (case side2 => exact HC154.out); rintro e w' ⟨rfl, ⟨nd, rfl⟩⟩; refine ⟨_, rfl, ?_⟩; have p157 : 0 ≤ (x5_1 : Int) := of_decide_eq_true (by first | (with_reducible assumption) | assumption); have q157 : x5_1 < (l0.length : Int) := of_decide_eq_true (by first | (with_reducible assumption) | assumption); obtain ⟨ad157, e157, hx157_0⟩ := Kd.at_int HR0.out x5_1 p157 q157; cases e157; replace hx157_0 := (HB.out.cell (World.block_lt_of_cell? w _ hx157_0)).trans hx157_0; replace p157 := eq_true p157; replace q157 := eq_true q157))
                            go_ret2
                            exact ⟨_, by first | rfl | (simp [errW_none, errW_some] <;> rfl) | (simp only [← hji5, ← hji10]; first | rfl | (simp [errW_none, errW_some] <;> rfl)) | (simp [*, errW_none, errW_some] <;> rfl), by first | exact Kd.R_nil _ _ _ _ _ | exact Kd.N_nil _ _ _ _ _ | exact Kd.V_nil _ _ _ _ _ | exact Kd.Q_nil _ _ _ _ _ | exact Kd.S_nil _ _ _ _ _, by repeat (first | (with_reducible first | exact HB.out | apply below_alloc | apply pw_below_drewN | apply below_drew1) | exact HB.out)⟩
                          · rw [if_neg c16] at H
                            have c16b0 : ((rd l0 x5_1) == 0) = false := beq_eq_false_iff_ne.mpr c16
                            have c16b1 : ((rd l0 x5_1) != 0) = true := bne_iff_ne.mpr c16
                            by_cases c19 : (rd l0 x5_1) > 4
                            · rw [if_pos c19] at H
                              have c19b0 : decide (4 < (rd l0 x5_1)) = true := decide_eq_true c19
                              clear c19
                              simp only [Option.some.injEq, Prod.mk.injEq] at H
                              obtain ⟨rfl, rfl⟩ := H
                              obtain ⟨i020, hi020, _, hsz20, _⟩ := info_parts info5
                              obtain ⟨A20, hcut20, hA20, hC20⟩ := print_mid_of (P := Try.prog) (Value.int .u8) 0 23 5 .i64 .i64 Try.underlying23 hi020 hsz20 A0 c0 l0 (ji5) (ji10) (of_decide_eq_true (by first | (with_reducible assumption) | assumption)) (by first | omega | exact of_decide_eq_true (by first | (with_reducible assumption) | assumption)) (of_decide_eq_true (by first | (with_reducible assumption) | assumption)) HC0.out
                              have HR151 := Aside0.mk (Kd.C_of_reads (h1 := fun _ => rfl) (hA20 _ (Kd.reads_of_C HR0.out)))
                              have HC151 := Aside0.mk hC20
                              clear hA20 hC20 hi020 hsz20
                              go_wp2_with (first | ((with_reducible refine gate_callee (f := 32) rfl ?_); refine goesL_ (some 31) rfl rfl Try.func32 (by kernel_rfl) rfl #[.slice A20 ((l0.take ((ji10) : Int).toNat).drop ((ji5) : Int).toNat).length (c0 - (ji5).toNat)] rfl (by (try simp only [List.map_toArray, List.map_cons, List.map_nil]); first | done | (rw [show ((l0.take ((ji10) : Int).toNat).drop ((ji5) : Int).toNat).length = ((ji10).toNat - (ji5).toNat) from (by rw [List.length_drop, List.length_take]; have h_ : ((ji10) : Int) ≤ (l0.length : Int) := of_decide_eq_true (by first | (with_reducible assumption) | assumption); omega)] <;> rfl) | (simp only [hji10, hji5]; rfl) | rfl | (simp only [List.length_drop, List.length_take]; rfl)) ?_; (with_reducible refine (trothref01_Get.calls k1 _ _ ((l0.take ((ji10) : Int).toNat).drop ((ji5) : Int).toNat) t152 t153 _ ?side1 ?side2 A9.out).mono ?_); (case side1 => repeat (first | exact (Kd.C_below HR151.out HB.out) | (with_reducible refine Kd.C_alloc ?_ _) | (with_reducible refine Kd.C_drewN ?_ _) | (with_reducible refine Kd.C_drew ?_))); (case side2 => exact HC151.out); rintro e w' ⟨rfl, ⟨nd, rfl⟩⟩; refine ⟨_, rfl, ?_⟩; obtain ⟨i021, hi021, _, hsz21, _⟩ := info_parts info5; obtain ⟨A21, hcut21, hA21, hC21⟩ := print_mid_of (P := Try.prog) (Value.int .u8) 0 23 5 .i64 .i64 Try.underlying23 hi021 hsz21 A0 c0 l0 (ji10) (wrap64 (x5_1 + 17)) (of_decide_eq_true (by first | (with_reducible assumption) | assumption)) (by first | omega | exact of_decide_eq_true (by first | (with_reducible assumption) | assumption)) (of_decide_eq_true (by first | (with_reducible assumption) | assumption)) HC0.out; have HR154 := Aside0.mk (Kd.C_of_reads (h1 := fun _ => rfl) (hA21 _ (Kd.reads_of_C HR0.out))); have HC154 := Aside0.mk hC21; clear hA21 hC21 hi021 hsz21) | ((with_reducible refine gate_callee (f := 32) rfl ?_); refine goesL_ (some 41) rfl rfl Try.func32 (by kernel_rfl) rfl #[.slice A21 ((l0.take ((wrap64 (x5_1 + 17)) : Int).toNat).drop ((ji10) : Int).toNat).length (c0 - (ji10).toNat)] rfl (by (try simp only [List.map_toArray, List.map_cons, List.map_nil]); first | done | (rw [show ((l0.take ((wrap64 (x5_1 + 17)) : Int).toNat).drop ((ji10) : Int).toNat).length = ((wrap64 (x5_1 + 17)).toNat - (ji10).toNat) from (by rw [List.length_drop, List.length_take]; have h_ : ((wrap64 (x5_1 + 17)) : Int) ≤ (l0.length : Int) := of_decide_eq_true (by first | (with_reducible assumption) | assumption); omega)] <;> rfl) | (simp only [hji10]; rfl) | rfl | (simp only [List.length_drop, List.length_take]; rfl)) ?_; (with_reducible refine (trothref01_Get.calls k1 _ _ ((l0.take ((wrap64 (x5_1 + 17)) : Int).toNat).drop ((ji10) : Int).toNat) t155 t156 _ ?side1 ?side2 A14.out).mono ?_); (case side1 => repeat (first | exact (Kd.C_below HR154.out (by repeat (first | (with_reducible first | exact HB.out | apply below_alloc | apply pw_below_drewN | apply below_drew1) | exact HB.out))) | (with_reducible refine Kd.C_alloc ?_ _) | (with_reducible refine Kd.C_drewN ?_ _) | (with_reducible refine Kd.C_drew ?_))); (case side2 => exact HC154.out); rintro e w' ⟨rfl, ⟨nd, rfl⟩⟩; refine ⟨_, rfl, ?_⟩; have p157 : 0 ≤ (x5_1 : Int) := of_decide_eq_true (by first | (with_reducible assumption) | assumption); have q157 : x5_1 < (l0.length : Int) := of_decide_eq_true (by first | (with_reducible assumption) | assumption); obtain ⟨ad157, e157, hx157_0⟩ := Kd.at_int HR0.out x5_1 p157 q157; cases e157; replace hx157_0 := (HB.out.cell (World.block_lt_of_cell? w _ hx157_0)).trans hx157_0; replace p157 := eq_true p157; replace q157 := eq_true q157; have p158 : 0 ≤ (x5_1 : Int) := of_decide_eq_true (by first | (with_reducible assumption) | assumption); have q158 : x5_1 < (l0.length : Int) := of_decide_eq_true (by first | (with_reducible assumption) | assumption); obtain ⟨ad158, e158, hx158_0⟩ := Kd.at_int HR0.out x5_1 p158 q158; obtain rfl : ad157 = ad158 := (by injection e158); replace hx158_0 := (HB.out.cell (World.block_lt_of_cell? w _ hx158_0)).trans hx158_0; replace p158 := eq_true p158; replace q158 := eq_true q158))
                              go_ret2
                              exact ⟨_, by first | rfl | (simp [errW_none, errW_some] <;> rfl) | (simp only [← hji5, ← hji10]; first | rfl | (simp [errW_none, errW_some] <;> rfl)) | (simp [*, errW_none, errW_some] <;> rfl), by first | exact Kd.R_nil _ _ _ _ _ | exact Kd.N_nil _ _ _ _ _ | exact Kd.V_nil _ _ _ _ _ | exact Kd.Q_nil _ _ _ _ _ | exact Kd.S_nil _ _ _ _ _, by repeat (first | (with_reducible first | exact HB.out | apply below_alloc | apply pw_below_drewN | apply below_drew1) | exact HB.out)⟩
                            · rw [if_neg c19] at H
                              have c19b0 : decide (4 < (rd l0 x5_1)) = false := decide_eq_false c19
                              clear c19
                              by_cases c22 : t152 > 4611686018427387904
                              · rw [if_pos c22] at H
                                have c22b0 : decide (4611686018427387904 < t152) = true := decide_eq_true c22
                                clear c22
                                simp only [Option.some.injEq, Prod.mk.injEq] at H
                                obtain ⟨rfl, rfl⟩ := H
                                obtain ⟨i023, hi023, _, hsz23, _⟩ := info_parts info5
                                obtain ⟨A23, hcut23, hA23, hC23⟩ := print_mid_of (P := Try.prog) (Value.int .u8) 0 23 5 .i64 .i64 Try.underlying23 hi023 hsz23 A0 c0 l0 (ji5) (ji10) (of_decide_eq_true (by first | (with_reducible assumption) | assumption)) (by first | omega | exact of_decide_eq_true (by first | (with_reducible assumption) | assumption)) (of_decide_eq_true (by first | (with_reducible assumption) | assumption)) HC0.out
                                have HR151 := Aside0.mk (Kd.C_of_reads (h1 := fun _ => rfl) (hA23 _ (Kd.reads_of_C HR0.out)))
                                have HC151 := Aside0.mk hC23
                                clear hA23 hC23 hi023 hsz23
                                go_wp2_with (first | ((with_reducible refine gate_callee (f := 32) rfl ?_); refine goesL_ (some 31) rfl rfl Try.func32 (by kernel_rfl) rfl #[.slice A23 ((l0.take ((ji10) : Int).toNat).drop ((ji5) : Int).toNat).length (c0 - (ji5).toNat)] rfl (by (try simp only [List.map_toArray, List.map_cons, List.map_nil]); first | done | (rw [show ((l0.take ((ji10) : Int).toNat).drop ((ji5) : Int).toNat).length = ((ji10).toNat - (ji5).toNat) from (by rw [List.length_drop, List.length_take]; have h_ : ((ji10) : Int) ≤ (l0.length : Int) := of_decide_eq_true (by first | (with_reducible assumption) | assumption); omega)] <;> rfl) | (simp only [hji10, hji5]; rfl) | rfl | (simp only [List.length_drop, List.length_take]; rfl)) ?_; (with_reducible refine (trothref01_Get.calls k1 _ _ ((l0.take ((ji10) : Int).toNat).drop ((ji5) : Int).toNat) t152 t153 _ ?side1 ?side2 A9.out).mono ?_); (case side1 => repeat (first | exact (Kd.C_below HR151.out HB.out) | (with_reducible refine Kd.C_alloc ?_ _) | (with_reducible refine Kd.C_drewN ?_ _) | (with_reducible refine Kd.C_drew ?_))); (case side2 => exact HC151.out); rintro e w' ⟨rfl, ⟨nd, rfl⟩⟩; refine ⟨_, rfl, ?_⟩; obtain ⟨i024, hi024, _, hsz24, _⟩ := info_parts info5; obtain ⟨A24, hcut24, hA24, hC24⟩ := print_mid_of (P := Try.prog) (Value.int .u8) 0 23 5 .i64 .i64 Try.underlying23 hi024 hsz24 A0 c0 l0 (ji10) (wrap64 (x5_1 + 17)) (of_decide_eq_true (by first | (with_reducible assumption) | assumption)) (by first | omega | exact of_decide_eq_true (by first | (with_reducible assumption) | assumption)) (of_decide_eq_true (by first | (with_reducible assumption) | assumption)) HC0.out; have HR154 := Aside0.mk (Kd.C_of_reads (h1 := fun _ => rfl) (hA24 _ (Kd.reads_of_C HR0.out))); have HC154 := Aside0.mk hC24; clear hA24 hC24 hi024 hsz24) | ((with_reducible refine gate_callee (f := 32) rfl ?_); refine goesL_ (some 41) rfl rfl Try.func32 (by kernel_rfl) rfl #[.slice A24 ((l0.take ((wrap64 (x5_1 + 17)) : Int).toNat).drop ((ji10) : Int).toNat).length (c0 - (ji10).toNat)] rfl (by (try simp only [List.map_toArray, List.map_cons, List.map_nil]); first | done | (rw [show ((l0.take ((wrap64 (x5_1 + 17)) : Int).toNat).drop ((ji10) : Int).toNat).length = ((wrap64 (x5_1 + 17)).toNat - (ji10).toNat) from (by rw [List.length_drop, List.length_take]; have h_ : ((wrap64 (x5_1 + 17)) : Int) ≤ (l0.length : Int) := of_decide_eq_true (by first | (with_reducible assumption) | assumption); omega)] <;> rfl) | (simp only [hji10]; rfl) | rfl | (simp only [List.length_drop, List.length_take]; rfl)) ?_; (with_reducible refine (trothref01_Get.calls k1 _ _ ((l0.take ((wrap64 (x5_1 + 17)) : Int).toNat).drop ((ji10) : Int).toNat) t155 t156 _ ?side1 ?side2 A14.out).mono ?_); (case side1 => repeat (first | exact (Kd.C_below HR154.out (by repeat (first | (with_reducible first | exact HB.out | apply below_alloc | apply pw_below_drewN | apply below_drew1) | exact HB.out))) | (with_reducible refine Kd.C_alloc ?_ _) | (with_reducible refine Kd.C_drewN ?_ _) | (with_reducible refine Kd.C_drew ?_))); (case side2 => exact HC154.out); rintro e w' ⟨rfl, ⟨nd, rfl⟩⟩; refine ⟨_, rfl, ?_⟩; have p157 : 0 ≤ (x5_1 : Int) := of_decide_eq_true (by first | (with_reducible assumption) | assumption); have q157 : x5_1 < (l0.length : Int) := of_decide_eq_true (by first | (with_reducible assumption) | assumption); obtain ⟨ad157, e157, hx157_0⟩ := Kd.at_int HR0.out x5_1 p157 q157; cases e157; replace hx157_0 := (HB.out.cell (World.block_lt_of_cell? w _ hx157_0)).trans hx157_0; replace p157 := eq_true p157; replace q157 := eq_true q157; have p158 : 0 ≤ (x5_1 : Int) := of_decide_eq_true (by first | (with_reducible assumption) | assumption); have q158 : x5_1 < (l0.length : Int) := of_decide_eq_true (by first | (with_reducible assumption) | assumption); obtain ⟨ad158, e158, hx158_0⟩ := Kd.at_int HR0.out x5_1 p158 q158; obtain rfl : ad157 = ad158 := (by injection e158); replace hx158_0 := (HB.out.cell (World.block_lt_of_cell? w _ hx158_0)).trans hx158_0; replace p158 := eq_true p158; replace q158 := eq_true q158))
                                go_ret2
                                exact ⟨_, by first | rfl | (simp [errW_none, errW_some] <;> rfl) | (simp only [← hji5, ← hji10]; first | rfl | (simp [errW_none, errW_some] <;> rfl)) | (simp [*, errW_none, errW_some] <;> rfl), by first | exact Kd.R_nil _ _ _ _ _ | exact Kd.N_nil _ _ _ _ _ | exact Kd.V_nil _ _ _ _ _ | exact Kd.Q_nil _ _ _ _ _ | exact Kd.S_nil _ _ _ _ _, by repeat (first | (with_reducible first | exact HB.out | apply below_alloc | apply pw_below_drewN | apply below_drew1) | exact HB.out)⟩
                              · rw [if_neg c22] at H
                                have c22b0 : decide (4611686018427387904 < t152) = false := decide_eq_false c22
                                clear c22
                                by_cases c25 : x4_1.length < 5864062014805
                                · rw [if_pos c25] at H
                                  have LMc25 := Aside0.mk c25
                                  clear c25
                                  obtain ⟨y160, hy160⟩ : ∃ y_ : List (S62), y_ = (x4_1 ++ [(⟨wrap64 (rd l0 x5_1), wrap64 (t152), t155⟩ : S62)]) := ⟨_, rfl⟩
                                  replace H : (trothref15_Read.l0 k1 l0 y160 (wrap64 (x5_1 + 17))) = some (r1, r2) := by first | (rw [hy160]; with_reducible exact H) | (have H2_ := (Option.bind_some _ _).symm.trans H; rw [hy160]; with_reducible exact H2_) | (have H2_ := (Option.bind_some _ _).symm.trans H; with_reducible exact H2_) | with_reducible exact H | (rw [hy160]; exact H) | exact H
                                  have Ny160 := Aside0.mk hy160
                                  clear hy160
                                  have H' := Aside0.mk H
                                  clear H
                                  obtain ⟨i026, hi026, _, hsz26, _⟩ := info_parts info5
                                  obtain ⟨A26, hcut26, hA26, hC26⟩ := print_mid_of (P := Try.prog) (Value.int .u8) 0 23 5 .i64 .i64 Try.underlying23 hi026 hsz26 A0 c0 l0 (ji5) (ji10) (of_decide_eq_true (by first | (with_reducible assumption) | assumption)) (by first | omega | exact of_decide_eq_true (by first | (with_reducible assumption) | assumption)) (of_decide_eq_true (by first | (with_reducible assumption) | assumption)) HC0.out
                                  have HR151 := Aside0.mk (Kd.C_of_reads (h1 := fun _ => rfl) (hA26 _ (Kd.reads_of_C HR0.out)))
                                  have HC151 := Aside0.mk hC26
                                  clear hA26 hC26 hi026 hsz26
                                  go_wp2_with (first | ((with_reducible refine gate_callee (f := 32) rfl ?_); refine goesL_ (some 31) rfl rfl Try.func32 (by kernel_rfl) rfl #[.slice A26 ((l0.take ((ji10) : Int).toNat).drop ((ji5) : Int).toNat).length (c0 - (ji5).toNat)] rfl (by (try simp only [List.map_toArray, List.map_cons, List.map_nil]); first | done | (rw [show ((l0.take ((ji10) : Int).toNat).drop ((ji5) : Int).toNat).length = ((ji10).toNat - (ji5).toNat) from (by rw [List.length_drop, List.length_take]; have h_ : ((ji10) : Int) ≤ (l0.length : Int) := of_decide_eq_true (by first | (with_reducible assumption) | assumption); omega)] <;> rfl) | (simp only [hji10, hji5]; rfl) | rfl | (simp only [List.length_drop, List.length_take]; rfl)) ?_; (with_reducible refine (trothref01_Get.calls k1 _ _ ((l0.take ((ji10) : Int).toNat).drop ((ji5) : Int).toNat) t152 t153 _ ?side1 ?side2 A9.out).mono ?_); (case side1 => repeat (first | exact (Kd.C_below HR151.out HB.out) | (with_reducible refine Kd.C_alloc ?_ _) | (with_reducible refine Kd.C_drewN ?_ _) | (with_reducible refine Kd.C_drew ?_))); (case side2 => exact HC151.out); rintro e w' ⟨rfl, ⟨nd, rfl⟩⟩; refine ⟨_, rfl, ?_⟩; obtain ⟨i027, hi027, _, hsz27, _⟩ := info_parts info5; obtain ⟨A27, hcut27, hA27, hC27⟩ := print_mid_of (P := Try.prog) (Value.int .u8) 0 23 5 .i64 .i64 Try.underlying23 hi027 hsz27 A0 c0 l0 (ji10) (wrap64 (x5_1 + 17)) (of_decide_eq_true (by first | (with_reducible assumption) | assumption)) (by first | omega | exact of_decide_eq_true (by first | (with_reducible assumption) | assumption)) (of_decide_eq_true (by first | (with_reducible assumption) | assumption)) HC0.out; have HR154 := Aside0.mk (Kd.C_of_reads (h1 := fun _ => rfl) (hA27 _ (Kd.reads_of_C HR0.out))); have HC154 := Aside0.mk hC27; clear hA27 hC27 hi027 hsz27) | ((with_reducible refine gate_callee (f := 32) rfl ?_); refine goesL_ (some 41) rfl rfl Try.func32 (by kernel_rfl) rfl #[.slice A27 ((l0.take ((wrap64 (x5_1 + 17)) : Int).toNat).drop ((ji10) : Int).toNat).length (c0 - (ji10).toNat)] rfl (by (try simp only [List.map_toArray, List.map_cons, List.map_nil]); first | done | (rw [show ((l0.take ((wrap64 (x5_1 + 17)) : Int).toNat).drop ((ji10) : Int).toNat).length = ((wrap64 (x5_1 + 17)).toNat - (ji10).toNat) from (by rw [List.length_drop, List.length_take]; have h_ : ((wrap64 (x5_1 + 17)) : Int) ≤ (l0.length : Int) := of_decide_eq_true (by first | (with_reducible assumption) | assumption); omega)] <;> rfl) | (simp only [hji10]; rfl) | rfl | (simp only [List.length_drop, List.length_take]; rfl)) ?_; (with_reducible refine (trothref01_Get.calls k1 _ _ ((l0.take ((wrap64 (x5_1 + 17)) : Int).toNat).drop ((ji10) : Int).toNat) t155 t156 _ ?side1 ?side2 A14.out).mono ?_); (case side1 => repeat (first | exact (Kd.C_below HR154.out (by repeat (first | (with_reducible first | exact HB.out | apply below_alloc | apply pw_below_drewN | apply below_drew1) | exact HB.out))) | (with_reducible refine Kd.C_alloc ?_ _) | (with_reducible refine Kd.C_drewN ?_ _) | (with_reducible refine Kd.C_drew ?_))); (case side2 => exact HC154.out); rintro e w' ⟨rfl, ⟨nd, rfl⟩⟩; refine ⟨_, rfl, ?_⟩; have p157 : 0 ≤ (x5_1 : Int) := of_decide_eq_true (by first | (with_reducible assumption) | assumption); have q157 : x5_1 < (l0.length : Int) := of_decide_eq_true (by first | (with_reducible assumption) | assumption); obtain ⟨ad157, e157, hx157_0⟩ := Kd.at_int HR0.out x5_1 p157 q157; cases e157; replace hx157_0 := (HB.out.cell (World.block_lt_of_cell? w _ hx157_0)).trans hx157_0; replace p157 := eq_true p157; replace q157 := eq_true q157; have p158 : 0 ≤ (x5_1 : Int) := of_decide_eq_true (by first | (with_reducible assumption) | assumption); have q158 : x5_1 < (l0.length : Int) := of_decide_eq_true (by first | (with_reducible assumption) | assumption); obtain ⟨ad158, e158, hx158_0⟩ := Kd.at_int HR0.out x5_1 p158 q158; obtain rfl : ad157 = ad158 := (by injection e158); replace hx158_0 := (HB.out.cell (World.block_lt_of_cell? w _ hx158_0)).trans hx158_0; replace p158 := eq_true p158; replace q158 := eq_true q158; have p159 : 0 ≤ (x5_1 : Int) := of_decide_eq_true (by first | (with_reducible assumption) | assumption); have q159 : x5_1 < (l0.length : Int) := of_decide_eq_true (by first | (with_reducible assumption) | assumption); obtain ⟨ad159, e159, hx159_0⟩ := Kd.at_int HR0.out x5_1 p159 q159; obtain rfl : ad157 = ad159 := (by injection e159); replace hx159_0 := (HB.out.cell (World.block_lt_of_cell? w _ hx159_0)).trans hx159_0; replace p159 := eq_true p159; replace q159 := eq_true q159) | ((with_reducible refine gate_builtin (b := .append) (xs := #[.tmp 60, .tmp 70]) rfl ?_); at_builtin; refine Kd.R_append k62 (w0 := w) w.heap.size rfl (.tmp 60) (.tmp 70) 22 62 (.agg #[(.int .i64 0), (.int .i64 0), (.int .u64 0)]) 24 rfl Try.underlying22 info62 rfl (by decide) (by omega) u4 x4_1 (⟨wrap64 (rd l0 x5_1), wrap64 (t152), t155⟩ : S62) [.int .i64 (wrap64 (rd l0 x5_1)), .int .i64 (wrap64 (t152)), .int .u64 t155] (fun _ => True) (fun _ => False) rfl rfl ?aP (fun _ hk => hk.elim) ?aF ?aO ?aB ?aS ?aL ?_; (case aP => exact k62_mkM _ _ _ (⟨wrap64 (rd l0 x5_1), wrap64 (t152), t155⟩ : S62)); (case aB => exact (by repeat (first | (with_reducible first | exact HB.out | apply below_alloc | apply pw_below_drewN | apply below_drew1) | exact HB.out))); (case aF => exact (fun _ _ => trivial)); (case aO => exact (by (with_reducible repeat (first | apply Kd.R_alloc | apply Kd.R_drewN | apply Kd.R_drew)); exact HO_4.out)); (case aS => exact (below_size (by repeat (first | (with_reducible first | exact HB.out | apply below_alloc | apply pw_below_drewN | apply below_drew1) | exact HB.out)))); (case aL => have := LMc25.out; omega); intro v161 w28 ho hb hg hat; rw [← Ny160.out] at ho; have n0_ := Aside0.mk (hb); have n1_ := Aside0.mk (ho); clear HB; clear HO_4; have HB := n0_; have HO162 := n1_; clear n0_ n1_; clear ho hb hg hat))
                                  go_roundg k1
                                  case measure => have := HK1.out; omega
                                  case rel => exact ⟨(y160), (wrap64 (x5_1 + 17)), (by first | rfl | (simp; done) | (simp [*]; done)), H', ⟨by have := HK1.out; omega⟩, ⟨by (with_reducible repeat (first | apply Kd.R_alloc | apply Kd.R_drewN | apply Kd.R_drew)); exact HO162.out⟩, ⟨by repeat (first | (with_reducible first | exact HB.out | apply below_alloc | apply pw_below_drewN | apply below_drew1) | exact HB.out)⟩⟩
                                · rw [if_neg c25] at H
                                  exact absurd H (by simp)
                        · rw [if_neg c15] at H
                          exact absurd H (by simp)
                      · rw [if_neg c13] at H
                        exact absurd H (by simp)
                    · rw [if_neg c12] at H
                      exact absurd H (by simp)
                  · rw [if_neg c11] at H
                    exact absurd H (by simp)
                · rw [if_neg c8] at H
                  exact absurd H (by simp)
              · rw [if_neg c7] at H
                exact absurd H (by simp)
            · rw [if_neg c6] at H
              exact absurd H (by simp)
          · rw [if_neg c4] at H
            have c4b0 : decide (x5_1 < (l0.length : Int)) = false := decide_eq_false c4
            clear c4
            simp only [Option.some.injEq, Prod.mk.injEq] at H
            obtain ⟨rfl, rfl⟩ := H
            go_wp2
            go_ret2
            exact ⟨_, by first | rfl | (simp [errW_none, errW_some] <;> rfl) | (simp [*, errW_none, errW_some] <;> rfl), by (with_reducible repeat (first | apply Kd.R_alloc | apply Kd.R_drewN | apply Kd.R_drew)); exact HO_4.out, by repeat (first | (with_reducible first | exact HB.out | apply below_alloc | apply pw_below_drewN | apply below_drew1) | exact HB.out)⟩
end Go.Proofs.Ytdejbinmnoabeaa.P

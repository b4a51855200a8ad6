/- LuwTotal: the plain law, and the walk that answers true. -/
import Derived.Test.YtlbajagnfmbljaaQOrd
namespace Go.Proofs.Ytlbajagnfmbljaa.Q
open Go.RowKit Go.Proofs.YtlbajagnfmbljaaW.PrintWords Go.Proofs.YtlbajagnfmbljaaW.PrintLast Go.Proofs.YtlbajagnfmbljaaW.PrintMore
set_option linter.unusedVariables false
set_option linter.unusedSimpArgs false

theorem bytesLess_eq : ∀ a b : List UInt8, Op.bytesLess a b = decide (Lib.compareBytes a b < 0)
  | [], [] => by simp [Op.bytesLess, Lib.compareBytes]
  | [], _ :: _ => by simp [Op.bytesLess, Lib.compareBytes]
  | _ :: _, [] => by simp [Op.bytesLess, Lib.compareBytes]
  | x :: a, y :: b => by
    have ih := bytesLess_eq a b
    unfold Op.bytesLess Lib.compareBytes
    by_cases h : x < y
    · simp [h]
    · by_cases g : y < x
      · have : ¬ x = y := by intro q; subst q; exact h g
        simp [h, g, this]
      · have : x = y := UInt8.le_antisymm (UInt8.not_lt.1 g) (UInt8.not_lt.1 h)
        subst this
        simp [h, ih]

/-- LuwTotal, plainly. -/
theorem luwTotal_plain (a0 a1 a2 b0 b1 b2 c0 c1 c2 : Int) (h1 : 0 ≤ a1 ∧ a1 < 4294967296) (h2 : 0 ≤ a2 ∧ a2 < 4294967296) (g1 : 0 ≤ b1 ∧ b1 < 4294967296) (g2 : 0 ≤ b2 ∧ b2 < 4294967296) (i1 : 0 ≤ c1 ∧ c1 < 4294967296) (i2 : 0 ≤ c2 ∧ c2 < 4294967296) :
    trothlaw05_LuwTotal.f 1 a0 a1 a2 b0 b1 b2 c0 c1 c2 = some true := by
  have wr : ∀ x y z, luw_Write.f x y z = some (if rightP x z = true then ([x % 256, (y / 16777216) % 256, (y / 65536) % 256, (y / 256) % 256, y % 256, (z / 16777216) % 256, (z / 65536) % 256, (z / 256) % 256, z % 256], 0) else ([], 50)) := by
    intro x y z
    unfold luw_Write.f
    rw [right_eq, Option.bind_some]
    split <;> rfl
  have j : trothlaw05_LuwTotal.j0 1 (lessP a0 a1 a2 b0 b1 b2) false a0 a1 a2 b0 b1 b2 = some true := by
    simp only [trothlaw05_LuwTotal.j0]
    rw [wr, wr, alive_eq]
    simp only [Bool.false_eq_true, if_false, Option.bind_some, if_true]
    by_cases ra : rightP a0 a2 = true
    · by_cases rb : rightP b0 b2 = true
      · simp only [ra, rb, if_true, ByteArray.toList_eq, strOfNums_data, bytesLess_eq]
        simp only [rightP, decide_eq_true_eq] at ra rb
        congr 1
        rw [beq_iff_eq, lessP]
        have nine := cmp_nine (a0 % 256) (b0 % 256) a1 a2 b1 b2 (by omega) (by omega) h1 h2 g1 g2
        simp only [Lib.bytesOf] at nine
        apply Bool.eq_iff_iff.2
        refine Iff.trans ?_ (decide_eq_true_iff.trans nine).symm
        by_cases x : a0 = b0
        · subst x
          rw [if_pos rfl, decide_eq_true_eq]
          omega
        · rw [if_neg x, decide_eq_true_eq]
          omega
      · simp [ra, rb]
    · simp [ra]
  unfold trothlaw05_LuwTotal.f
  rw [less_eq _ _ _ _ _ _ h1 h2 g1 g2, less_eq _ _ _ _ _ _ g1 g2 h1 h2, less_eq _ _ _ _ _ _ h1 h2 h1 h2, less_eq _ _ _ _ _ _ g1 g2 i1 i2, less_eq _ _ _ _ _ _ h1 h2 i1 i2]
  have irr : lessP a0 a1 a2 a0 a1 a2 = false := by simp [lessP]
  simp only [Option.bind_some, irr]
  have tr : lessP a0 a1 a2 b0 b1 b2 = true → lessP b0 b1 b2 c0 c1 c2 = true → lessP a0 a1 a2 c0 c1 c2 = true := by
    unfold lessP
    intro p q
    split at p <;> split at q <;> rename_i u v
    all_goals simp only [decide_eq_true_eq] at p q
    · rw [if_pos (by omega)]; simp only [decide_eq_true_eq]; omega
    · rw [if_neg (by omega)]; simp only [decide_eq_true_eq]; omega
    · rw [if_neg (by omega)]; simp only [decide_eq_true_eq]; omega
    · rw [if_neg (by omega)]; simp only [decide_eq_true_eq]; omega
  have eqv : (a0 == b0 && (a1 == b1 && (a2 == b2))) = (!lessP a0 a1 a2 b0 b1 b2 && !lessP b0 b1 b2 a0 a1 a2) := by
    rw [Bool.eq_iff_iff]
    simp only [Bool.and_eq_true, beq_iff_eq, Bool.not_eq_true', lessP]
    split <;> rename_i u
    · rw [if_pos u.symm]
      simp only [decide_eq_false_iff_not]
      omega
    · rw [if_neg (fun q => u q.symm)]
      simp only [decide_eq_false_iff_not]
      omega
  have asym : lessP a0 a1 a2 b0 b1 b2 = true → lessP b0 b1 b2 a0 a1 a2 = false := by
    unfold lessP
    intro p
    split at p <;> rename_i u
    · rw [if_pos u.symm]
      simp only [decide_eq_true_eq] at p
      simp only [decide_eq_false_iff_not]
      omega
    · rw [if_neg (fun q => u q.symm)]
      simp only [decide_eq_true_eq] at p
      simp only [decide_eq_false_iff_not]
      omega
  rw [eqv]
  cases hx : lessP a0 a1 a2 b0 b1 b2
  · rw [hx] at j
    cases hy : lessP b0 b1 b2 a0 a1 a2
    · simpa using j
    · simpa using j
  · rw [hx] at j
    rw [asym hx]
    cases hz : lessP b0 b1 b2 c0 c1 c2
    · simpa using j
    · rw [tr hx hz]
      simpa using j

theorem total_walk (a0 a1 a2 b0 b1 b2 c0 c1 c2 : Int) (w : World) (h1 : (Lit.int .u32 a1).wf = true) (h2 : (Lit.int .u32 a2).wf = true) (g1 : (Lit.int .u32 b1).wf = true) (g2 : (Lit.int .u32 b2).wf = true) (i1 : (Lit.int .u32 c1).wf = true) (i2 : (Lit.int .u32 c2).wf = true) :
    Calls Try.prog 6 #[.agg #[.int .i64 a0, .int .u32 a1, .int .u32 a2], .agg #[.int .i64 b0, .int .u32 b1, .int .u32 b2], .agg #[.int .i64 c0, .int .u32 c1, .int .u32 c2]] w fun e w' => e = .returned (.bool true) ∧ Below w.heap.size w w' :=
  trothlaw05_LuwTotal.calls 1 a0 a1 a2 b0 b1 b2 c0 c1 c2 true w (luwTotal_plain a0 a1 a2 b0 b1 b2 c0 c1 c2 (u32_range h1) (u32_range h2) (u32_range g1) (u32_range g2) (u32_range i1) (u32_range i2))

end Go.Proofs.Ytlbajagnfmbljaa.Q

/- LuwNext: the plain law, and the walk that answers true. -/
import Derived.Test.YtlbajagnfmbljaaQOrd
import Derived.Test.YtlbajagnfmbljaaQx15
namespace Go.Proofs.Ytlbajagnfmbljaa.Q
open Go.RowKit Go.Proofs.YtlbajagnfmbljaaW.PrintWords Go.Proofs.YtlbajagnfmbljaaW.PrintLast Go.Proofs.YtlbajagnfmbljaaW.PrintMore
set_option linter.unusedVariables false
set_option linter.unusedSimpArgs false

/-- LuwNext, plainly. -/
theorem luwNext_plain (a0 a1 a2 b0 b1 b2 : Int) (h1 : 0 ≤ a1 ∧ a1 < 4294967296) (h2 : 0 ≤ a2 ∧ a2 < 4294967296) (g1 : 0 ≤ b1 ∧ b1 < 4294967296) (g2 : 0 ≤ b2 ∧ b2 < 4294967296) :
    trothlaw05_LuwNext.f a0 a1 a2 b0 b1 b2 = some true := by
  unfold trothlaw05_LuwNext.f
  rw [alive_eq, right_eq]
  unfold luw_Next.f
  rw [right_eq]
  simp only [Option.bind_some]
  by_cases hr : rightP a0 a2 = true
  · by_cases hm : a2 = 4294967295
    · subst hm
      simp [hr]
    · have e : (a2 + 1) % 4294967296 = a2 + 1 := by omega
      simp only [hr, if_true, hm, if_false, e, Option.bind_some]
      rw [less_eq _ _ _ _ _ _ h1 h2 h1 (by omega), less_eq _ _ _ _ _ _ h1 h2 g1 g2, less_eq _ _ _ _ _ _ g1 g2 h1 (by omega)]
      have x1 : lessP a0 a1 a2 a0 a1 (a2 + 1) = true := by simp [lessP]; omega
      simp only [Option.bind_some, x1, if_true]
      by_cases c1 : lessP a0 a1 a2 b0 b1 b2 = true
      · have x2 : lessP b0 b1 b2 a0 a1 (a2 + 1) = false := by
          unfold lessP at c1 ⊢
          split at c1
          · rename_i hab
            subst hab
            rw [if_pos rfl]
            simp only [decide_eq_true_eq] at c1
            simp only [decide_eq_false_iff_not]
            omega
          · rename_i hab
            rw [if_neg (fun q => hab q.symm)]
            simp only [decide_eq_true_eq] at c1
            simp only [decide_eq_false_iff_not]
            omega
        simp [c1, x2]
      · simp [c1]
  · simp [hr]

theorem next_walk (a0 a1 a2 b0 b1 b2 : Int) (w : World) (h1 : (Lit.int .u32 a1).wf = true) (h2 : (Lit.int .u32 a2).wf = true) (g1 : (Lit.int .u32 b1).wf = true) (g2 : (Lit.int .u32 b2).wf = true) :
    Calls Try.prog 8 #[.agg #[.int .i64 a0, .int .u32 a1, .int .u32 a2], .agg #[.int .i64 b0, .int .u32 b1, .int .u32 b2]] w fun e w' => e = .returned (.bool true) ∧ Below w.heap.size w w' :=
  trothlaw05_LuwNext.calls a0 a1 a2 b0 b1 b2 true w (luwNext_plain a0 a1 a2 b0 b1 b2 (u32_range h1) (u32_range h2) (u32_range g1) (u32_range g2))

end Go.Proofs.Ytlbajagnfmbljaa.Q

/- Plain laws: the order of names, and the fixed calls. -/
import Derived.Test.YtlbajagnfmbljaaQCmp
import Derived.Test.YtlbajagnfmbljaaQx5
import Derived.Test.YtlbajagnfmbljaaQx12
import Derived.Test.YtlbajagnfmbljaaQx13
import Derived.ProofKit
import Derived.OpenShut
namespace Go.Proofs.Ytlbajagnfmbljaa.Q
open Go.RowKit Go.Proofs.YtlbajagnfmbljaaW.PrintWords Go.Proofs.YtlbajagnfmbljaaW.PrintLast Go.Proofs.YtlbajagnfmbljaaW.PrintMore
set_option linter.unusedVariables false
set_option linter.unusedSimpArgs false

/-- Which of two names stands ahead. -/
def lessP (a0 a1 a2 b0 b1 b2 : Int) : Bool := if a0 = b0 then decide (a1 < b1 ∨ (a1 = b1 ∧ a2 < b2)) else decide (a0 < b0)

theorem less_eq (a0 a1 a2 b0 b1 b2 : Int) (h1 : 0 ≤ a1 ∧ a1 < 4294967296) (h2 : 0 ≤ a2 ∧ a2 < 4294967296) (g1 : 0 ≤ b1 ∧ b1 < 4294967296) (g2 : 0 ≤ b2 ∧ b2 < 4294967296) :
    luw_Less.f a0 a1 a2 b0 b1 b2 = some (lessP a0 a1 a2 b0 b1 b2) := by
  unfold luw_Less.f lessP
  by_cases h : a0 = b0
  · simp only [h, if_true, luw_raw.f, Option.bind_some, List.length_cons, List.length_nil, List.drop_succ_cons, List.drop_zero, bytes_Compare.f]
    have := cmp_eight a1 a2 b1 b2 h1 h2 g1 g2
    simp only [this]
    simp
  · simp only [h, if_false]

theorem ref_right_eq (a0 a1 a2 : Int) (h2 : 0 ≤ a2) : trothref05_Right.f a0 a1 a2 = some (rightP a0 a2) := by
  rw [← right_eq a0 a1 a2]
  unfold luw_Right.f trothref05_Right.f
  have : (a2 != 0) = decide (a2 > 0) := by
    by_cases h : a2 = 0
    · subst h; rfl
    · rw [decide_eq_true (by omega)]; simpa using h
  rw [this]

theorem next_eq (a0 a1 a2 : Int) (h2 : 0 ≤ a2) : trothref05_Next.f a0 a1 a2 = luw_Next.f a0 a1 a2 := by
  unfold trothref05_Next.f luw_Next.f
  rw [right_eq, ref_right_eq _ _ _ h2]

theorem ref_less_eq (a0 a1 a2 b0 b1 b2 : Int) : trothref05_Less.f a0 a1 a2 b0 b1 b2 = some (lessP a0 a1 a2 b0 b1 b2) := by
  unfold trothref05_Less.f lessP
  by_cases h : a0 = b0
  · simp only [h, if_true]
    by_cases g : a1 = b1
    · simp only [g, if_true]; congr 1; simp
    · simp only [g, if_false]; congr 1; simp
  · simp only [h, if_false]

theorem alive_eq : trothlaw05_alive.f = some true := by
  unfold trothlaw05_alive.f
  rw [parse_alive, print_alive]
  have w1 : luw_Write.f 1 20 3 = some ([1, 0, 0, 0, 20, 0, 0, 0, 3], 0) := rfl
  have r1 : luw_Read.f [] = some (0, 0, 0, 11) := rfl
  rw [w1, r1]
  simp only [Option.bind_some, if_true]
  rw [if_pos (by rw [ByteArray.toList_eq]; rfl), if_pos (by rw [ByteArray.toList_eq]; rfl)]
  rfl

theorem u32_range {n : Int} (h : (Lit.int .u32 n).wf = true) : 0 ≤ n ∧ n < 4294967296 := by
  have := bounds_u32 h
  omega

end Go.Proofs.Ytlbajagnfmbljaa.Q

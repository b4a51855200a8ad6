/- LuwOrders: the plain law, and the walk that answers true. -/
import Derived.Test.YtlbajagnfmbljaaQOrd
import Derived.Test.YtlbajagnfmbljaaQx14
namespace Go.Proofs.Ytlbajagnfmbljaa.Q
open Go.RowKit Go.Proofs.YtlbajagnfmbljaaW.PrintWords Go.Proofs.YtlbajagnfmbljaaW.PrintLast Go.Proofs.YtlbajagnfmbljaaW.PrintMore
set_option linter.unusedVariables false
set_option linter.unusedSimpArgs false

/-- LuwOrders, plainly. -/
theorem luwOrders_plain (a0 a1 a2 b0 b1 b2 : Int) (h1 : 0 ≤ a1 ∧ a1 < 4294967296) (h2 : 0 ≤ a2 ∧ a2 < 4294967296) (g1 : 0 ≤ b1 ∧ b1 < 4294967296) (g2 : 0 ≤ b2 ∧ b2 < 4294967296) :
    trothlaw05_LuwOrders.f a0 a1 a2 b0 b1 b2 = some true := by
  unfold trothlaw05_LuwOrders.f
  rw [next_eq _ _ _ h2.1, alive_eq, less_eq _ _ _ _ _ _ h1 h2 g1 g2, ref_less_eq]
  have : ∃ n, luw_Next.f a0 a1 a2 = some n := by
    unfold luw_Next.f
    rw [right_eq, Option.bind_some]
    split
    · split
      · exact ⟨_, rfl⟩
      · exact ⟨_, rfl⟩
    · exact ⟨_, rfl⟩
  obtain ⟨n, hn⟩ := this
  rw [hn]
  simp

theorem orders_walk (a0 a1 a2 b0 b1 b2 : Int) (w : World) (h1 : (Lit.int .u32 a1).wf = true) (h2 : (Lit.int .u32 a2).wf = true) (g1 : (Lit.int .u32 b1).wf = true) (g2 : (Lit.int .u32 b2).wf = true) :
    Calls Try.prog 7 #[.agg #[.int .i64 a0, .int .u32 a1, .int .u32 a2], .agg #[.int .i64 b0, .int .u32 b1, .int .u32 b2]] w fun e w' => e = .returned (.bool true) ∧ Below w.heap.size w w' :=
  trothlaw05_LuwOrders.calls a0 a1 a2 b0 b1 b2 true w (luwOrders_plain a0 a1 a2 b0 b1 b2 (u32_range h1) (u32_range h2) (u32_range g1) (u32_range g2))

end Go.Proofs.Ytlbajagnfmbljaa.Q

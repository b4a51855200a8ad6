/- The fixed calls answer true. -/
import Derived.Test.YtlbajagnfmbljaaQx5
namespace Go.Proofs.Ytlbajagnfmbljaa.Q
open Go.RowKit Go.Proofs.YtlbajagnfmbljaaW.PrintWords Go.Proofs.YtlbajagnfmbljaaW.PrintLast Go.Proofs.YtlbajagnfmbljaaW.PrintMore
set_option linter.unusedVariables false
set_option linter.unusedSimpArgs false

theorem alive_eq : trothlaw05_alive.f = some true := by
  unfold trothlaw05_alive.f
  rw [parse_alive, print_alive]
  have w1 : luw_Write.f 1 20 3 = some ([1, 0, 0, 0, 20, 0, 0, 0, 3], 0) := rfl
  have r1 : luw_Read.f [] = some (0, 0, 0, 11) := rfl
  rw [w1, r1]
  simp only [Option.bind_some, if_true]
  rw [if_pos (by rw [ByteArray.toList_eq]; rfl), if_pos (by rw [ByteArray.toList_eq]; rfl)]
  rfl

end Go.Proofs.Ytlbajagnfmbljaa.Q

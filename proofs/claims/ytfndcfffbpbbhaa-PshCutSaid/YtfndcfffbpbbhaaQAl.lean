/- What the fixed calls give. -/
import Derived.Test.YtfndcfffbpbbhaaQPa
import Derived.Test.YtfndcfffbpbbhaaQReadZ
namespace Go.Proofs.Ytfndcfffbpbbhaa.Q
open Go.RowKit Go.Proofs.YtfndcfffbpbbhaaW.PrintWords Go.Proofs.YtfndcfffbpbbhaaW.PrintLast Go.Proofs.YtfndcfffbpbbhaaW.PrintMore
set_option linter.unusedVariables false
set_option linter.unusedSimpArgs false

theorem fixed_write : psh_Write.f 13 0 0 0 false 0 0 = some ([0, 4, 19, 13], 0) := by
  have h1 : psh_Right.f 13 0 0 0 false 0 0 = some true := rfl
  have h2 : gds_Write.f 4877 [] 2048 = some ([0, 4, 19, 13], 0) := by decide
  have h3 : wrap64 (4864 + 13) = 4877 := w64 (by decide) (by decide)
  unfold psh_Write.f
  rw [h1, Option.bind_some, if_pos rfl, if_neg (by decide), if_pos rfl, h3, h2]
  rfl
theorem fixed_none : psh_Write.f 0 0 0 0 false 0 0 = some ([], 30) := rfl
theorem fixed_read : psh_Read.f [0, 4, 19, 14] = some (0, 0, 0, 0, false, 0, 0, 30) := by
  have hb : Bytes [0, 4, 19, 14] := by intro x hx; simp at hx; omega
  have hn : nextS [0, 4, 19, 14] 64 0 true 0 [] = (4878, [], 4, 0) := by simp [nextS]
  have h3 : wrap64 (4878 - 4864) = 14 := w64 (by decide) (by decide)
  unfold psh_Read.f
  rw [gds_next hb (by simp) (by omega), hn, Option.bind_some]
  simp only [h3]
  rfl
theorem fixed_name : psh_Name.f 9 = some ⟨#[102, 111, 114, 103, 101, 116]⟩ := rfl
end Go.Proofs.Ytfndcfffbpbbhaa.Q

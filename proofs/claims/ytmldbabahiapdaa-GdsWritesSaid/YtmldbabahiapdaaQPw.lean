/- GdsWrites, plainly. -/
import Derived.Test.YtmldbabahiapdaaQPc
import Derived.Test.YtmldbabahiapdaaQPd
import Derived.Test.YtmldbabahiapdaaQPe
import Derived.Test.YtmldbabahiapdaaQWs
namespace Go.Proofs.Ytmldbabahiapdaa.Q
open Go.RowKit Go.Proofs.YtmldbabahiapdaaW.PrintWords Go.Proofs.YtmldbabahiapdaaW.PrintLast Go.Proofs.YtmldbabahiapdaaW.PrintMore
set_option linter.unusedVariables false
set_option linter.unusedSimpArgs false

theorem writes_plain (a0 : Int) (l : List Int) (a1 : Int) (hl : l.length ≤ 140737488351232) : ∃ k, trothlaw04_GdsWrites.f k a0 l a1 = some true := by
  obtain ⟨K, hK⟩ : ∃ K, 400 ≤ K := ⟨_, Nat.le_refl _⟩
  refine ⟨K + 1, ?_⟩
  have hj : ∀ t : Bool, trothlaw04_GdsWrites.j0 (K + 1) a1 t a0 l = some true := by
    intro t
    simp only [trothlaw04_GdsWrites.j0]
    cases t with
    | true => rw [if_pos rfl, alive_eq (by omega)]; rfl
    | false =>
      obtain ⟨w, e, hw⟩ := write_some a0 l a1
      rw [if_neg (by decide), copy_eq (by omega)]
      simp only [Option.bind_some, ref_write _ _ _ (show 200 ≤ K by omega), hw, alive_eq (show 128 ≤ K by omega), one_eq, if_true]
      rw [same_eq (by simp) (by simp; omega)]
      rfl
  unfold trothlaw04_GdsWrites.f
  rw [hj, hj, ite_self]
end Go.Proofs.Ytmldbabahiapdaa.Q

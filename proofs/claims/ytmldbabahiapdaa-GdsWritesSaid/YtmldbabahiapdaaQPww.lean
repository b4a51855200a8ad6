/- The call of GdsWrites answers true. -/
import Derived.Test.YtmldbabahiapdaaQPw
import Derived.Test.YtmldbabahiapdaaRowsH
namespace Go.Proofs.Ytmldbabahiapdaa.Q
open Go.RowKit Go.Mine Go.Proofs.YtmldbabahiapdaaW.PrintWords Go.Proofs.YtmldbabahiapdaaW.PrintLast Go.Proofs.YtmldbabahiapdaaW.PrintMore
theorem writes_walk (a0 : Int) (A : Option Addr) (c : Nat) (l : List Int) (a1 : Int) (w : World) (hC : Kd.C (Kd.int .u8) w A l.length l) (hc : l.length ≤ c) (hl : l.length ≤ 140737488351232) :
    Calls Try.prog 3 #[.agg #[.int .i64 a0, .slice A l.length c], .int .i64 a1] w fun e w' => e = .returned (.bool true) ∧ Below w.heap.size w w' := by
  obtain ⟨k, hk⟩ := writes_plain a0 l a1 hl
  exact trothlaw04_GdsWrites.calls k a0 A c l a1 true w hC hc rfl hk
end Go.Proofs.Ytmldbabahiapdaa.Q

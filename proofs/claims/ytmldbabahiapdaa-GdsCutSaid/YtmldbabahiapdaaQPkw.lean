/- The call of GdsCut answers true. -/
import Derived.Test.YtmldbabahiapdaaQPk
import Derived.Test.YtmldbabahiapdaaRowsG
namespace Go.Proofs.Ytmldbabahiapdaa.Q
open Go.RowKit Go.Mine Go.Proofs.YtmldbabahiapdaaW.PrintWords Go.Proofs.YtmldbabahiapdaaW.PrintLast Go.Proofs.YtmldbabahiapdaaW.PrintMore
theorem cut_walk (a0 : Int) (A : Option Addr) (c : Nat) (l : List Int) (a1 a2 a3 : Int) (w : World) (hC : Kd.C (Kd.int .u8) w A l.length l) (hc : l.length ≤ c) (hB : Bytes l) (h3 : (Lit.int .u8 a3).wf = true) :
    Calls Try.prog 5 #[.agg #[.int .i64 a0, .slice A l.length c], .int .i64 a1, .int .i64 a2, .int .u8 a3] w fun e w' => e = .returned (.bool true) ∧ Below w.heap.size w w' := by
  obtain ⟨k, hk⟩ := cut_plain a0 l a1 a2 a3 hB (by have := bounds_u8 h3; omega)
  exact trothlaw04_GdsCut.calls k a0 A c l a1 a2 a3 true w hC hc hk
end Go.Proofs.Ytmldbabahiapdaa.Q

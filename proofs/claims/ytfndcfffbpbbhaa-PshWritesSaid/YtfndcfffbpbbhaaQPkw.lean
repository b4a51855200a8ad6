/- PshWrites: its call. -/
import Derived.Test.YtfndcfffbpbbhaaQPk
import Derived.Test.YtfndcfffbpbbhaaQWm
namespace Go.Proofs.Ytfndcfffbpbbhaa.Q
open Go.RowKit Go.Proofs.YtfndcfffbpbbhaaW.PrintWords Go.Proofs.YtfndcfffbpbbhaaW.PrintLast Go.Proofs.YtfndcfffbpbbhaaW.PrintMore
set_option linter.unusedVariables false
set_option linter.unusedSimpArgs false
theorem writes_plain {K : Nat} (hK : 300 ≤ K) {a b c d : Int} {m : Bool} {x y : Int} (n : Int) (hc : U32b c) (hd : U32b d) (hx : U32b x) (hy : U32b y) : trothlaw06_PshWrites.f K a b c d m x y n = some true := by
  obtain ⟨s, hs⟩ := name_some n
  unfold trothlaw06_PshWrites.f
  rw [psh_write_eq hx hy, Option.bind_some, ref_mwrite hK hc hd hx hy, Option.bind_some, alive6, Option.bind_some, if_pos rfl, psh_right_eq, Option.bind_some, ref_mright (by omega) _ _ _ _ _ _ _ hd.1, Option.bind_some, if_pos (beq_iff_eq.2 rfl), if_pos rfl, if_pos rfl, name_eq, hs, Option.bind_some, Option.bind_some]
  exact congrArg some (beq_iff_eq.2 rfl)
theorem writes_walk (a b c d : Int) (m : Bool) (x y n : Int) (w : World) (h : U32b c ∧ U32b d ∧ U32b x ∧ U32b y) :
    Calls Try.prog 3 #[.agg #[.int .i64 a, .int .i64 b, .int .u32 c, .int .u32 d, .bool m, .int .u32 x, .int .u32 y], .int .i64 n] w fun e w' => e = .returned (.bool true) ∧ Below w.heap.size w w' :=
  trothlaw06_PshWrites.calls 300 a b c d m x y n true w rfl (writes_plain (Nat.le_refl _) n h.1 h.2.1 h.2.2.1 h.2.2.2)
end Go.Proofs.Ytfndcfffbpbbhaa.Q

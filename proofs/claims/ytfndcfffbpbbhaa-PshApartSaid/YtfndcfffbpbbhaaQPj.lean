/- PshApart, plainly: two messages have the same bytes only where they are one. -/
import Derived.Test.YtfndcfffbpbbhaaQPi
import Derived.Test.YtfndcfffbpbbhaaQAp
namespace Go.Proofs.Ytfndcfffbpbbhaa.Q
open Go.RowKit Go.Proofs.YtfndcfffbpbbhaaW.PrintWords Go.Proofs.YtfndcfffbpbbhaaW.PrintLast Go.Proofs.YtfndcfffbpbbhaaW.PrintMore
set_option linter.unusedVariables false
set_option linter.unusedSimpArgs false
theorem apart_plain {a b c d : Int} {m : Bool} {x y a' b' c' d' : Int} {m' : Bool} {x' y' : Int}
    (hc : U32b c) (hd : U32b d) (hx : U32b x) (hy : U32b y) (hc' : U32b c') (hd' : U32b d') (hx' : U32b x') (hy' : U32b y') : trothlaw06_PshApart.f (0 + 1) a b c d m x y a' b' c' d' m' x' y' = some true := by
  unfold trothlaw06_PshApart.f
  rw [psh_write_eq hx hy, psh_write_eq hx' hy', Option.bind_some, Option.bind_some]
  have tru : ∀ p q, trothlaw06_PshApart.j0 (0 + 1) p q true a b c d m x y a' b' c' d' m' x' y' = some true := by
    intro p q
    rw [trothlaw06_PshApart.j0]
    rw [if_pos rfl, alive6, Option.bind_some]
  by_cases hr : rightM a b c d m x y = true
  · rw [if_pos hr]
    by_cases hr' : rightM a' b' c' d' m' x' y' = true
    · rw [if_pos hr', if_pos rfl]
      show trothlaw06_PshApart.j0 (0 + 1) _ _ false _ _ _ _ _ _ _ _ _ _ _ _ _ _ = some true
      rw [trothlaw06_PshApart.j0]
      rw [if_neg (by decide), alive6, Option.bind_some, if_pos rfl]
      have hs := str_inj (frame_bytes hx hy hr) (frame_bytes hx' hy' hr')
      refine congrArg some (beq_iff_eq.2 (Bool.eq_iff_iff.2 ?_))
      rw [beq_iff_eq, hs]
      constructor
      · intro e
        obtain ⟨e0, e1, e2, e3, e4, e5, e6⟩ := frame_inj hr hr' hc hd hx hy hc' hd' hx' hy' e
        simp [e0, e1, e2, e3, e4, e5, e6]
      · intro e
        simp only [Bool.and_eq_true, beq_iff_eq] at e
        obtain ⟨e0, ⟨e1, e2, e3⟩, e4, e5, e6⟩ := e
        rw [e0, e1, e2, e3, e4, e5, e6]
    · rw [if_neg hr', if_pos rfl]
      exact tru _ _
  · rw [if_neg hr, if_neg (by decide)]
    exact tru _ _
theorem apart_walk (a b c d : Int) (m : Bool) (x y a' b' c' d' : Int) (m' : Bool) (x' y' : Int) (w : World)
    (hc : U32b c ∧ U32b d ∧ U32b x ∧ U32b y) (hc' : U32b c' ∧ U32b d' ∧ U32b x' ∧ U32b y') :
    Calls Try.prog 7 #[.agg #[.int .i64 a, .int .i64 b, .int .u32 c, .int .u32 d, .bool m, .int .u32 x, .int .u32 y], .agg #[.int .i64 a', .int .i64 b', .int .u32 c', .int .u32 d', .bool m', .int .u32 x', .int .u32 y']] w fun e w' => e = .returned (.bool true) ∧ Below w.heap.size w w' :=
  trothlaw06_PshApart.calls (0 + 1) a b c d m x y a' b' c' d' m' x' y' true w rfl (apart_plain hc.1 hc.2.1 hc.2.2.1 hc.2.2.2 hc'.1 hc'.2.1 hc'.2.2.1 hc'.2.2.2)
end Go.Proofs.Ytfndcfffbpbbhaa.Q

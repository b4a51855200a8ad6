/- Walk of trothlaw12.LockNobody: it answers true. No condition. -/
import Derived.Test.YtgfiifhnnjammaaLock6
namespace Go.Proofs.Ytgfiifhnnjammaa
open Go.RowKit Go.Mine
set_option linter.unusedVariables false
set_option linter.unusedSimpArgs false

theorem held_nil (o : Int) (w : World) : Calls Try.prog 20 #[.pointer none, .int .i64 o] w fun e w' => e = .returned (.slice none 0 0) ∧ w = w' := by
  go_enter Try.func20, Try.ntmps20
  go_wp2
  go_ret
  exact ⟨rfl, rfl⟩
theorem len_nil (w : World) : Calls Try.prog 13 #[.pointer none] w fun e w' => e = .returned (.int .i64 0) ∧ w = w' := by
  go_enter Try.func13, Try.ntmps13
  go_wp2
  go_ret
  exact ⟨rfl, rfl⟩
theorem take_nil' (o k : Int) (al : Bool) (w : World) :
    Calls Try.prog 12 #[.pointer none, .int .i64 o, .int .i64 k, .bool al] w fun e w' => e = .returned (.int .i64 6) ∧ w = w' :=
  (take_nil o k al w).mono fun _ _ ⟨a, b⟩ => ⟨a, b.symm⟩
theorem drop_nil' (o : Int) (w : World) :
    Calls Try.prog 16 #[.pointer none, .int .i64 o] w fun e w' => e = .returned (.tuple #[.int .i64 0, .int .i64 6]) ∧ w = w' :=
  (drop_nil o w).mono fun _ _ ⟨a, b⟩ => ⟨a, b.symm⟩

theorem holds_nil (o k : Int) (w : World) :
    Calls Try.prog 10 #[.pointer none, .int .i64 o, .int .i64 k] w fun e w' => e = .returned (.tuple #[.bool false, .bool false]) ∧ w = w' := by
  go_enter Try.func10, Try.ntmps10
  go_wp2
  go_ret2
  exact ⟨rfl, rfl⟩

set_option maxHeartbeats 1000000 in
theorem nobody_any (owner key : Int) (alone : Bool) (w : World) :
    Calls Try.prog 6 #[.int .i64 owner, .int .i64 key, .bool alone] w fun e w' => e = .returned (.bool true) ∧ Below w.heap.size w w' := by
  go_enter Try.func6, Try.ntmps6
  go_wp2_with fail
  have t1 := OT.made w
  have f1 : Below w.heap.size w (w.alloc (.cells #[.map none] 49)) := (Below.refl _ _).alloc (Nat.le_refl _) _
  generalize w.alloc (.cells #[.map none] 49) = w1 at t1 f1 ⊢
  refine (drop_nil' owner w1).mono ?_
  rintro e w2 ⟨rfl, rfl⟩
  go_wp2_with fail
  have c2 := drop_o t1 (by decide) owner
  rw [show dropA owner [] = [] from rfl, show dropNA owner [] = 0 from rfl] at c2
  refine c2.mono ?_
  clear c2
  rintro e w2 ⟨rfl, t2, f2⟩
  have g2 := f1.trans f2
  go_wp2_with fail
  refine (holds_nil owner key w2).mono ?_
  rintro e w3 ⟨rfl, rfl⟩
  go_wp2_with fail
  refine (alive_any w2).mono ?_
  rintro e w3 ⟨rfl, f3⟩
  have g3 := g2.trans (f3.mono g2.size)
  have t3 := t2.below f3 (Nat.le_refl _)
  go_wp2_with fail
  refine (take_nil' owner key alone w3).mono ?_
  rintro e w4 ⟨rfl, rfl⟩
  go_wp2_with fail
  refine (held_nil owner w3).mono ?_
  rintro e w4 ⟨rfl, rfl⟩
  go_wp2_with fail
  refine (len_nil w3).mono ?_
  rintro e w4 ⟨rfl, rfl⟩
  go_wp2_with fail
  have c5 := take_o t3 owner key alone
  rw [show takeA [] owner key alone = (0, [((key, owner), alone)]) from by simp [takeA, aget, aput]] at c5
  refine c5.mono ?_
  clear c5
  rintro e w5 ⟨rfl, t5, f5⟩
  have g5 := g3.trans f5
  go_wp2_with fail
  refine (len_k t5.1).mono ?_
  rintro e w6 ⟨rfl, rfl⟩
  go_wp2_with fail
  go_ret
  exact ⟨rfl, g5⟩
end Go.Proofs.Ytgfiifhnnjammaa

/- Walks of the lock table: Holds and Len tell what the list of locks says; Take on nil. Condition: the table reads as that list. -/
import Derived.Test.YtekebjcknhjceaaRows
import Derived.Test.YtekebjcknhjceaaMapLib
import Derived.WalkSpells
import Derived.WalkLawsBesides
import Derived.StillTailTactics
namespace Go.Proofs.Ytekebjcknhjceaa
open Go.RowKit Go.Mine
set_option linter.unusedVariables false
set_option linter.unusedSimpArgs false
set_option maxRecDepth 100000 in
theorem key53 : KeyOk Try.prog 101 eK2 := by
  refine struct2Key Try.underlying101 ?_ ?_
  · intro e x w
    have h0 := Go.run_part_plain (P := Try.prog) (w := w) (e := 3) (by kernel_rfl) (xs := #[.int .i64 x.1, .int .i64 x.2]) (off := 0) rfl
    have h1 := Go.run_part_plain (P := Try.prog) (w := w) (e := 3) (by kernel_rfl) (xs := #[.int .i64 x.1, .int .i64 x.2]) (off := 1) rfl
    have hc : ∀ v, (Instr.checkKey e 9999 3 (.int .i64 v)).run Try.prog w = .ok () w := fun v => MapKept.run_checkKey Try.underlying3 (by simp [MapKept.IsKey]) e 9998
    unfold Instr.checkKey
    simp [run_underlying Try.underlying101, Result.andThen, eK2, h0, h1, hc]
  · intro x y w
    unfold Op.equal Op.maxDepth 
    simp only [eK2]
    rw [run_equalIn_struct _ _ _ _ _ (by kernel_rfl) (by kernel_rfl)]
    go_simp
    by_cases h1 : x.1 = y.1 <;> by_cases h2 : x.2 = y.2 <;> simp [h1, h2, Prod.ext_iff]
theorem zero4 (w : World) : (zeroValue 4).run Try.prog w = .ok (.bool false) w := by kernel_rfl

/-- The table's list, without the stamps. -/
abbrev Tab := List ((Int × Int) × Bool × Nat)

set_option maxHeartbeats 400000 in
theorem take_nil (o k : Int) (al : Bool) (w : World) :
    Calls Try.prog 42 #[.pointer none, .int .i64 o, .int .i64 k, .bool al] w fun e w' => e = .returned (.int .i64 6) ∧ w' = w := by
  go_enter Try.func42, Try.ntmps42
  go_wp2
  go_ret
  exact ⟨rfl, rfl⟩

end Go.Proofs.Ytekebjcknhjceaa

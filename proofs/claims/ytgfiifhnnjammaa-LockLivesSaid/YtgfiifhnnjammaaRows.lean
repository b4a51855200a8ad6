/-
  No cell of these rows narrows 'for every input' (looked for: loops, veiled, ifaces, maps, wideKeys, modest, calm, conditions, laid).
  DERIVED. THE GIVEN ROWS OF THIS SEAT. 6 by the template 'for every input the law returns true; each argument reads behind the call as it read before'; 0 by the template 'total and deterministic' (their statements: YtgfiifhnnjammaaTotals.lean).
  GIVEN WITH THE SEED: the statements are not yours to turn. If you find one false, say at which input.
  Laid BY PROGRAM, IN A SANDBOX (cutbox-rows.mjs): the forced cells as the released guide's own fill.sh prints them over the translation b4edaf19b0746df8… (all of the seat's roots in one cut). By AI agents, Wed Nov 11 2026. No macro, syntax, notation, axiom, sorry.
-/
import Derived.Test.YtgfiifhnnjammaaChecked
import GoSem.Claim
import GoSem.ClaimJoined
import GoSem.ClaimMapViews
import Derived.JoinedTies
import Derived.KernelRfl
namespace Go.Proofs.Ytgfiifhnnjammaa
/- THE CELL 'sum', in the pinned program and in every row, IS THE sha256 OF THE DUMP (.gsa) THAT YtgfiifhnnjammaaProg.lean LOADS. Nothing in Lean hashes anything: it is a label: what it is worth is what the hold of that sum in a sandbox is worth. -/
noncomputable def Try.pinned : Pinned := { name := "ytgfiifhnnjammaa", sum := "b4edaf19b0746df855ad0ac717914b04f7a8dc9921d1e5d212ae18c7aa41ad4c", checked := Try.checked }
namespace Rows
def none {H : Type} : Left H := { results := [], args := [] }

/-- 'trothlaw12.LockClash': WHATEVER THE INPUT: true; the input reads as it did. -/
def lockClashSpec : ChangeSpec := { name := "lockClash", fn := fun _ => fun
  | [d1, d2, d3] => { results := [.lit (.bool true)], args := [d1, d2, d3] }
  | _ => none }
def lockClashRow : OpenClaim := { program := "ytgfiifhnnjammaa", sum := "b4edaf19b0746df855ad0ac717914b04f7a8dc9921d1e5d212ae18c7aa41ad4c", func := "troth/trothlaw12.LockClash", spec := "lockClash", plainKeys := false, apart := false }
def LockClashSaid : Prop := lockClashRow.holds Try.pinned (OpenSpec.ofChange lockClashSpec)

/-- ITS FALSE NEIGHBOUR: 'it returns false'. Refute it at one input. -/
def lockClashWrong : ChangeSpec := { name := "lockClash", fn := fun _ => fun
  | [d1, d2, d3] => { results := [.lit (.bool false)], args := [d1, d2, d3] }
  | _ => none }
def LockClashWrongFalsely : Prop := lockClashRow.holds Try.pinned (OpenSpec.ofChange lockClashWrong)

/-- 'trothlaw12.LockTwice': WHATEVER THE INPUT: true; the input reads as it did. -/
def lockTwiceSpec : ChangeSpec := { name := "lockTwice", fn := fun _ => fun
  | [d1, d2, d3, d4, d5] => { results := [.lit (.bool true)], args := [d1, d2, d3, d4, d5] }
  | _ => none }
def lockTwiceRow : OpenClaim := { program := "ytgfiifhnnjammaa", sum := "b4edaf19b0746df855ad0ac717914b04f7a8dc9921d1e5d212ae18c7aa41ad4c", func := "troth/trothlaw12.LockTwice", spec := "lockTwice", plainKeys := false, apart := false }
def LockTwiceSaid : Prop := lockTwiceRow.holds Try.pinned (OpenSpec.ofChange lockTwiceSpec)

/-- ITS FALSE NEIGHBOUR: 'it returns false'. Refute it at one input. -/
def lockTwiceWrong : ChangeSpec := { name := "lockTwice", fn := fun _ => fun
  | [d1, d2, d3, d4, d5] => { results := [.lit (.bool false)], args := [d1, d2, d3, d4, d5] }
  | _ => none }
def LockTwiceWrongFalsely : Prop := lockTwiceRow.holds Try.pinned (OpenSpec.ofChange lockTwiceWrong)

/-- 'trothlaw12.LockLives': WHATEVER THE INPUT: true; the input reads as it did. -/
def lockLivesSpec : ChangeSpec := { name := "lockLives", fn := fun _ => fun
  | [d] => { results := [.lit (.bool true)], args := [d] }
  | _ => none }
def lockLivesRow : OpenClaim := { program := "ytgfiifhnnjammaa", sum := "b4edaf19b0746df855ad0ac717914b04f7a8dc9921d1e5d212ae18c7aa41ad4c", func := "troth/trothlaw12.LockLives", spec := "lockLives", recurses := true, plainKeys := false, apart := false }
def LockLivesSaid : Prop := lockLivesRow.holds Try.pinned (OpenSpec.ofChange lockLivesSpec)

/-- ITS FALSE NEIGHBOUR: 'it returns false'. Refute it at one input. -/
def lockLivesWrong : ChangeSpec := { name := "lockLives", fn := fun _ => fun
  | [d] => { results := [.lit (.bool false)], args := [d] }
  | _ => none }
def LockLivesWrongFalsely : Prop := lockLivesRow.holds Try.pinned (OpenSpec.ofChange lockLivesWrong)

/-- 'trothlaw12.LockNobody': WHATEVER THE INPUT: true; the input reads as it did. -/
def lockNobodySpec : ChangeSpec := { name := "lockNobody", fn := fun _ => fun
  | [d1, d2, d3] => { results := [.lit (.bool true)], args := [d1, d2, d3] }
  | _ => none }
def lockNobodyRow : OpenClaim := { program := "ytgfiifhnnjammaa", sum := "b4edaf19b0746df855ad0ac717914b04f7a8dc9921d1e5d212ae18c7aa41ad4c", func := "troth/trothlaw12.LockNobody", spec := "lockNobody", recurses := true, plainKeys := false, apart := false }
def LockNobodySaid : Prop := lockNobodyRow.holds Try.pinned (OpenSpec.ofChange lockNobodySpec)

/-- ITS FALSE NEIGHBOUR: 'it returns false'. Refute it at one input. -/
def lockNobodyWrong : ChangeSpec := { name := "lockNobody", fn := fun _ => fun
  | [d1, d2, d3] => { results := [.lit (.bool false)], args := [d1, d2, d3] }
  | _ => none }
def LockNobodyWrongFalsely : Prop := lockNobodyRow.holds Try.pinned (OpenSpec.ofChange lockNobodyWrong)

/-- 'trothlaw12.LockFrees': WHATEVER THE INPUT: true; the input reads as it did. -/
def lockFreesSpec : ChangeSpec := { name := "lockFrees", fn := fun _ => fun
  | [d1, d2, d3, d4, d5] => { results := [.lit (.bool true)], args := [d1, d2, d3, d4, d5] }
  | _ => none }
def lockFreesRow : OpenClaim := { program := "ytgfiifhnnjammaa", sum := "b4edaf19b0746df855ad0ac717914b04f7a8dc9921d1e5d212ae18c7aa41ad4c", func := "troth/trothlaw12.LockFrees", spec := "lockFrees", recurses := true, plainKeys := false, apart := false }
def LockFreesSaid : Prop := lockFreesRow.holds Try.pinned (OpenSpec.ofChange lockFreesSpec)

/-- ITS FALSE NEIGHBOUR: 'it returns false'. Refute it at one input. -/
def lockFreesWrong : ChangeSpec := { name := "lockFrees", fn := fun _ => fun
  | [d1, d2, d3, d4, d5] => { results := [.lit (.bool false)], args := [d1, d2, d3, d4, d5] }
  | _ => none }
def LockFreesWrongFalsely : Prop := lockFreesRow.holds Try.pinned (OpenSpec.ofChange lockFreesWrong)

/-- 'trothlaw12.LockRefuses': WHATEVER THE INPUT: true; the input reads as it did. -/
def lockRefusesSpec : ChangeSpec := { name := "lockRefuses", fn := fun _ => fun
  | [d1, d2] => { results := [.lit (.bool true)], args := [d1, d2] }
  | _ => none }
def lockRefusesRow : OpenClaim := { program := "ytgfiifhnnjammaa", sum := "b4edaf19b0746df855ad0ac717914b04f7a8dc9921d1e5d212ae18c7aa41ad4c", func := "troth/trothlaw12.LockRefuses", spec := "lockRefuses", recurses := true, plainKeys := false, apart := false }
def LockRefusesSaid : Prop := lockRefusesRow.holds Try.pinned (OpenSpec.ofChange lockRefusesSpec)

/-- ITS FALSE NEIGHBOUR: 'it returns false'. Refute it at one input. -/
def lockRefusesWrong : ChangeSpec := { name := "lockRefuses", fn := fun _ => fun
  | [d1, d2] => { results := [.lit (.bool false)], args := [d1, d2] }
  | _ => none }
def LockRefusesWrongFalsely : Prop := lockRefusesRow.holds Try.pinned (OpenSpec.ofChange lockRefusesWrong)

/- THE SECOND FORM. 'bulk': how many values and letters a reading holds, each counted each time it is reached (what is shared counts as often as it is met; a slice's spare places count too). A statement '..UptoSaid' is the law's where the arguments, and the package variables that the reading takes, are together of bulk at most 1048576: NARROWER than '..Said'. Prove '..Said' where nothing that the law and all that it calls make is longer than what came in: it says more and counts as full. Else prove '..UptoSaid'. A law counts once. -/
mutual
def uptoBulk {H : Type} : DataW H → Nat
  | .lit (.string bytes) => bytes.length + 1
  | .lit _ => 1
  | .nil => 1
  | .ptr d => uptoBulk d + 1
  | .slice elems spare => uptoBulkAll elems + uptoBulkAll spare + 1
  | .agg parts => uptoBulkAll parts + 1
  | .iface _ d => uptoBulk d + 1
  | .map entries => uptoBulkEntries entries + 1
  | .held _ => 1
def uptoBulkAll {H : Type} : List (DataW H) → Nat
  | [] => 0
  | d :: r => uptoBulk d + uptoBulkAll r
def uptoBulkEntries {H : Type} : List (Lit × DataW H) → Nat
  | [] => 0
  | x :: r => uptoBulkEntry x + uptoBulkEntries r
def uptoBulkEntry {H : Type} : Lit × DataW H → Nat
  | (.string bytes, d) => bytes.length + uptoBulk d + 1
  | (_, d) => uptoBulk d + 1
 end
def uptoSmall : (H : Type) → List (DataW H) → Bool := fun _ ds => decide (uptoBulkAll ds ≤ 1048576)
def OpenSpec.upto (s : _root_.Go.ChangeSpec) : _root_.Go.OpenSpec := { _root_.Go.OpenSpec.ofChange s with cond := some uptoSmall }

/-- 'trothlaw12.LockClash', WHERE WHAT IT READS IS OF BULK AT MOST 1048576: true; the input reads as it did. -/
def lockClashUptoRow : OpenClaim := { program := "ytgfiifhnnjammaa", sum := "b4edaf19b0746df855ad0ac717914b04f7a8dc9921d1e5d212ae18c7aa41ad4c", func := "troth/trothlaw12.LockClash", spec := "lockClash", plainKeys := false, apart := false, narrowed := true }
def LockClashUptoSaid : Prop := lockClashUptoRow.holds Try.pinned (OpenSpec.upto lockClashSpec)

/-- 'trothlaw12.LockTwice', WHERE WHAT IT READS IS OF BULK AT MOST 1048576: true; the input reads as it did. -/
def lockTwiceUptoRow : OpenClaim := { program := "ytgfiifhnnjammaa", sum := "b4edaf19b0746df855ad0ac717914b04f7a8dc9921d1e5d212ae18c7aa41ad4c", func := "troth/trothlaw12.LockTwice", spec := "lockTwice", plainKeys := false, apart := false, narrowed := true }
def LockTwiceUptoSaid : Prop := lockTwiceUptoRow.holds Try.pinned (OpenSpec.upto lockTwiceSpec)

/-- 'trothlaw12.LockLives', WHERE WHAT IT READS IS OF BULK AT MOST 1048576: true; the input reads as it did. -/
def lockLivesUptoRow : OpenClaim := { program := "ytgfiifhnnjammaa", sum := "b4edaf19b0746df855ad0ac717914b04f7a8dc9921d1e5d212ae18c7aa41ad4c", func := "troth/trothlaw12.LockLives", spec := "lockLives", recurses := true, plainKeys := false, apart := false, narrowed := true }
def LockLivesUptoSaid : Prop := lockLivesUptoRow.holds Try.pinned (OpenSpec.upto lockLivesSpec)

/-- 'trothlaw12.LockNobody', WHERE WHAT IT READS IS OF BULK AT MOST 1048576: true; the input reads as it did. -/
def lockNobodyUptoRow : OpenClaim := { program := "ytgfiifhnnjammaa", sum := "b4edaf19b0746df855ad0ac717914b04f7a8dc9921d1e5d212ae18c7aa41ad4c", func := "troth/trothlaw12.LockNobody", spec := "lockNobody", recurses := true, plainKeys := false, apart := false, narrowed := true }
def LockNobodyUptoSaid : Prop := lockNobodyUptoRow.holds Try.pinned (OpenSpec.upto lockNobodySpec)

/-- 'trothlaw12.LockFrees', WHERE WHAT IT READS IS OF BULK AT MOST 1048576: true; the input reads as it did. -/
def lockFreesUptoRow : OpenClaim := { program := "ytgfiifhnnjammaa", sum := "b4edaf19b0746df855ad0ac717914b04f7a8dc9921d1e5d212ae18c7aa41ad4c", func := "troth/trothlaw12.LockFrees", spec := "lockFrees", recurses := true, plainKeys := false, apart := false, narrowed := true }
def LockFreesUptoSaid : Prop := lockFreesUptoRow.holds Try.pinned (OpenSpec.upto lockFreesSpec)

/-- 'trothlaw12.LockRefuses', WHERE WHAT IT READS IS OF BULK AT MOST 1048576: true; the input reads as it did. -/
def lockRefusesUptoRow : OpenClaim := { program := "ytgfiifhnnjammaa", sum := "b4edaf19b0746df855ad0ac717914b04f7a8dc9921d1e5d212ae18c7aa41ad4c", func := "troth/trothlaw12.LockRefuses", spec := "lockRefuses", recurses := true, plainKeys := false, apart := false, narrowed := true }
def LockRefusesUptoSaid : Prop := lockRefusesUptoRow.holds Try.pinned (OpenSpec.upto lockRefusesSpec)

end Rows
end Go.Proofs.Ytgfiifhnnjammaa

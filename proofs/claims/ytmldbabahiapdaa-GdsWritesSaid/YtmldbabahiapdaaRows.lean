/-
  No cell of these rows narrows 'for every input' (looked for: loops, veiled, ifaces, maps, wideKeys, modest, calm, conditions, laid).
  DERIVED. THE GIVEN ROWS OF THIS SEAT. 6 by the template 'for every input the law returns true; each argument reads behind the call as it read before'; 0 by the template 'total and deterministic' (their statements: YtmldbabahiapdaaTotals.lean).
  GIVEN WITH THE SEED: the statements are not yours to turn. If you find one false, say at which input.
  Laid BY PROGRAM, IN A SANDBOX (cutbox-rows.mjs): the forced cells as the released guide's own fill.sh prints them over the translation e487b0aadb47a980… (all of the seat's roots in one cut). By AI agents, Wed Nov 11 2026. No macro, syntax, notation, axiom, sorry.
-/
import Derived.Test.YtmldbabahiapdaaChecked
import GoSem.Claim
import GoSem.ClaimJoined
import GoSem.ClaimMapViews
import Derived.JoinedTies
import Derived.KernelRfl
namespace Go.Proofs.Ytmldbabahiapdaa
/- THE CELL 'sum', in the pinned program and in every row, IS THE sha256 OF THE DUMP (.gsa) THAT YtmldbabahiapdaaProg.lean LOADS. Nothing in Lean hashes anything: it is a label: what it is worth is what the hold of that sum in a sandbox is worth. -/
noncomputable def Try.pinned : Pinned := { name := "ytmldbabahiapdaa", sum := "e487b0aadb47a980b3cddcd0f4d2c3339be14ce5abe71c1d8062295f69c0a478", checked := Try.checked }
namespace Rows
def none {H : Type} : Left H := { results := [], args := [] }

/-- 'trothlaw04.GdsWrites': WHATEVER THE INPUT: true; the input reads as it did. -/
def gdsWritesSpec : ChangeSpec := { name := "gdsWrites", fn := fun _ => fun
  | [d1, d2] => { results := [.lit (.bool true)], args := [d1, d2] }
  | _ => none }
def gdsWritesRow : OpenClaim := { program := "ytmldbabahiapdaa", sum := "e487b0aadb47a980b3cddcd0f4d2c3339be14ce5abe71c1d8062295f69c0a478", func := "troth/trothlaw04.GdsWrites", spec := "gdsWrites", unfollowed := true, recurses := true, apart := false }
def GdsWritesSaid : Prop := gdsWritesRow.holds Try.pinned (OpenSpec.ofChange gdsWritesSpec)

/-- ITS FALSE NEIGHBOUR: 'it returns false'. Refute it at one input. -/
def gdsWritesWrong : ChangeSpec := { name := "gdsWrites", fn := fun _ => fun
  | [d1, d2] => { results := [.lit (.bool false)], args := [d1, d2] }
  | _ => none }
def GdsWritesWrongFalsely : Prop := gdsWritesRow.holds Try.pinned (OpenSpec.ofChange gdsWritesWrong)

/-- 'trothlaw04.GdsNext': WHATEVER THE INPUT: true; the input reads as it did. -/
def gdsNextSpec : ChangeSpec := { name := "gdsNext", fn := fun _ => fun
  | [d] => { results := [.lit (.bool true)], args := [d] }
  | _ => none }
def gdsNextRow : OpenClaim := { program := "ytmldbabahiapdaa", sum := "e487b0aadb47a980b3cddcd0f4d2c3339be14ce5abe71c1d8062295f69c0a478", func := "troth/trothlaw04.GdsNext", spec := "gdsNext", unfollowed := true, recurses := true, apart := false }
def GdsNextSaid : Prop := gdsNextRow.holds Try.pinned (OpenSpec.ofChange gdsNextSpec)

/-- ITS FALSE NEIGHBOUR: 'it returns false'. Refute it at one input. -/
def gdsNextWrong : ChangeSpec := { name := "gdsNext", fn := fun _ => fun
  | [d] => { results := [.lit (.bool false)], args := [d] }
  | _ => none }
def GdsNextWrongFalsely : Prop := gdsNextRow.holds Try.pinned (OpenSpec.ofChange gdsNextWrong)

/-- 'trothlaw04.GdsCut': WHATEVER THE INPUT: true; the input reads as it did. -/
def gdsCutSpec : ChangeSpec := { name := "gdsCut", fn := fun _ => fun
  | [d1, d2, d3, d4] => { results := [.lit (.bool true)], args := [d1, d2, d3, d4] }
  | _ => none }
def gdsCutRow : OpenClaim := { program := "ytmldbabahiapdaa", sum := "e487b0aadb47a980b3cddcd0f4d2c3339be14ce5abe71c1d8062295f69c0a478", func := "troth/trothlaw04.GdsCut", spec := "gdsCut", unfollowed := true, recurses := true, apart := false }
def GdsCutSaid : Prop := gdsCutRow.holds Try.pinned (OpenSpec.ofChange gdsCutSpec)

/-- ITS FALSE NEIGHBOUR: 'it returns false'. Refute it at one input. -/
def gdsCutWrong : ChangeSpec := { name := "gdsCut", fn := fun _ => fun
  | [d1, d2, d3, d4] => { results := [.lit (.bool false)], args := [d1, d2, d3, d4] }
  | _ => none }
def GdsCutWrongFalsely : Prop := gdsCutRow.holds Try.pinned (OpenSpec.ofChange gdsCutWrong)

/-- 'trothlaw04.GdsTaken': WHATEVER THE INPUT: true; the input reads as it did. -/
def gdsTakenSpec : ChangeSpec := { name := "gdsTaken", fn := fun _ => fun
  | [d] => { results := [.lit (.bool true)], args := [d] }
  | _ => none }
def gdsTakenRow : OpenClaim := { program := "ytmldbabahiapdaa", sum := "e487b0aadb47a980b3cddcd0f4d2c3339be14ce5abe71c1d8062295f69c0a478", func := "troth/trothlaw04.GdsTaken", spec := "gdsTaken", unfollowed := true, recurses := true, apart := false }
def GdsTakenSaid : Prop := gdsTakenRow.holds Try.pinned (OpenSpec.ofChange gdsTakenSpec)

/-- ITS FALSE NEIGHBOUR: 'it returns false'. Refute it at one input. -/
def gdsTakenWrong : ChangeSpec := { name := "gdsTaken", fn := fun _ => fun
  | [d] => { results := [.lit (.bool false)], args := [d] }
  | _ => none }
def GdsTakenWrongFalsely : Prop := gdsTakenRow.holds Try.pinned (OpenSpec.ofChange gdsTakenWrong)

/-- 'trothlaw04.GdsReads': WHATEVER THE INPUT: true; the input reads as it did. -/
def gdsReadsSpec : ChangeSpec := { name := "gdsReads", fn := fun _ => fun
  | [d] => { results := [.lit (.bool true)], args := [d] }
  | _ => none }
def gdsReadsRow : OpenClaim := { program := "ytmldbabahiapdaa", sum := "e487b0aadb47a980b3cddcd0f4d2c3339be14ce5abe71c1d8062295f69c0a478", func := "troth/trothlaw04.GdsReads", spec := "gdsReads", unfollowed := true, recurses := true, apart := false }
def GdsReadsSaid : Prop := gdsReadsRow.holds Try.pinned (OpenSpec.ofChange gdsReadsSpec)

/-- ITS FALSE NEIGHBOUR: 'it returns false'. Refute it at one input. -/
def gdsReadsWrong : ChangeSpec := { name := "gdsReads", fn := fun _ => fun
  | [d] => { results := [.lit (.bool false)], args := [d] }
  | _ => none }
def GdsReadsWrongFalsely : Prop := gdsReadsRow.holds Try.pinned (OpenSpec.ofChange gdsReadsWrong)

/-- 'trothlaw04.GdsBack': WHATEVER THE INPUT: true; the input reads as it did. -/
def gdsBackSpec : ChangeSpec := { name := "gdsBack", fn := fun _ => fun
  | [d1, d2, d3] => { results := [.lit (.bool true)], args := [d1, d2, d3] }
  | _ => none }
def gdsBackRow : OpenClaim := { program := "ytmldbabahiapdaa", sum := "e487b0aadb47a980b3cddcd0f4d2c3339be14ce5abe71c1d8062295f69c0a478", func := "troth/trothlaw04.GdsBack", spec := "gdsBack", unfollowed := true, recurses := true, apart := false }
def GdsBackSaid : Prop := gdsBackRow.holds Try.pinned (OpenSpec.ofChange gdsBackSpec)

/-- ITS FALSE NEIGHBOUR: 'it returns false'. Refute it at one input. -/
def gdsBackWrong : ChangeSpec := { name := "gdsBack", fn := fun _ => fun
  | [d1, d2, d3] => { results := [.lit (.bool false)], args := [d1, d2, d3] }
  | _ => none }
def GdsBackWrongFalsely : Prop := gdsBackRow.holds Try.pinned (OpenSpec.ofChange gdsBackWrong)

/- THE SECOND FORM. 'bulk': how many values and letters a reading holds, each counted each time it is reached (what is shared counts as often as it is met; a slice's spare places count too). A statement '..UptoSaid' is the law's where the arguments, and the package variables that the reading takes, are together of bulk at most 1048576: NARROWER than '..Said'. Prove '..Said' where nothing that the law and all that it calls make is longer than what came in: it says more and counts as full. Else prove '..UptoSaid'. A law counts once. -/
mutual
def uptoBulk {H : Type} : DataW H → Nat
  | .lit (.string bytes) => bytes.length + 1
  | .lit _ => 1
  | .nil => 1
  | .ptr d => uptoBulk d + 1
  | .slice elems spare => uptoBulkAll elems + uptoBulkAll spare + 1
  | .agg parts => uptoBulkAll parts + 1
  | .iface _ d => uptoBulk d + 1
  | .map entries => uptoBulkEntries entries + 1
  | .held _ => 1
def uptoBulkAll {H : Type} : List (DataW H) → Nat
  | [] => 0
  | d :: r => uptoBulk d + uptoBulkAll r
def uptoBulkEntries {H : Type} : List (Lit × DataW H) → Nat
  | [] => 0
  | x :: r => uptoBulkEntry x + uptoBulkEntries r
def uptoBulkEntry {H : Type} : Lit × DataW H → Nat
  | (.string bytes, d) => bytes.length + uptoBulk d + 1
  | (_, d) => uptoBulk d + 1
 end
def uptoSmall : (H : Type) → List (DataW H) → Bool := fun _ ds => decide (uptoBulkAll ds ≤ 1048576)
def OpenSpec.upto (s : _root_.Go.ChangeSpec) : _root_.Go.OpenSpec := { _root_.Go.OpenSpec.ofChange s with cond := some uptoSmall }

/-- 'trothlaw04.GdsWrites', WHERE WHAT IT READS IS OF BULK AT MOST 1048576: true; the input reads as it did. -/
def gdsWritesUptoRow : OpenClaim := { program := "ytmldbabahiapdaa", sum := "e487b0aadb47a980b3cddcd0f4d2c3339be14ce5abe71c1d8062295f69c0a478", func := "troth/trothlaw04.GdsWrites", spec := "gdsWrites", unfollowed := true, recurses := true, apart := false, narrowed := true }
def GdsWritesUptoSaid : Prop := gdsWritesUptoRow.holds Try.pinned (OpenSpec.upto gdsWritesSpec)

/-- 'trothlaw04.GdsNext', WHERE WHAT IT READS IS OF BULK AT MOST 1048576: true; the input reads as it did. -/
def gdsNextUptoRow : OpenClaim := { program := "ytmldbabahiapdaa", sum := "e487b0aadb47a980b3cddcd0f4d2c3339be14ce5abe71c1d8062295f69c0a478", func := "troth/trothlaw04.GdsNext", spec := "gdsNext", unfollowed := true, recurses := true, apart := false, narrowed := true }
def GdsNextUptoSaid : Prop := gdsNextUptoRow.holds Try.pinned (OpenSpec.upto gdsNextSpec)

/-- 'trothlaw04.GdsCut', WHERE WHAT IT READS IS OF BULK AT MOST 1048576: true; the input reads as it did. -/
def gdsCutUptoRow : OpenClaim := { program := "ytmldbabahiapdaa", sum := "e487b0aadb47a980b3cddcd0f4d2c3339be14ce5abe71c1d8062295f69c0a478", func := "troth/trothlaw04.GdsCut", spec := "gdsCut", unfollowed := true, recurses := true, apart := false, narrowed := true }
def GdsCutUptoSaid : Prop := gdsCutUptoRow.holds Try.pinned (OpenSpec.upto gdsCutSpec)

/-- 'trothlaw04.GdsTaken', WHERE WHAT IT READS IS OF BULK AT MOST 1048576: true; the input reads as it did. -/
def gdsTakenUptoRow : OpenClaim := { program := "ytmldbabahiapdaa", sum := "e487b0aadb47a980b3cddcd0f4d2c3339be14ce5abe71c1d8062295f69c0a478", func := "troth/trothlaw04.GdsTaken", spec := "gdsTaken", unfollowed := true, recurses := true, apart := false, narrowed := true }
def GdsTakenUptoSaid : Prop := gdsTakenUptoRow.holds Try.pinned (OpenSpec.upto gdsTakenSpec)

/-- 'trothlaw04.GdsReads', WHERE WHAT IT READS IS OF BULK AT MOST 1048576: true; the input reads as it did. -/
def gdsReadsUptoRow : OpenClaim := { program := "ytmldbabahiapdaa", sum := "e487b0aadb47a980b3cddcd0f4d2c3339be14ce5abe71c1d8062295f69c0a478", func := "troth/trothlaw04.GdsReads", spec := "gdsReads", unfollowed := true, recurses := true, apart := false, narrowed := true }
def GdsReadsUptoSaid : Prop := gdsReadsUptoRow.holds Try.pinned (OpenSpec.upto gdsReadsSpec)

/-- 'trothlaw04.GdsBack', WHERE WHAT IT READS IS OF BULK AT MOST 1048576: true; the input reads as it did. -/
def gdsBackUptoRow : OpenClaim := { program := "ytmldbabahiapdaa", sum := "e487b0aadb47a980b3cddcd0f4d2c3339be14ce5abe71c1d8062295f69c0a478", func := "troth/trothlaw04.GdsBack", spec := "gdsBack", unfollowed := true, recurses := true, apart := false, narrowed := true }
def GdsBackUptoSaid : Prop := gdsBackUptoRow.holds Try.pinned (OpenSpec.upto gdsBackSpec)

end Rows
end Go.Proofs.Ytmldbabahiapdaa

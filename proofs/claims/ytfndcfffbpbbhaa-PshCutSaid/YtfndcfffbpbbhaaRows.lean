/-
  No cell of these rows narrows 'for every input' (looked for: loops, veiled, ifaces, maps, wideKeys, modest, calm, conditions, laid).
  DERIVED. THE GIVEN ROWS OF THIS SEAT. 5 by the template 'for every input the law returns true; each argument reads behind the call as it read before'; 0 by the template 'total and deterministic' (their statements: YtfndcfffbpbbhaaTotals.lean).
  GIVEN WITH THE SEED: the statements are not yours to turn. If you find one false, say at which input.
  Laid BY PROGRAM, IN A SANDBOX (cutbox-rows.mjs): the forced cells as the released guide's own fill.sh prints them over the translation 45b2a4f79c486ef5… (all of the seat's roots in one cut). By AI agents, Wed Nov 11 2026. No macro, syntax, notation, axiom, sorry.
-/
import Derived.Test.YtfndcfffbpbbhaaChecked
import GoSem.Claim
import GoSem.ClaimJoined
import GoSem.ClaimMapViews
import Derived.JoinedTies
import Derived.KernelRfl
namespace Go.Proofs.Ytfndcfffbpbbhaa
/- THE CELL 'sum', in the pinned program and in every row, IS THE sha256 OF THE DUMP (.gsa) THAT YtfndcfffbpbbhaaProg.lean LOADS. Nothing in Lean hashes anything: it is a label: what it is worth is what the hold of that sum in a sandbox is worth. -/
noncomputable def Try.pinned : Pinned := { name := "ytfndcfffbpbbhaa", sum := "45b2a4f79c486ef558faff0faad3ccf173ce0e2632bc626624787fb086d86bd9", checked := Try.checked }
namespace Rows
def none {H : Type} : Left H := { results := [], args := [] }

/-- 'trothlaw06.PshWrites': WHATEVER THE INPUT: true; the input reads as it did. -/
def pshWritesSpec : ChangeSpec := { name := "pshWrites", fn := fun _ => fun
  | [d1, d2] => { results := [.lit (.bool true)], args := [d1, d2] }
  | _ => none }
def pshWritesRow : OpenClaim := { program := "ytfndcfffbpbbhaa", sum := "45b2a4f79c486ef558faff0faad3ccf173ce0e2632bc626624787fb086d86bd9", func := "troth/trothlaw06.PshWrites", spec := "pshWrites", unfollowed := true, recurses := true, apart := false }
def PshWritesSaid : Prop := pshWritesRow.holds Try.pinned (OpenSpec.ofChange pshWritesSpec)

/-- ITS FALSE NEIGHBOUR: 'it returns false'. Refute it at one input. -/
def pshWritesWrong : ChangeSpec := { name := "pshWrites", fn := fun _ => fun
  | [d1, d2] => { results := [.lit (.bool false)], args := [d1, d2] }
  | _ => none }
def PshWritesWrongFalsely : Prop := pshWritesRow.holds Try.pinned (OpenSpec.ofChange pshWritesWrong)

/-- 'trothlaw06.PshReads': WHATEVER THE INPUT: true; the input reads as it did. -/
def pshReadsSpec : ChangeSpec := { name := "pshReads", fn := fun _ => fun
  | [d] => { results := [.lit (.bool true)], args := [d] }
  | _ => none }
def pshReadsRow : OpenClaim := { program := "ytfndcfffbpbbhaa", sum := "45b2a4f79c486ef558faff0faad3ccf173ce0e2632bc626624787fb086d86bd9", func := "troth/trothlaw06.PshReads", spec := "pshReads", unfollowed := true, recurses := true, apart := false }
def PshReadsSaid : Prop := pshReadsRow.holds Try.pinned (OpenSpec.ofChange pshReadsSpec)

/-- ITS FALSE NEIGHBOUR: 'it returns false'. Refute it at one input. -/
def pshReadsWrong : ChangeSpec := { name := "pshReads", fn := fun _ => fun
  | [d] => { results := [.lit (.bool false)], args := [d] }
  | _ => none }
def PshReadsWrongFalsely : Prop := pshReadsRow.holds Try.pinned (OpenSpec.ofChange pshReadsWrong)

/-- 'trothlaw06.PshBack': WHATEVER THE INPUT: true; the input reads as it did. -/
def pshBackSpec : ChangeSpec := { name := "pshBack", fn := fun _ => fun
  | [d1, d2] => { results := [.lit (.bool true)], args := [d1, d2] }
  | _ => none }
def pshBackRow : OpenClaim := { program := "ytfndcfffbpbbhaa", sum := "45b2a4f79c486ef558faff0faad3ccf173ce0e2632bc626624787fb086d86bd9", func := "troth/trothlaw06.PshBack", spec := "pshBack", unfollowed := true, recurses := true, apart := false }
def PshBackSaid : Prop := pshBackRow.holds Try.pinned (OpenSpec.ofChange pshBackSpec)

/-- ITS FALSE NEIGHBOUR: 'it returns false'. Refute it at one input. -/
def pshBackWrong : ChangeSpec := { name := "pshBack", fn := fun _ => fun
  | [d1, d2] => { results := [.lit (.bool false)], args := [d1, d2] }
  | _ => none }
def PshBackWrongFalsely : Prop := pshBackRow.holds Try.pinned (OpenSpec.ofChange pshBackWrong)

/-- 'trothlaw06.PshCut': WHATEVER THE INPUT: true; the input reads as it did. -/
def pshCutSpec : ChangeSpec := { name := "pshCut", fn := fun _ => fun
  | [d1, d2, d3] => { results := [.lit (.bool true)], args := [d1, d2, d3] }
  | _ => none }
def pshCutRow : OpenClaim := { program := "ytfndcfffbpbbhaa", sum := "45b2a4f79c486ef558faff0faad3ccf173ce0e2632bc626624787fb086d86bd9", func := "troth/trothlaw06.PshCut", spec := "pshCut", unfollowed := true, recurses := true, apart := false }
def PshCutSaid : Prop := pshCutRow.holds Try.pinned (OpenSpec.ofChange pshCutSpec)

/-- ITS FALSE NEIGHBOUR: 'it returns false'. Refute it at one input. -/
def pshCutWrong : ChangeSpec := { name := "pshCut", fn := fun _ => fun
  | [d1, d2, d3] => { results := [.lit (.bool false)], args := [d1, d2, d3] }
  | _ => none }
def PshCutWrongFalsely : Prop := pshCutRow.holds Try.pinned (OpenSpec.ofChange pshCutWrong)

/-- 'trothlaw06.PshApart': WHATEVER THE INPUT: true; the input reads as it did. -/
def pshApartSpec : ChangeSpec := { name := "pshApart", fn := fun _ => fun
  | [d1, d2] => { results := [.lit (.bool true)], args := [d1, d2] }
  | _ => none }
def pshApartRow : OpenClaim := { program := "ytfndcfffbpbbhaa", sum := "45b2a4f79c486ef558faff0faad3ccf173ce0e2632bc626624787fb086d86bd9", func := "troth/trothlaw06.PshApart", spec := "pshApart", unfollowed := true, recurses := true, apart := false }
def PshApartSaid : Prop := pshApartRow.holds Try.pinned (OpenSpec.ofChange pshApartSpec)

/-- ITS FALSE NEIGHBOUR: 'it returns false'. Refute it at one input. -/
def pshApartWrong : ChangeSpec := { name := "pshApart", fn := fun _ => fun
  | [d1, d2] => { results := [.lit (.bool false)], args := [d1, d2] }
  | _ => none }
def PshApartWrongFalsely : Prop := pshApartRow.holds Try.pinned (OpenSpec.ofChange pshApartWrong)

/- THE SECOND FORM. 'bulk': how many values and letters a reading holds, each counted each time it is reached (what is shared counts as often as it is met; a slice's spare places count too). A statement '..UptoSaid' is the law's where the arguments, and the package variables that the reading takes, are together of bulk at most 1048576: NARROWER than '..Said'. Prove '..Said' where nothing that the law and all that it calls make is longer than what came in: it says more and counts as full. Else prove '..UptoSaid'. A law counts once. -/
mutual
def uptoBulk {H : Type} : DataW H → Nat
  | .lit (.string bytes) => bytes.length + 1
  | .lit _ => 1
  | .nil => 1
  | .ptr d => uptoBulk d + 1
  | .slice elems spare => uptoBulkAll elems + uptoBulkAll spare + 1
  | .agg parts => uptoBulkAll parts + 1
  | .iface _ d => uptoBulk d + 1
  | .map entries => uptoBulkEntries entries + 1
  | .held _ => 1
def uptoBulkAll {H : Type} : List (DataW H) → Nat
  | [] => 0
  | d :: r => uptoBulk d + uptoBulkAll r
def uptoBulkEntries {H : Type} : List (Lit × DataW H) → Nat
  | [] => 0
  | x :: r => uptoBulkEntry x + uptoBulkEntries r
def uptoBulkEntry {H : Type} : Lit × DataW H → Nat
  | (.string bytes, d) => bytes.length + uptoBulk d + 1
  | (_, d) => uptoBulk d + 1
 end
def uptoSmall : (H : Type) → List (DataW H) → Bool := fun _ ds => decide (uptoBulkAll ds ≤ 1048576)
def OpenSpec.upto (s : _root_.Go.ChangeSpec) : _root_.Go.OpenSpec := { _root_.Go.OpenSpec.ofChange s with cond := some uptoSmall }

/-- 'trothlaw06.PshWrites', WHERE WHAT IT READS IS OF BULK AT MOST 1048576: true; the input reads as it did. -/
def pshWritesUptoRow : OpenClaim := { program := "ytfndcfffbpbbhaa", sum := "45b2a4f79c486ef558faff0faad3ccf173ce0e2632bc626624787fb086d86bd9", func := "troth/trothlaw06.PshWrites", spec := "pshWrites", unfollowed := true, recurses := true, apart := false, narrowed := true }
def PshWritesUptoSaid : Prop := pshWritesUptoRow.holds Try.pinned (OpenSpec.upto pshWritesSpec)

/-- 'trothlaw06.PshReads', WHERE WHAT IT READS IS OF BULK AT MOST 1048576: true; the input reads as it did. -/
def pshReadsUptoRow : OpenClaim := { program := "ytfndcfffbpbbhaa", sum := "45b2a4f79c486ef558faff0faad3ccf173ce0e2632bc626624787fb086d86bd9", func := "troth/trothlaw06.PshReads", spec := "pshReads", unfollowed := true, recurses := true, apart := false, narrowed := true }
def PshReadsUptoSaid : Prop := pshReadsUptoRow.holds Try.pinned (OpenSpec.upto pshReadsSpec)

/-- 'trothlaw06.PshBack', WHERE WHAT IT READS IS OF BULK AT MOST 1048576: true; the input reads as it did. -/
def pshBackUptoRow : OpenClaim := { program := "ytfndcfffbpbbhaa", sum := "45b2a4f79c486ef558faff0faad3ccf173ce0e2632bc626624787fb086d86bd9", func := "troth/trothlaw06.PshBack", spec := "pshBack", unfollowed := true, recurses := true, apart := false, narrowed := true }
def PshBackUptoSaid : Prop := pshBackUptoRow.holds Try.pinned (OpenSpec.upto pshBackSpec)

/-- 'trothlaw06.PshCut', WHERE WHAT IT READS IS OF BULK AT MOST 1048576: true; the input reads as it did. -/
def pshCutUptoRow : OpenClaim := { program := "ytfndcfffbpbbhaa", sum := "45b2a4f79c486ef558faff0faad3ccf173ce0e2632bc626624787fb086d86bd9", func := "troth/trothlaw06.PshCut", spec := "pshCut", unfollowed := true, recurses := true, apart := false, narrowed := true }
def PshCutUptoSaid : Prop := pshCutUptoRow.holds Try.pinned (OpenSpec.upto pshCutSpec)

/-- 'trothlaw06.PshApart', WHERE WHAT IT READS IS OF BULK AT MOST 1048576: true; the input reads as it did. -/
def pshApartUptoRow : OpenClaim := { program := "ytfndcfffbpbbhaa", sum := "45b2a4f79c486ef558faff0faad3ccf173ce0e2632bc626624787fb086d86bd9", func := "troth/trothlaw06.PshApart", spec := "pshApart", unfollowed := true, recurses := true, apart := false, narrowed := true }
def PshApartUptoSaid : Prop := pshApartUptoRow.holds Try.pinned (OpenSpec.upto pshApartSpec)

end Rows
end Go.Proofs.Ytfndcfffbpbbhaa

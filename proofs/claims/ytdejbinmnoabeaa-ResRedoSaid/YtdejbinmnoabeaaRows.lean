/-
  No cell of these rows narrows 'for every input' (looked for: loops, veiled, ifaces, maps, wideKeys, modest, calm, conditions, laid).
  DERIVED. THE GIVEN ROWS OF THIS SEAT. 5 by the template 'for every input the law returns true; each argument reads behind the call as it read before'; 0 by the template 'total and deterministic' (their statements: YtdejbinmnoabeaaTotals.lean).
  GIVEN WITH THE SEED: the statements are not yours to turn. If you find one false, say at which input.
  Laid BY PROGRAM, IN A SANDBOX (cutbox-rows.mjs): the forced cells as the released guide's own fill.sh prints them over the translation 6ab8e06731776807… (all of the seat's roots in one cut). By AI agents, Wed Nov 11 2026. No macro, syntax, notation, axiom, sorry.
-/
import Derived.Test.YtdejbinmnoabeaaChecked
import GoSem.Claim
import GoSem.ClaimJoined
import GoSem.ClaimMapViews
import Derived.JoinedTies
import Derived.KernelRfl
namespace Go.Proofs.Ytdejbinmnoabeaa
/- THE CELL 'sum', in the pinned program and in every row, IS THE sha256 OF THE DUMP (.gsa) THAT YtdejbinmnoabeaaProg.lean LOADS. Nothing in Lean hashes anything: it is a label: what it is worth is what the hold of that sum in a sandbox is worth. -/
noncomputable def Try.pinned : Pinned := { name := "ytdejbinmnoabeaa", sum := "6ab8e06731776807b4bc2e4dd5a17676fc4cee7439f4e1cf24219b43df0dda8c", checked := Try.checked }
namespace Rows
def none {H : Type} : Left H := { results := [], args := [] }

/-- 'trothlaw15.ResWrites': WHATEVER THE INPUT: true; the input reads as it did. -/
def resWritesSpec : ChangeSpec := { name := "resWrites", fn := fun _ => fun
  | [d1, d2] => { results := [.lit (.bool true)], args := [d1, d2] }
  | _ => none }
def resWritesRow : OpenClaim := { program := "ytdejbinmnoabeaa", sum := "6ab8e06731776807b4bc2e4dd5a17676fc4cee7439f4e1cf24219b43df0dda8c", func := "troth/trothlaw15.ResWrites", spec := "resWrites", unfollowed := true, recurses := true, plainKeys := false, apart := false }
def ResWritesSaid : Prop := resWritesRow.holds Try.pinned (OpenSpec.ofChange resWritesSpec)

/-- ITS FALSE NEIGHBOUR: 'it returns false'. Refute it at one input. -/
def resWritesWrong : ChangeSpec := { name := "resWrites", fn := fun _ => fun
  | [d1, d2] => { results := [.lit (.bool false)], args := [d1, d2] }
  | _ => none }
def ResWritesWrongFalsely : Prop := resWritesRow.holds Try.pinned (OpenSpec.ofChange resWritesWrong)

/-- 'trothlaw15.ResNobody': WHATEVER THE INPUT: true; the input reads as it did. -/
def resNobodySpec : ChangeSpec := { name := "resNobody", fn := fun _ => fun
  | [d] => { results := [.lit (.bool true)], args := [d] }
  | _ => none }
def resNobodyRow : OpenClaim := { program := "ytdejbinmnoabeaa", sum := "6ab8e06731776807b4bc2e4dd5a17676fc4cee7439f4e1cf24219b43df0dda8c", func := "troth/trothlaw15.ResNobody", spec := "resNobody", unfollowed := true, recurses := true, plainKeys := false, apart := false }
def ResNobodySaid : Prop := resNobodyRow.holds Try.pinned (OpenSpec.ofChange resNobodySpec)

/-- ITS FALSE NEIGHBOUR: 'it returns false'. Refute it at one input. -/
def resNobodyWrong : ChangeSpec := { name := "resNobody", fn := fun _ => fun
  | [d] => { results := [.lit (.bool false)], args := [d] }
  | _ => none }
def ResNobodyWrongFalsely : Prop := resNobodyRow.holds Try.pinned (OpenSpec.ofChange resNobodyWrong)

/-- 'trothlaw15.ResBoth': WHATEVER THE INPUT: true; the input reads as it did. -/
def resBothSpec : ChangeSpec := { name := "resBoth", fn := fun _ => fun
  | [d1, d2, d3, d4, d5] => { results := [.lit (.bool true)], args := [d1, d2, d3, d4, d5] }
  | _ => none }
def resBothRow : OpenClaim := { program := "ytdejbinmnoabeaa", sum := "6ab8e06731776807b4bc2e4dd5a17676fc4cee7439f4e1cf24219b43df0dda8c", func := "troth/trothlaw15.ResBoth", spec := "resBoth", unfollowed := true, recurses := true, plainKeys := false, apart := false }
def ResBothSaid : Prop := resBothRow.holds Try.pinned (OpenSpec.ofChange resBothSpec)

/-- ITS FALSE NEIGHBOUR: 'it returns false'. Refute it at one input. -/
def resBothWrong : ChangeSpec := { name := "resBoth", fn := fun _ => fun
  | [d1, d2, d3, d4, d5] => { results := [.lit (.bool false)], args := [d1, d2, d3, d4, d5] }
  | _ => none }
def ResBothWrongFalsely : Prop := resBothRow.holds Try.pinned (OpenSpec.ofChange resBothWrong)

/-- 'trothlaw15.ResBack': WHATEVER THE INPUT: true; the input reads as it did. -/
def resBackSpec : ChangeSpec := { name := "resBack", fn := fun _ => fun
  | [d1, d2] => { results := [.lit (.bool true)], args := [d1, d2] }
  | _ => none }
def resBackRow : OpenClaim := { program := "ytdejbinmnoabeaa", sum := "6ab8e06731776807b4bc2e4dd5a17676fc4cee7439f4e1cf24219b43df0dda8c", func := "troth/trothlaw15.ResBack", spec := "resBack", unfollowed := true, recurses := true, plainKeys := false, apart := false }
def ResBackSaid : Prop := resBackRow.holds Try.pinned (OpenSpec.ofChange resBackSpec)

/-- ITS FALSE NEIGHBOUR: 'it returns false'. Refute it at one input. -/
def resBackWrong : ChangeSpec := { name := "resBack", fn := fun _ => fun
  | [d1, d2] => { results := [.lit (.bool false)], args := [d1, d2] }
  | _ => none }
def ResBackWrongFalsely : Prop := resBackRow.holds Try.pinned (OpenSpec.ofChange resBackWrong)

/-- 'trothlaw15.ResRedo': WHATEVER THE INPUT: true; the input reads as it did. -/
def resRedoSpec : ChangeSpec := { name := "resRedo", fn := fun _ => fun
  | [d1, d2] => { results := [.lit (.bool true)], args := [d1, d2] }
  | _ => none }
def resRedoRow : OpenClaim := { program := "ytdejbinmnoabeaa", sum := "6ab8e06731776807b4bc2e4dd5a17676fc4cee7439f4e1cf24219b43df0dda8c", func := "troth/trothlaw15.ResRedo", spec := "resRedo", unfollowed := true, recurses := true, plainKeys := false, apart := false }
def ResRedoSaid : Prop := resRedoRow.holds Try.pinned (OpenSpec.ofChange resRedoSpec)

/-- ITS FALSE NEIGHBOUR: 'it returns false'. Refute it at one input. -/
def resRedoWrong : ChangeSpec := { name := "resRedo", fn := fun _ => fun
  | [d1, d2] => { results := [.lit (.bool false)], args := [d1, d2] }
  | _ => none }
def ResRedoWrongFalsely : Prop := resRedoRow.holds Try.pinned (OpenSpec.ofChange resRedoWrong)

/- THE SECOND FORM. 'bulk': how many values and letters a reading holds, each counted each time it is reached (what is shared counts as often as it is met; a slice's spare places count too). A statement '..UptoSaid' is the law's where the arguments, and the package variables that the reading takes, are together of bulk at most 1048576: NARROWER than '..Said'. Prove '..Said' where nothing that the law and all that it calls make is longer than what came in: it says more and counts as full. Else prove '..UptoSaid'. A law counts once. -/
mutual
def uptoBulk {H : Type} : DataW H → Nat
  | .lit (.string bytes) => bytes.length + 1
  | .lit _ => 1
  | .nil => 1
  | .ptr d => uptoBulk d + 1
  | .slice elems spare => uptoBulkAll elems + uptoBulkAll spare + 1
  | .agg parts => uptoBulkAll parts + 1
  | .iface _ d => uptoBulk d + 1
  | .map entries => uptoBulkEntries entries + 1
  | .held _ => 1
def uptoBulkAll {H : Type} : List (DataW H) → Nat
  | [] => 0
  | d :: r => uptoBulk d + uptoBulkAll r
def uptoBulkEntries {H : Type} : List (Lit × DataW H) → Nat
  | [] => 0
  | x :: r => uptoBulkEntry x + uptoBulkEntries r
def uptoBulkEntry {H : Type} : Lit × DataW H → Nat
  | (.string bytes, d) => bytes.length + uptoBulk d + 1
  | (_, d) => uptoBulk d + 1
 end
def uptoSmall : (H : Type) → List (DataW H) → Bool := fun _ ds => decide (uptoBulkAll ds ≤ 1048576)
def OpenSpec.upto (s : _root_.Go.ChangeSpec) : _root_.Go.OpenSpec := { _root_.Go.OpenSpec.ofChange s with cond := some uptoSmall }

/-- 'trothlaw15.ResWrites', WHERE WHAT IT READS IS OF BULK AT MOST 1048576: true; the input reads as it did. -/
def resWritesUptoRow : OpenClaim := { program := "ytdejbinmnoabeaa", sum := "6ab8e06731776807b4bc2e4dd5a17676fc4cee7439f4e1cf24219b43df0dda8c", func := "troth/trothlaw15.ResWrites", spec := "resWrites", unfollowed := true, recurses := true, plainKeys := false, apart := false, narrowed := true }
def ResWritesUptoSaid : Prop := resWritesUptoRow.holds Try.pinned (OpenSpec.upto resWritesSpec)

/-- 'trothlaw15.ResNobody', WHERE WHAT IT READS IS OF BULK AT MOST 1048576: true; the input reads as it did. -/
def resNobodyUptoRow : OpenClaim := { program := "ytdejbinmnoabeaa", sum := "6ab8e06731776807b4bc2e4dd5a17676fc4cee7439f4e1cf24219b43df0dda8c", func := "troth/trothlaw15.ResNobody", spec := "resNobody", unfollowed := true, recurses := true, plainKeys := false, apart := false, narrowed := true }
def ResNobodyUptoSaid : Prop := resNobodyUptoRow.holds Try.pinned (OpenSpec.upto resNobodySpec)

/-- 'trothlaw15.ResBoth', WHERE WHAT IT READS IS OF BULK AT MOST 1048576: true; the input reads as it did. -/
def resBothUptoRow : OpenClaim := { program := "ytdejbinmnoabeaa", sum := "6ab8e06731776807b4bc2e4dd5a17676fc4cee7439f4e1cf24219b43df0dda8c", func := "troth/trothlaw15.ResBoth", spec := "resBoth", unfollowed := true, recurses := true, plainKeys := false, apart := false, narrowed := true }
def ResBothUptoSaid : Prop := resBothUptoRow.holds Try.pinned (OpenSpec.upto resBothSpec)

/-- 'trothlaw15.ResBack', WHERE WHAT IT READS IS OF BULK AT MOST 1048576: true; the input reads as it did. -/
def resBackUptoRow : OpenClaim := { program := "ytdejbinmnoabeaa", sum := "6ab8e06731776807b4bc2e4dd5a17676fc4cee7439f4e1cf24219b43df0dda8c", func := "troth/trothlaw15.ResBack", spec := "resBack", unfollowed := true, recurses := true, plainKeys := false, apart := false, narrowed := true }
def ResBackUptoSaid : Prop := resBackUptoRow.holds Try.pinned (OpenSpec.upto resBackSpec)

/-- 'trothlaw15.ResRedo', WHERE WHAT IT READS IS OF BULK AT MOST 1048576: true; the input reads as it did. -/
def resRedoUptoRow : OpenClaim := { program := "ytdejbinmnoabeaa", sum := "6ab8e06731776807b4bc2e4dd5a17676fc4cee7439f4e1cf24219b43df0dda8c", func := "troth/trothlaw15.ResRedo", spec := "resRedo", unfollowed := true, recurses := true, plainKeys := false, apart := false, narrowed := true }
def ResRedoUptoSaid : Prop := resRedoUptoRow.holds Try.pinned (OpenSpec.upto resRedoSpec)

end Rows
end Go.Proofs.Ytdejbinmnoabeaa

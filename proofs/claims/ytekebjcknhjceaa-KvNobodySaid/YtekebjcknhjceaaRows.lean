/-
  No cell of these rows narrows 'for every input' (looked for: loops, veiled, ifaces, maps, wideKeys, modest, calm, conditions, laid).
  DERIVED. THE GIVEN ROWS OF THIS SEAT. 7 by the template 'for every input the law returns true; each argument reads behind the call as it read before'; 0 by the template 'total and deterministic' (their statements: YtekebjcknhjceaaTotals.lean).
  GIVEN WITH THE SEED: the statements are not yours to turn. If you find one false, say at which input.
  Laid BY PROGRAM, IN A SANDBOX (cutbox-rows.mjs): the forced cells as the released guide's own fill.sh prints them over the translation f69f9f41805b29fa… (all of the seat's roots in one cut). By AI agents, Wed Nov 11 2026. No macro, syntax, notation, axiom, sorry.
-/
import Derived.Test.YtekebjcknhjceaaChecked
import GoSem.Claim
import GoSem.ClaimJoined
import GoSem.ClaimMapViews
import Derived.JoinedTies
import Derived.KernelRfl
namespace Go.Proofs.Ytekebjcknhjceaa
/- THE CELL 'sum', in the pinned program and in every row, IS THE sha256 OF THE DUMP (.gsa) THAT YtekebjcknhjceaaProg.lean LOADS. Nothing in Lean hashes anything: it is a label: what it is worth is what the hold of that sum in a sandbox is worth. -/
noncomputable def Try.pinned : Pinned := { name := "ytekebjcknhjceaa", sum := "f69f9f41805b29faca4d4a808f2483eacf3978a5ecfbaa5d80353d96d9e46414", checked := Try.checked }
namespace Rows
def none {H : Type} : Left H := { results := [], args := [] }

/-- 'trothlaw13.KvLast': WHATEVER THE INPUT: true; the input reads as it did. -/
def kvLastSpec : ChangeSpec := { name := "kvLast", fn := fun _ => fun
  | [d1, d2, d3, d4] => { results := [.lit (.bool true)], args := [d1, d2, d3, d4] }
  | _ => none }
def kvLastRow : OpenClaim := { program := "ytekebjcknhjceaa", sum := "f69f9f41805b29faca4d4a808f2483eacf3978a5ecfbaa5d80353d96d9e46414", func := "troth/trothlaw13.KvLast", spec := "kvLast", unfollowed := true, recurses := true, plainKeys := false, apart := false }
def KvLastSaid : Prop := kvLastRow.holds Try.pinned (OpenSpec.ofChange kvLastSpec)

/-- ITS FALSE NEIGHBOUR: 'it returns false'. Refute it at one input. -/
def kvLastWrong : ChangeSpec := { name := "kvLast", fn := fun _ => fun
  | [d1, d2, d3, d4] => { results := [.lit (.bool false)], args := [d1, d2, d3, d4] }
  | _ => none }
def KvLastWrongFalsely : Prop := kvLastRow.holds Try.pinned (OpenSpec.ofChange kvLastWrong)

/-- 'trothlaw13.KvAlone': WHATEVER THE INPUT: true; the input reads as it did. -/
def kvAloneSpec : ChangeSpec := { name := "kvAlone", fn := fun _ => fun
  | [d1, d2, d3, d4, d5] => { results := [.lit (.bool true)], args := [d1, d2, d3, d4, d5] }
  | _ => none }
def kvAloneRow : OpenClaim := { program := "ytekebjcknhjceaa", sum := "f69f9f41805b29faca4d4a808f2483eacf3978a5ecfbaa5d80353d96d9e46414", func := "troth/trothlaw13.KvAlone", spec := "kvAlone", unfollowed := true, recurses := true, plainKeys := false, apart := false }
def KvAloneSaid : Prop := kvAloneRow.holds Try.pinned (OpenSpec.ofChange kvAloneSpec)

/-- ITS FALSE NEIGHBOUR: 'it returns false'. Refute it at one input. -/
def kvAloneWrong : ChangeSpec := { name := "kvAlone", fn := fun _ => fun
  | [d1, d2, d3, d4, d5] => { results := [.lit (.bool false)], args := [d1, d2, d3, d4, d5] }
  | _ => none }
def KvAloneWrongFalsely : Prop := kvAloneRow.holds Try.pinned (OpenSpec.ofChange kvAloneWrong)

/-- 'trothlaw13.KvLives': WHATEVER THE INPUT: true; the input reads as it did. -/
def kvLivesSpec : ChangeSpec := { name := "kvLives", fn := fun _ => fun
  | [d] => { results := [.lit (.bool true)], args := [d] }
  | _ => none }
def kvLivesRow : OpenClaim := { program := "ytekebjcknhjceaa", sum := "f69f9f41805b29faca4d4a808f2483eacf3978a5ecfbaa5d80353d96d9e46414", func := "troth/trothlaw13.KvLives", spec := "kvLives", unfollowed := true, recurses := true, plainKeys := false, apart := false }
def KvLivesSaid : Prop := kvLivesRow.holds Try.pinned (OpenSpec.ofChange kvLivesSpec)

/-- ITS FALSE NEIGHBOUR: 'it returns false'. Refute it at one input. -/
def kvLivesWrong : ChangeSpec := { name := "kvLives", fn := fun _ => fun
  | [d] => { results := [.lit (.bool false)], args := [d] }
  | _ => none }
def KvLivesWrongFalsely : Prop := kvLivesRow.holds Try.pinned (OpenSpec.ofChange kvLivesWrong)

/-- 'trothlaw13.KvNobody': WHATEVER THE INPUT: true; the input reads as it did. -/
def kvNobodySpec : ChangeSpec := { name := "kvNobody", fn := fun _ => fun
  | [d] => { results := [.lit (.bool true)], args := [d] }
  | _ => none }
def kvNobodyRow : OpenClaim := { program := "ytekebjcknhjceaa", sum := "f69f9f41805b29faca4d4a808f2483eacf3978a5ecfbaa5d80353d96d9e46414", func := "troth/trothlaw13.KvNobody", spec := "kvNobody", unfollowed := true, recurses := true, plainKeys := false, apart := false }
def KvNobodySaid : Prop := kvNobodyRow.holds Try.pinned (OpenSpec.ofChange kvNobodySpec)

/-- ITS FALSE NEIGHBOUR: 'it returns false'. Refute it at one input. -/
def kvNobodyWrong : ChangeSpec := { name := "kvNobody", fn := fun _ => fun
  | [d] => { results := [.lit (.bool false)], args := [d] }
  | _ => none }
def KvNobodyWrongFalsely : Prop := kvNobodyRow.holds Try.pinned (OpenSpec.ofChange kvNobodyWrong)

/-- 'trothlaw13.KvApart': WHATEVER THE INPUT: true; the input reads as it did. -/
def kvApartSpec : ChangeSpec := { name := "kvApart", fn := fun _ => fun
  | [d1, d2, d3] => { results := [.lit (.bool true)], args := [d1, d2, d3] }
  | _ => none }
def kvApartRow : OpenClaim := { program := "ytekebjcknhjceaa", sum := "f69f9f41805b29faca4d4a808f2483eacf3978a5ecfbaa5d80353d96d9e46414", func := "troth/trothlaw13.KvApart", spec := "kvApart", unfollowed := true, recurses := true, plainKeys := false, apart := false }
def KvApartSaid : Prop := kvApartRow.holds Try.pinned (OpenSpec.ofChange kvApartSpec)

/-- ITS FALSE NEIGHBOUR: 'it returns false'. Refute it at one input. -/
def kvApartWrong : ChangeSpec := { name := "kvApart", fn := fun _ => fun
  | [d1, d2, d3] => { results := [.lit (.bool false)], args := [d1, d2, d3] }
  | _ => none }
def KvApartWrongFalsely : Prop := kvApartRow.holds Try.pinned (OpenSpec.ofChange kvApartWrong)

/-- 'trothlaw13.KvAgain': WHATEVER THE INPUT: true; the input reads as it did. -/
def kvAgainSpec : ChangeSpec := { name := "kvAgain", fn := fun _ => fun
  | [d1, d2, d3] => { results := [.lit (.bool true)], args := [d1, d2, d3] }
  | _ => none }
def kvAgainRow : OpenClaim := { program := "ytekebjcknhjceaa", sum := "f69f9f41805b29faca4d4a808f2483eacf3978a5ecfbaa5d80353d96d9e46414", func := "troth/trothlaw13.KvAgain", spec := "kvAgain", unfollowed := true, recurses := true, plainKeys := false, apart := false }
def KvAgainSaid : Prop := kvAgainRow.holds Try.pinned (OpenSpec.ofChange kvAgainSpec)

/-- ITS FALSE NEIGHBOUR: 'it returns false'. Refute it at one input. -/
def kvAgainWrong : ChangeSpec := { name := "kvAgain", fn := fun _ => fun
  | [d1, d2, d3] => { results := [.lit (.bool false)], args := [d1, d2, d3] }
  | _ => none }
def KvAgainWrongFalsely : Prop := kvAgainRow.holds Try.pinned (OpenSpec.ofChange kvAgainWrong)

/-- 'trothlaw13.KvKept': WHATEVER THE INPUT: true; the input reads as it did. -/
def kvKeptSpec : ChangeSpec := { name := "kvKept", fn := fun _ => fun
  | [d1, d2, d3, d4] => { results := [.lit (.bool true)], args := [d1, d2, d3, d4] }
  | _ => none }
def kvKeptRow : OpenClaim := { program := "ytekebjcknhjceaa", sum := "f69f9f41805b29faca4d4a808f2483eacf3978a5ecfbaa5d80353d96d9e46414", func := "troth/trothlaw13.KvKept", spec := "kvKept", unfollowed := true, recurses := true, plainKeys := false, apart := false }
def KvKeptSaid : Prop := kvKeptRow.holds Try.pinned (OpenSpec.ofChange kvKeptSpec)

/-- ITS FALSE NEIGHBOUR: 'it returns false'. Refute it at one input. -/
def kvKeptWrong : ChangeSpec := { name := "kvKept", fn := fun _ => fun
  | [d1, d2, d3, d4] => { results := [.lit (.bool false)], args := [d1, d2, d3, d4] }
  | _ => none }
def KvKeptWrongFalsely : Prop := kvKeptRow.holds Try.pinned (OpenSpec.ofChange kvKeptWrong)

/- THE SECOND FORM. 'bulk': how many values and letters a reading holds, each counted each time it is reached (what is shared counts as often as it is met; a slice's spare places count too). A statement '..UptoSaid' is the law's where the arguments, and the package variables that the reading takes, are together of bulk at most 1048576: NARROWER than '..Said'. Prove '..Said' where nothing that the law and all that it calls make is longer than what came in: it says more and counts as full. Else prove '..UptoSaid'. A law counts once. -/
mutual
def uptoBulk {H : Type} : DataW H → Nat
  | .lit (.string bytes) => bytes.length + 1
  | .lit _ => 1
  | .nil => 1
  | .ptr d => uptoBulk d + 1
  | .slice elems spare => uptoBulkAll elems + uptoBulkAll spare + 1
  | .agg parts => uptoBulkAll parts + 1
  | .iface _ d => uptoBulk d + 1
  | .map entries => uptoBulkEntries entries + 1
  | .held _ => 1
def uptoBulkAll {H : Type} : List (DataW H) → Nat
  | [] => 0
  | d :: r => uptoBulk d + uptoBulkAll r
def uptoBulkEntries {H : Type} : List (Lit × DataW H) → Nat
  | [] => 0
  | x :: r => uptoBulkEntry x + uptoBulkEntries r
def uptoBulkEntry {H : Type} : Lit × DataW H → Nat
  | (.string bytes, d) => bytes.length + uptoBulk d + 1
  | (_, d) => uptoBulk d + 1
 end
def uptoSmall : (H : Type) → List (DataW H) → Bool := fun _ ds => decide (uptoBulkAll ds ≤ 1048576)
def OpenSpec.upto (s : _root_.Go.ChangeSpec) : _root_.Go.OpenSpec := { _root_.Go.OpenSpec.ofChange s with cond := some uptoSmall }

/-- 'trothlaw13.KvLast', WHERE WHAT IT READS IS OF BULK AT MOST 1048576: true; the input reads as it did. -/
def kvLastUptoRow : OpenClaim := { program := "ytekebjcknhjceaa", sum := "f69f9f41805b29faca4d4a808f2483eacf3978a5ecfbaa5d80353d96d9e46414", func := "troth/trothlaw13.KvLast", spec := "kvLast", unfollowed := true, recurses := true, plainKeys := false, apart := false, narrowed := true }
def KvLastUptoSaid : Prop := kvLastUptoRow.holds Try.pinned (OpenSpec.upto kvLastSpec)

/-- 'trothlaw13.KvAlone', WHERE WHAT IT READS IS OF BULK AT MOST 1048576: true; the input reads as it did. -/
def kvAloneUptoRow : OpenClaim := { program := "ytekebjcknhjceaa", sum := "f69f9f41805b29faca4d4a808f2483eacf3978a5ecfbaa5d80353d96d9e46414", func := "troth/trothlaw13.KvAlone", spec := "kvAlone", unfollowed := true, recurses := true, plainKeys := false, apart := false, narrowed := true }
def KvAloneUptoSaid : Prop := kvAloneUptoRow.holds Try.pinned (OpenSpec.upto kvAloneSpec)

/-- 'trothlaw13.KvLives', WHERE WHAT IT READS IS OF BULK AT MOST 1048576: true; the input reads as it did. -/
def kvLivesUptoRow : OpenClaim := { program := "ytekebjcknhjceaa", sum := "f69f9f41805b29faca4d4a808f2483eacf3978a5ecfbaa5d80353d96d9e46414", func := "troth/trothlaw13.KvLives", spec := "kvLives", unfollowed := true, recurses := true, plainKeys := false, apart := false, narrowed := true }
def KvLivesUptoSaid : Prop := kvLivesUptoRow.holds Try.pinned (OpenSpec.upto kvLivesSpec)

/-- 'trothlaw13.KvNobody', WHERE WHAT IT READS IS OF BULK AT MOST 1048576: true; the input reads as it did. -/
def kvNobodyUptoRow : OpenClaim := { program := "ytekebjcknhjceaa", sum := "f69f9f41805b29faca4d4a808f2483eacf3978a5ecfbaa5d80353d96d9e46414", func := "troth/trothlaw13.KvNobody", spec := "kvNobody", unfollowed := true, recurses := true, plainKeys := false, apart := false, narrowed := true }
def KvNobodyUptoSaid : Prop := kvNobodyUptoRow.holds Try.pinned (OpenSpec.upto kvNobodySpec)

/-- 'trothlaw13.KvApart', WHERE WHAT IT READS IS OF BULK AT MOST 1048576: true; the input reads as it did. -/
def kvApartUptoRow : OpenClaim := { program := "ytekebjcknhjceaa", sum := "f69f9f41805b29faca4d4a808f2483eacf3978a5ecfbaa5d80353d96d9e46414", func := "troth/trothlaw13.KvApart", spec := "kvApart", unfollowed := true, recurses := true, plainKeys := false, apart := false, narrowed := true }
def KvApartUptoSaid : Prop := kvApartUptoRow.holds Try.pinned (OpenSpec.upto kvApartSpec)

/-- 'trothlaw13.KvAgain', WHERE WHAT IT READS IS OF BULK AT MOST 1048576: true; the input reads as it did. -/
def kvAgainUptoRow : OpenClaim := { program := "ytekebjcknhjceaa", sum := "f69f9f41805b29faca4d4a808f2483eacf3978a5ecfbaa5d80353d96d9e46414", func := "troth/trothlaw13.KvAgain", spec := "kvAgain", unfollowed := true, recurses := true, plainKeys := false, apart := false, narrowed := true }
def KvAgainUptoSaid : Prop := kvAgainUptoRow.holds Try.pinned (OpenSpec.upto kvAgainSpec)

/-- 'trothlaw13.KvKept', WHERE WHAT IT READS IS OF BULK AT MOST 1048576: true; the input reads as it did. -/
def kvKeptUptoRow : OpenClaim := { program := "ytekebjcknhjceaa", sum := "f69f9f41805b29faca4d4a808f2483eacf3978a5ecfbaa5d80353d96d9e46414", func := "troth/trothlaw13.KvKept", spec := "kvKept", unfollowed := true, recurses := true, plainKeys := false, apart := false, narrowed := true }
def KvKeptUptoSaid : Prop := kvKeptUptoRow.holds Try.pinned (OpenSpec.upto kvKeptSpec)

end Rows
end Go.Proofs.Ytekebjcknhjceaa

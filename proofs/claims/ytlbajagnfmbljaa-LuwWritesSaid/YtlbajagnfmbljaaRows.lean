/-
  No cell of these rows narrows 'for every input' (looked for: loops, veiled, ifaces, maps, wideKeys, modest, calm, conditions, laid).
  DERIVED. THE GIVEN ROWS OF THIS SEAT. 6 by the template 'for every input the law returns true; each argument reads behind the call as it read before'; 0 by the template 'total and deterministic' (their statements: YtlbajagnfmbljaaTotals.lean).
  GIVEN WITH THE SEED: the statements are not yours to turn. If you find one false, say at which input.
  Laid BY PROGRAM, IN A SANDBOX (cutbox-rows.mjs): the forced cells as the released guide's own fill.sh prints them over the translation 31f94e64deafe5a4… (all of the seat's roots in one cut). By AI agents, Wed Nov 11 2026. No macro, syntax, notation, axiom, sorry.
-/
import Derived.Test.YtlbajagnfmbljaaChecked
import GoSem.Claim
import GoSem.ClaimJoined
import GoSem.ClaimMapViews
import Derived.JoinedTies
import Derived.KernelRfl
namespace Go.Proofs.Ytlbajagnfmbljaa
/- THE CELL 'sum', in the pinned program and in every row, IS THE sha256 OF THE DUMP (.gsa) THAT YtlbajagnfmbljaaProg.lean LOADS. Nothing in Lean hashes anything: it is a label: what it is worth is what the hold of that sum in a sandbox is worth. -/
noncomputable def Try.pinned : Pinned := { name := "ytlbajagnfmbljaa", sum := "31f94e64deafe5a429e490fea2ae04bf5befb768b37d605e6e6240910a6f1bfb", checked := Try.checked }
namespace Rows
def none {H : Type} : Left H := { results := [], args := [] }

/-- 'trothlaw05.LuwWrites': WHATEVER THE INPUT: true; the input reads as it did. -/
def luwWritesSpec : ChangeSpec := { name := "luwWrites", fn := fun _ => fun
  | [d1, d2] => { results := [.lit (.bool true)], args := [d1, d2] }
  | _ => none }
def luwWritesRow : OpenClaim := { program := "ytlbajagnfmbljaa", sum := "31f94e64deafe5a429e490fea2ae04bf5befb768b37d605e6e6240910a6f1bfb", func := "troth/trothlaw05.LuwWrites", spec := "luwWrites", apart := false }
def LuwWritesSaid : Prop := luwWritesRow.holds Try.pinned (OpenSpec.ofChange luwWritesSpec)

/-- ITS FALSE NEIGHBOUR: 'it returns false'. Refute it at one input. -/
def luwWritesWrong : ChangeSpec := { name := "luwWrites", fn := fun _ => fun
  | [d1, d2] => { results := [.lit (.bool false)], args := [d1, d2] }
  | _ => none }
def LuwWritesWrongFalsely : Prop := luwWritesRow.holds Try.pinned (OpenSpec.ofChange luwWritesWrong)

/-- 'trothlaw05.LuwPrints': WHATEVER THE INPUT: true; the input reads as it did. -/
def luwPrintsSpec : ChangeSpec := { name := "luwPrints", fn := fun _ => fun
  | [d1, d2] => { results := [.lit (.bool true)], args := [d1, d2] }
  | _ => none }
def luwPrintsRow : OpenClaim := { program := "ytlbajagnfmbljaa", sum := "31f94e64deafe5a429e490fea2ae04bf5befb768b37d605e6e6240910a6f1bfb", func := "troth/trothlaw05.LuwPrints", spec := "luwPrints", recurses := true, apart := false }
def LuwPrintsSaid : Prop := luwPrintsRow.holds Try.pinned (OpenSpec.ofChange luwPrintsSpec)

/-- ITS FALSE NEIGHBOUR: 'it returns false'. Refute it at one input. -/
def luwPrintsWrong : ChangeSpec := { name := "luwPrints", fn := fun _ => fun
  | [d1, d2] => { results := [.lit (.bool false)], args := [d1, d2] }
  | _ => none }
def LuwPrintsWrongFalsely : Prop := luwPrintsRow.holds Try.pinned (OpenSpec.ofChange luwPrintsWrong)

/-- 'trothlaw05.LuwBack': WHATEVER THE INPUT: true; the input reads as it did. -/
def luwBackSpec : ChangeSpec := { name := "luwBack", fn := fun _ => fun
  | [d1, d2, d3] => { results := [.lit (.bool true)], args := [d1, d2, d3] }
  | _ => none }
def luwBackRow : OpenClaim := { program := "ytlbajagnfmbljaa", sum := "31f94e64deafe5a429e490fea2ae04bf5befb768b37d605e6e6240910a6f1bfb", func := "troth/trothlaw05.LuwBack", spec := "luwBack", apart := false }
def LuwBackSaid : Prop := luwBackRow.holds Try.pinned (OpenSpec.ofChange luwBackSpec)

/-- ITS FALSE NEIGHBOUR: 'it returns false'. Refute it at one input. -/
def luwBackWrong : ChangeSpec := { name := "luwBack", fn := fun _ => fun
  | [d1, d2, d3] => { results := [.lit (.bool false)], args := [d1, d2, d3] }
  | _ => none }
def LuwBackWrongFalsely : Prop := luwBackRow.holds Try.pinned (OpenSpec.ofChange luwBackWrong)

/-- 'trothlaw05.LuwTotal': WHATEVER THE INPUT: true; the input reads as it did. -/
def luwTotalSpec : ChangeSpec := { name := "luwTotal", fn := fun _ => fun
  | [d1, d2, d3] => { results := [.lit (.bool true)], args := [d1, d2, d3] }
  | _ => none }
def luwTotalRow : OpenClaim := { program := "ytlbajagnfmbljaa", sum := "31f94e64deafe5a429e490fea2ae04bf5befb768b37d605e6e6240910a6f1bfb", func := "troth/trothlaw05.LuwTotal", spec := "luwTotal", inPlace := ["internal/bytealg.Compare"], apart := false }
def LuwTotalSaid : Prop := luwTotalRow.holds Try.pinned (OpenSpec.ofChange luwTotalSpec)

/-- ITS FALSE NEIGHBOUR: 'it returns false'. Refute it at one input. -/
def luwTotalWrong : ChangeSpec := { name := "luwTotal", fn := fun _ => fun
  | [d1, d2, d3] => { results := [.lit (.bool false)], args := [d1, d2, d3] }
  | _ => none }
def LuwTotalWrongFalsely : Prop := luwTotalRow.holds Try.pinned (OpenSpec.ofChange luwTotalWrong)

/-- 'trothlaw05.LuwOrders': WHATEVER THE INPUT: true; the input reads as it did. -/
def luwOrdersSpec : ChangeSpec := { name := "luwOrders", fn := fun _ => fun
  | [d1, d2] => { results := [.lit (.bool true)], args := [d1, d2] }
  | _ => none }
def luwOrdersRow : OpenClaim := { program := "ytlbajagnfmbljaa", sum := "31f94e64deafe5a429e490fea2ae04bf5befb768b37d605e6e6240910a6f1bfb", func := "troth/trothlaw05.LuwOrders", spec := "luwOrders", inPlace := ["internal/bytealg.Compare"], apart := false }
def LuwOrdersSaid : Prop := luwOrdersRow.holds Try.pinned (OpenSpec.ofChange luwOrdersSpec)

/-- ITS FALSE NEIGHBOUR: 'it returns false'. Refute it at one input. -/
def luwOrdersWrong : ChangeSpec := { name := "luwOrders", fn := fun _ => fun
  | [d1, d2] => { results := [.lit (.bool false)], args := [d1, d2] }
  | _ => none }
def LuwOrdersWrongFalsely : Prop := luwOrdersRow.holds Try.pinned (OpenSpec.ofChange luwOrdersWrong)

/-- 'trothlaw05.LuwNext': WHATEVER THE INPUT: true; the input reads as it did. -/
def luwNextSpec : ChangeSpec := { name := "luwNext", fn := fun _ => fun
  | [d1, d2] => { results := [.lit (.bool true)], args := [d1, d2] }
  | _ => none }
def luwNextRow : OpenClaim := { program := "ytlbajagnfmbljaa", sum := "31f94e64deafe5a429e490fea2ae04bf5befb768b37d605e6e6240910a6f1bfb", func := "troth/trothlaw05.LuwNext", spec := "luwNext", inPlace := ["internal/bytealg.Compare"], apart := false }
def LuwNextSaid : Prop := luwNextRow.holds Try.pinned (OpenSpec.ofChange luwNextSpec)

/-- ITS FALSE NEIGHBOUR: 'it returns false'. Refute it at one input. -/
def luwNextWrong : ChangeSpec := { name := "luwNext", fn := fun _ => fun
  | [d1, d2] => { results := [.lit (.bool false)], args := [d1, d2] }
  | _ => none }
def LuwNextWrongFalsely : Prop := luwNextRow.holds Try.pinned (OpenSpec.ofChange luwNextWrong)

/- THE SECOND FORM. 'bulk': how many values and letters a reading holds, each counted each time it is reached (what is shared counts as often as it is met; a slice's spare places count too). A statement '..UptoSaid' is the law's where the arguments, and the package variables that the reading takes, are together of bulk at most 1048576: NARROWER than '..Said'. Prove '..Said' where nothing that the law and all that it calls make is longer than what came in: it says more and counts as full. Else prove '..UptoSaid'. A law counts once. -/
mutual
def uptoBulk {H : Type} : DataW H → Nat
  | .lit (.string bytes) => bytes.length + 1
  | .lit _ => 1
  | .nil => 1
  | .ptr d => uptoBulk d + 1
  | .slice elems spare => uptoBulkAll elems + uptoBulkAll spare + 1
  | .agg parts => uptoBulkAll parts + 1
  | .iface _ d => uptoBulk d + 1
  | .map entries => uptoBulkEntries entries + 1
  | .held _ => 1
def uptoBulkAll {H : Type} : List (DataW H) → Nat
  | [] => 0
  | d :: r => uptoBulk d + uptoBulkAll r
def uptoBulkEntries {H : Type} : List (Lit × DataW H) → Nat
  | [] => 0
  | x :: r => uptoBulkEntry x + uptoBulkEntries r
def uptoBulkEntry {H : Type} : Lit × DataW H → Nat
  | (.string bytes, d) => bytes.length + uptoBulk d + 1
  | (_, d) => uptoBulk d + 1
 end
def uptoSmall : (H : Type) → List (DataW H) → Bool := fun _ ds => decide (uptoBulkAll ds ≤ 1048576)
def OpenSpec.upto (s : _root_.Go.ChangeSpec) : _root_.Go.OpenSpec := { _root_.Go.OpenSpec.ofChange s with cond := some uptoSmall }

/-- 'trothlaw05.LuwWrites', WHERE WHAT IT READS IS OF BULK AT MOST 1048576: true; the input reads as it did. -/
def luwWritesUptoRow : OpenClaim := { program := "ytlbajagnfmbljaa", sum := "31f94e64deafe5a429e490fea2ae04bf5befb768b37d605e6e6240910a6f1bfb", func := "troth/trothlaw05.LuwWrites", spec := "luwWrites", apart := false, narrowed := true }
def LuwWritesUptoSaid : Prop := luwWritesUptoRow.holds Try.pinned (OpenSpec.upto luwWritesSpec)

/-- 'trothlaw05.LuwPrints', WHERE WHAT IT READS IS OF BULK AT MOST 1048576: true; the input reads as it did. -/
def luwPrintsUptoRow : OpenClaim := { program := "ytlbajagnfmbljaa", sum := "31f94e64deafe5a429e490fea2ae04bf5befb768b37d605e6e6240910a6f1bfb", func := "troth/trothlaw05.LuwPrints", spec := "luwPrints", recurses := true, apart := false, narrowed := true }
def LuwPrintsUptoSaid : Prop := luwPrintsUptoRow.holds Try.pinned (OpenSpec.upto luwPrintsSpec)

/-- 'trothlaw05.LuwBack', WHERE WHAT IT READS IS OF BULK AT MOST 1048576: true; the input reads as it did. -/
def luwBackUptoRow : OpenClaim := { program := "ytlbajagnfmbljaa", sum := "31f94e64deafe5a429e490fea2ae04bf5befb768b37d605e6e6240910a6f1bfb", func := "troth/trothlaw05.LuwBack", spec := "luwBack", apart := false, narrowed := true }
def LuwBackUptoSaid : Prop := luwBackUptoRow.holds Try.pinned (OpenSpec.upto luwBackSpec)

/-- 'trothlaw05.LuwTotal', WHERE WHAT IT READS IS OF BULK AT MOST 1048576: true; the input reads as it did. -/
def luwTotalUptoRow : OpenClaim := { program := "ytlbajagnfmbljaa", sum := "31f94e64deafe5a429e490fea2ae04bf5befb768b37d605e6e6240910a6f1bfb", func := "troth/trothlaw05.LuwTotal", spec := "luwTotal", inPlace := ["internal/bytealg.Compare"], apart := false, narrowed := true }
def LuwTotalUptoSaid : Prop := luwTotalUptoRow.holds Try.pinned (OpenSpec.upto luwTotalSpec)

/-- 'trothlaw05.LuwOrders', WHERE WHAT IT READS IS OF BULK AT MOST 1048576: true; the input reads as it did. -/
def luwOrdersUptoRow : OpenClaim := { program := "ytlbajagnfmbljaa", sum := "31f94e64deafe5a429e490fea2ae04bf5befb768b37d605e6e6240910a6f1bfb", func := "troth/trothlaw05.LuwOrders", spec := "luwOrders", inPlace := ["internal/bytealg.Compare"], apart := false, narrowed := true }
def LuwOrdersUptoSaid : Prop := luwOrdersUptoRow.holds Try.pinned (OpenSpec.upto luwOrdersSpec)

/-- 'trothlaw05.LuwNext', WHERE WHAT IT READS IS OF BULK AT MOST 1048576: true; the input reads as it did. -/
def luwNextUptoRow : OpenClaim := { program := "ytlbajagnfmbljaa", sum := "31f94e64deafe5a429e490fea2ae04bf5befb768b37d605e6e6240910a6f1bfb", func := "troth/trothlaw05.LuwNext", spec := "luwNext", inPlace := ["internal/bytealg.Compare"], apart := false, narrowed := true }
def LuwNextUptoSaid : Prop := luwNextUptoRow.holds Try.pinned (OpenSpec.upto luwNextSpec)

end Rows
end Go.Proofs.Ytlbajagnfmbljaa

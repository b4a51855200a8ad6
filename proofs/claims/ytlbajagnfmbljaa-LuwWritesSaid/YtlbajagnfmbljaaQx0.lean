/- What the print of the translation gave for functions of this seat: for each a plain function and the proof that the call does what it says. -/
import Derived.Test.YtlbajagnfmbljaaProg
import Derived.Below
import Derived.Deep.Draws
import Derived.Deep.AppendLies
import Derived.Maps.AppendAt
import Derived.OwnWalk
import Derived.Laws.BytesArg
import Derived.Laws.MakeOwn
import Derived.Laws.OwnMore
import Derived.Deep.OwnRows
import Derived.Tactics
import Derived.Lib.ConvBytes
import Derived.Laws.Slices
import Derived.WalkKit
import Derived.KernelRfl
import Derived.RowKit3
import Derived.Deep.LoopGhost
import Derived.Deep.QuietTactic
import Derived.BigQuiet
import Derived.WideLaws
import Derived.Deep.DeepCutAuto
import Derived.Deep.CutBlock
import Derived.Deep.RegionHeld3
import Derived.Laws.Rows
import Derived.Lib.AppendStr
import Derived.ArgAppend
import Derived.Laws.IdiomCopy
import Derived.OrdersHeld
import Derived.Laws.BitsLemmas
import Derived.RowKit
import Derived.Test.YtlbajagnfmbljaaWWords
import Derived.Test.YtlbajagnfmbljaaWLast
import Derived.Test.YtlbajagnfmbljaaWTab
import Derived.Test.YtlbajagnfmbljaaWFour
import Derived.Test.YtlbajagnfmbljaaWQPut
import Derived.Test.YtlbajagnfmbljaaWApart
import Derived.Test.YtlbajagnfmbljaaWArr
import Derived.Test.YtlbajagnfmbljaaWZeros
import Derived.Test.YtlbajagnfmbljaaWFoot
import Derived.Test.YtlbajagnfmbljaaWKept
import Derived.Test.YtlbajagnfmbljaaWShare
import Derived.Test.YtlbajagnfmbljaaWN
import Derived.Test.YtlbajagnfmbljaaWFootNe
import Derived.Test.YtlbajagnfmbljaaWAt
import Derived.Test.YtlbajagnfmbljaaWEqStruct
import Derived.Test.YtlbajagnfmbljaaWRepsOne
import Derived.Test.YtlbajagnfmbljaaWInv
import Derived.Test.YtlbajagnfmbljaaWInvWords
import Derived.Test.YtlbajagnfmbljaaWGuard
import Derived.Test.YtlbajagnfmbljaaWNEv
import Derived.Test.YtlbajagnfmbljaaWMore
namespace Go.Proofs.Ytlbajagnfmbljaa.Q
open Go.RowKit Go.Proofs.YtlbajagnfmbljaaW.PrintWords Go.Proofs.YtlbajagnfmbljaaW.PrintLast Go.Proofs.YtlbajagnfmbljaaW.PrintMore
attribute [local go_sem] max2_int min2_int max_two min_two max_three min_three max_four min_four   -- for this text's walks alone
set_option linter.unusedVariables false
set_option linter.unusedSimpArgs false



def errW : Option Int → Value
  | none => .nilIface
  | some c => .iface 0 (.int .i64 c)
theorem errW_none : errW none = .nilIface := rfl
theorem errW_some (c : Int) : errW (some c) = .iface 0 (.int .i64 c) := rfl

theorem info5 : (Try.prog.info? 5).map (fun i => (i.zero, i.size, i.bytes)) = some (some (.int .u8 0), 1, 1) := by kernel_rfl
-- the values' own types

end Go.Proofs.Ytlbajagnfmbljaa.Q

/- What Go functions of the seat compute: each as a plain Lean function, and that its call answers just that. Written by a program of this session (wip/own_print.py). -/
import Derived.Test.YtamdfipmbpfhbaaProg
import Derived.Below
import Derived.Deep.Draws
import Derived.Deep.AppendLies
import Derived.Maps.AppendAt
import Derived.OwnWalk
import Derived.Laws.BytesArg
import Derived.Laws.MakeOwn
import Derived.Laws.OwnMore
import Derived.Deep.OwnRows
import Derived.Tactics
import Derived.Lib.ConvBytes
import Derived.Laws.Slices
import Derived.WalkKit
import Derived.KernelRfl
import Derived.RowKit3
import Derived.Deep.LoopGhost
import Derived.Deep.QuietTactic
import Derived.BigQuiet
import Derived.WideLaws
import Derived.Deep.DeepCutAuto
import Derived.Deep.CutBlock
import Derived.Deep.RegionHeld3
import Derived.Laws.Rows
import Derived.Lib.AppendStr
import Derived.ArgAppend
import Derived.Laws.IdiomCopy
import Derived.OrdersHeld
import Derived.Laws.BitsLemmas
import Derived.RowKit
import Derived.Test.YtamdfipmbpfhbaaWWords
import Derived.Test.YtamdfipmbpfhbaaWLast
import Derived.Test.YtamdfipmbpfhbaaWTab
import Derived.Test.YtamdfipmbpfhbaaWFour
import Derived.Test.YtamdfipmbpfhbaaWQPut
import Derived.Test.YtamdfipmbpfhbaaWApart
import Derived.Test.YtamdfipmbpfhbaaWArr
import Derived.Test.YtamdfipmbpfhbaaWZeros
import Derived.Test.YtamdfipmbpfhbaaWFoot
import Derived.Test.YtamdfipmbpfhbaaWKept
import Derived.Test.YtamdfipmbpfhbaaWShare
import Derived.Test.YtamdfipmbpfhbaaWN
import Derived.Test.YtamdfipmbpfhbaaWFootNe
import Derived.Test.YtamdfipmbpfhbaaWAt
import Derived.Test.YtamdfipmbpfhbaaWEqStruct
import Derived.Test.YtamdfipmbpfhbaaWRepsOne
import Derived.Test.YtamdfipmbpfhbaaWInv
import Derived.Test.YtamdfipmbpfhbaaWInvWords
import Derived.Test.YtamdfipmbpfhbaaWGuard
import Derived.Test.YtamdfipmbpfhbaaWNEv
import Derived.Test.YtamdfipmbpfhbaaWMore
namespace Go.Proofs.Ytamdfipmbpfhbaa.G
open Go.RowKit Go.Proofs.YtamdfipmbpfhbaaW.PrintWords Go.Proofs.YtamdfipmbpfhbaaW.PrintLast Go.Proofs.YtamdfipmbpfhbaaW.PrintMore
attribute [local go_sem] max2_int min2_int max_two min_two max_three min_three max_four min_four   -- for this text's walks alone
set_option linter.unusedVariables false
set_option linter.unusedSimpArgs false



def errW : Option Int → Value
  | none => .nilIface
  | some c => .iface 0 (.int .i64 c)
theorem errW_none : errW none = .nilIface := rfl
theorem errW_some (c : Int) : errW (some c) = .iface 0 (.int .i64 c) := rfl

theorem info3 : (Try.prog.info? 3).map (fun i => (i.zero, i.size, i.bytes)) = some (some (.int .i64 0), 1, 8) := by kernel_rfl
theorem info22 : (Try.prog.info? 22).map (fun i => (i.zero, i.size, i.bytes)) = some (some (.int .u64 0), 1, 8) := by kernel_rfl
-- the values' own types

end Go.Proofs.Ytamdfipmbpfhbaa.G

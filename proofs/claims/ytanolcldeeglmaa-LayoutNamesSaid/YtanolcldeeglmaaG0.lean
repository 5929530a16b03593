/- What Go functions of the seat compute: each as a plain Lean function, and that its call answers just that. Written by a program of this session (wip/own_print.py). -/
import Derived.Test.YtanolcldeeglmaaProg
import Derived.Below
import Derived.Deep.Draws
import Derived.Deep.AppendLies
import Derived.Maps.AppendAt
import Derived.OwnWalk
import Derived.Laws.BytesArg
import Derived.Laws.MakeOwn
import Derived.Laws.OwnMore
import Derived.Deep.OwnRows
import Derived.Tactics
import Derived.Lib.ConvBytes
import Derived.Laws.Slices
import Derived.WalkKit
import Derived.KernelRfl
import Derived.RowKit3
import Derived.Deep.LoopGhost
import Derived.Deep.QuietTactic
import Derived.BigQuiet
import Derived.WideLaws
import Derived.Deep.DeepCutAuto
import Derived.Deep.CutBlock
import Derived.Deep.RegionHeld3
import Derived.Laws.Rows
import Derived.Lib.AppendStr
import Derived.ArgAppend
import Derived.Laws.IdiomCopy
import Derived.OrdersHeld
import Derived.Laws.BitsLemmas
import Derived.RowKit
import Derived.Test.YtanolcldeeglmaaWWords
import Derived.Test.YtanolcldeeglmaaWLast
import Derived.Test.YtanolcldeeglmaaWTab
import Derived.Test.YtanolcldeeglmaaWFour
import Derived.Test.YtanolcldeeglmaaWQPut
import Derived.Test.YtanolcldeeglmaaWApart
import Derived.Test.YtanolcldeeglmaaWArr
import Derived.Test.YtanolcldeeglmaaWZeros
import Derived.Test.YtanolcldeeglmaaWFoot
import Derived.Test.YtanolcldeeglmaaWKept
import Derived.Test.YtanolcldeeglmaaWShare
import Derived.Test.YtanolcldeeglmaaWN
import Derived.Test.YtanolcldeeglmaaWFootNe
import Derived.Test.YtanolcldeeglmaaWAt
import Derived.Test.YtanolcldeeglmaaWEqStruct
import Derived.Test.YtanolcldeeglmaaWRepsOne
import Derived.Test.YtanolcldeeglmaaWInv
import Derived.Test.YtanolcldeeglmaaWInvWords
import Derived.Test.YtanolcldeeglmaaWGuard
import Derived.Test.YtanolcldeeglmaaWNEv
import Derived.Test.YtanolcldeeglmaaWMore
namespace Go.Proofs.Ytanolcldeeglmaa.G
open Go.RowKit Go.Proofs.YtanolcldeeglmaaW.PrintWords Go.Proofs.YtanolcldeeglmaaW.PrintLast Go.Proofs.YtanolcldeeglmaaW.PrintMore
attribute [local go_sem] max2_int min2_int max_two min_two max_three min_three max_four min_four   -- for this text's walks alone
set_option linter.unusedVariables false
set_option linter.unusedSimpArgs false



def errW : Option Int → Value
  | none => .nilIface
  | some c => .iface 0 (.int .i64 c)
theorem errW_none : errW none = .nilIface := rfl
theorem errW_some (c : Int) : errW (some c) = .iface 0 (.int .i64 c) := rfl

theorem info3 : (Try.prog.info? 3).map (fun i => (i.zero, i.size, i.bytes)) = some (some (.int .i64 0), 1, 8) := by kernel_rfl
-- the values' own types

end Go.Proofs.Ytanolcldeeglmaa.G

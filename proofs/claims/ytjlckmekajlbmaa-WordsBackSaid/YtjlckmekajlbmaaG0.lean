/- Go functions of the packages sum and words and of their references, each as a plain Lean function, and that its call returns what that one does, under the premises that stand in each theorem. Written by a program of this session: a changed copy of the kit's print. -/
import Derived.Test.YtjlckmekajlbmaaProg
import Derived.Below
import Derived.Deep.Draws
import Derived.Deep.AppendLies
import Derived.Maps.AppendAt
import Derived.OwnWalk
import Derived.Laws.BytesArg
import Derived.Laws.MakeOwn
import Derived.Laws.OwnMore
import Derived.Deep.OwnRows
import Derived.Tactics
import Derived.Lib.ConvBytes
import Derived.Laws.Slices
import Derived.WalkKit
import Derived.KernelRfl
import Derived.RowKit3
import Derived.Deep.LoopGhost
import Derived.Deep.QuietTactic
import Derived.BigQuiet
import Derived.WideLaws
import Derived.Deep.DeepCutAuto
import Derived.Deep.CutBlock
import Derived.Deep.RegionHeld3
import Derived.Laws.Rows
import Derived.Lib.AppendStr
import Derived.ArgAppend
import Derived.Laws.IdiomCopy
import Derived.OrdersHeld
import Derived.Laws.BitsLemmas
import Derived.RowKit
import Derived.Test.YtjlckmekajlbmaaWWords
import Derived.Test.YtjlckmekajlbmaaWLast
import Derived.Test.YtjlckmekajlbmaaWTab
import Derived.Test.YtjlckmekajlbmaaWFour
import Derived.Test.YtjlckmekajlbmaaWQPut
import Derived.Test.YtjlckmekajlbmaaWApart
import Derived.Test.YtjlckmekajlbmaaWArr
import Derived.Test.YtjlckmekajlbmaaWZeros
import Derived.Test.YtjlckmekajlbmaaWFoot
import Derived.Test.YtjlckmekajlbmaaWKept
import Derived.Test.YtjlckmekajlbmaaWShare
import Derived.Test.YtjlckmekajlbmaaWN
import Derived.Test.YtjlckmekajlbmaaWFootNe
import Derived.Test.YtjlckmekajlbmaaWAt
import Derived.Test.YtjlckmekajlbmaaWEqStruct
import Derived.Test.YtjlckmekajlbmaaWRepsOne
import Derived.Test.YtjlckmekajlbmaaWInv
import Derived.Test.YtjlckmekajlbmaaWInvWords
import Derived.Test.YtjlckmekajlbmaaWGuard
import Derived.Test.YtjlckmekajlbmaaWNEv
import Derived.Test.YtjlckmekajlbmaaWMore
namespace Go.Proofs.Ytjlckmekajlbmaa.G
open Go.RowKit Go.Proofs.YtjlckmekajlbmaaW.PrintWords Go.Proofs.YtjlckmekajlbmaaW.PrintLast Go.Proofs.YtjlckmekajlbmaaW.PrintMore
attribute [local go_sem] max2_int min2_int max_two min_two max_three min_three max_four min_four   -- for this text's walks alone
set_option linter.unusedVariables false
set_option linter.unusedSimpArgs false



def errW : Option Int → Value
  | none => .nilIface
  | some c => .iface 0 (.int .i64 c)
theorem errW_none : errW none = .nilIface := rfl
theorem errW_some (c : Int) : errW (some c) = .iface 0 (.int .i64 c) := rfl

theorem info4 : (Try.prog.info? 4).map (fun i => (i.zero, i.size, i.bytes)) = some (some (.bool false), 1, 1) := by kernel_rfl
theorem info5 : (Try.prog.info? 5).map (fun i => (i.zero, i.size, i.bytes)) = some (some (.int .u8 0), 1, 1) := by kernel_rfl
theorem info23 : (Try.prog.info? 23).map (fun i => (i.zero, i.size, i.bytes)) = some (some (.int .u16 0), 1, 2) := by kernel_rfl
-- the values' own types

end Go.Proofs.Ytjlckmekajlbmaa.G

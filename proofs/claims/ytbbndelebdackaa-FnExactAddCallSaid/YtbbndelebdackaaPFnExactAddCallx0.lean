-- by a program of this session: a changed copy of the print tool
import Derived.Test.YtbbndelebdackaaProg
import Derived.Below
import Derived.Deep.Draws
import Derived.Deep.AppendLies
import Derived.Maps.AppendAt
import Derived.OwnWalk
import Derived.Laws.BytesArg
import Derived.Laws.MakeOwn
import Derived.Laws.OwnMore
import Derived.Deep.OwnRows
import Derived.Tactics
import Derived.Lib.ConvBytes
import Derived.Laws.Slices
import Derived.WalkKit
import Derived.KernelRfl
import Derived.RowKit3
import Derived.Deep.LoopGhost
import Derived.Deep.QuietTactic
import Derived.BigQuiet
import Derived.WideLaws
import Derived.Deep.DeepCutAuto
import Derived.Deep.CutBlock
import Derived.Deep.RegionHeld3
import Derived.Laws.Rows
import Derived.Lib.AppendStr
import Derived.ArgAppend
import Derived.Laws.IdiomCopy
import Derived.OrdersHeld
import Derived.Laws.BitsLemmas
import Derived.RowKit
import Derived.Test.YtbbndelebdackaaWWords
import Derived.Test.YtbbndelebdackaaWLast
import Derived.Test.YtbbndelebdackaaWTab
import Derived.Test.YtbbndelebdackaaWFour
import Derived.Test.YtbbndelebdackaaWQPut
import Derived.Test.YtbbndelebdackaaWApart
import Derived.Test.YtbbndelebdackaaWArr
import Derived.Test.YtbbndelebdackaaWZeros
import Derived.Test.YtbbndelebdackaaWFoot
import Derived.Test.YtbbndelebdackaaWKept
import Derived.Test.YtbbndelebdackaaWShare
import Derived.Test.YtbbndelebdackaaWN
import Derived.Test.YtbbndelebdackaaWFootNe
import Derived.Test.YtbbndelebdackaaWAt
import Derived.Test.YtbbndelebdackaaWEqStruct
import Derived.Test.YtbbndelebdackaaWRepsOne
import Derived.Test.YtbbndelebdackaaWInv
import Derived.Test.YtbbndelebdackaaWInvWords
import Derived.Test.YtbbndelebdackaaWGuard
import Derived.Test.YtbbndelebdackaaWNEv
import Derived.Test.YtbbndelebdackaaWMore
namespace Go.Proofs.Ytbbndelebdackaa.PFnExactAddCall
open Go.RowKit Go.Proofs.YtbbndelebdackaaW.PrintWords Go.Proofs.YtbbndelebdackaaW.PrintLast Go.Proofs.YtbbndelebdackaaW.PrintMore
attribute [local go_sem] max2_int min2_int max_two min_two max_three min_three max_four min_four   -- for this text's walks alone
set_option linter.unusedVariables false
set_option linter.unusedSimpArgs false



def errW : Option Int → Value
  | none => .nilIface
  | some c => .iface 0 (.int .i64 c)
theorem errW_none : errW none = .nilIface := rfl
theorem errW_some (c : Int) : errW (some c) = .iface 0 (.int .i64 c) := rfl

theorem info2 : (Try.prog.info? 2).map (fun i => (i.zero, i.size, i.bytes)) = some (some (.int .i64 0), 1, 8) := by kernel_rfl
-- the values' own types

end Go.Proofs.Ytbbndelebdackaa.PFnExactAddCall

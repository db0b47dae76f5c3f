/- For each Go function named below: a Lean function with the same answers, and the proof that the call gives them. Conditions: those that each theorem states. (Written for this claim by a program of this session, wip/printx.py, over the kit's printer.) -/
import Derived.Test.YtaidgkmacpiajaaProg
import Derived.Below
import Derived.Deep.Draws
import Derived.Deep.AppendLies
import Derived.Maps.AppendAt
import Derived.OwnWalk
import Derived.Laws.BytesArg
import Derived.Laws.MakeOwn
import Derived.Laws.OwnMore
import Derived.Deep.OwnRows
import Derived.Tactics
import Derived.Lib.ConvBytes
import Derived.Laws.Slices
import Derived.WalkKit
import Derived.KernelRfl
import Derived.RowKit3
import Derived.Deep.LoopGhost
import Derived.Deep.QuietTactic
import Derived.BigQuiet
import Derived.WideLaws
import Derived.Deep.DeepCutAuto
import Derived.Deep.CutBlock
import Derived.Deep.RegionHeld3
import Derived.Laws.Rows
import Derived.Lib.AppendStr
import Derived.ArgAppend
import Derived.Laws.IdiomCopy
import Derived.OrdersHeld
import Derived.Laws.BitsLemmas
import Derived.RowKit
import Derived.Test.YtaidgkmacpiajaaWWords
import Derived.Test.YtaidgkmacpiajaaWLast
import Derived.Test.YtaidgkmacpiajaaWTab
import Derived.Test.YtaidgkmacpiajaaWFour
import Derived.Test.YtaidgkmacpiajaaWQPut
import Derived.Test.YtaidgkmacpiajaaWApart
import Derived.Test.YtaidgkmacpiajaaWArr
import Derived.Test.YtaidgkmacpiajaaWZeros
import Derived.Test.YtaidgkmacpiajaaWFoot
import Derived.Test.YtaidgkmacpiajaaWKept
import Derived.Test.YtaidgkmacpiajaaWShare
import Derived.Test.YtaidgkmacpiajaaWN
import Derived.Test.YtaidgkmacpiajaaWFootNe
import Derived.Test.YtaidgkmacpiajaaWAt
import Derived.Test.YtaidgkmacpiajaaWEqStruct
import Derived.Test.YtaidgkmacpiajaaWRepsOne
import Derived.Test.YtaidgkmacpiajaaWInv
import Derived.Test.YtaidgkmacpiajaaWInvWords
import Derived.Test.YtaidgkmacpiajaaWGuard
import Derived.Test.YtaidgkmacpiajaaWNEv
import Derived.Test.YtaidgkmacpiajaaWMore
namespace Go.Proofs.Ytaidgkmacpiajaa.PTagLow
open Go.RowKit Go.Proofs.YtaidgkmacpiajaaW.PrintWords Go.Proofs.YtaidgkmacpiajaaW.PrintLast Go.Proofs.YtaidgkmacpiajaaW.PrintMore
attribute [local go_sem] max2_int min2_int max_two min_two max_three min_three max_four min_four   -- for this text's walks alone
set_option linter.unusedVariables false
set_option linter.unusedSimpArgs false



def errW : Option Int → Value
  | none => .nilIface
  | some c => .iface 0 (.int .i64 c)
theorem errW_none : errW none = .nilIface := rfl
theorem errW_some (c : Int) : errW (some c) = .iface 0 (.int .i64 c) := rfl

-- the values' own types

end Go.Proofs.Ytaidgkmacpiajaa.PTagLow

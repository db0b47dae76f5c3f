/- For each Go function named below: a Lean function with the same answers, and the proof that the call gives them. Conditions: those that each theorem states. (Written for this claim by a program of this session, wip/printx.py, over the kit's printer.) -/
import Derived.Test.YtbbbggcokpffnaaProg
import Derived.Below
import Derived.Deep.Draws
import Derived.Deep.AppendLies
import Derived.Maps.AppendAt
import Derived.OwnWalk
import Derived.Laws.BytesArg
import Derived.Laws.MakeOwn
import Derived.Laws.OwnMore
import Derived.Deep.OwnRows
import Derived.Tactics
import Derived.Lib.ConvBytes
import Derived.Laws.Slices
import Derived.WalkKit
import Derived.KernelRfl
import Derived.RowKit3
import Derived.Deep.LoopGhost
import Derived.Deep.QuietTactic
import Derived.BigQuiet
import Derived.WideLaws
import Derived.Deep.DeepCutAuto
import Derived.Deep.CutBlock
import Derived.Deep.RegionHeld3
import Derived.Laws.Rows
import Derived.Lib.AppendStr
import Derived.ArgAppend
import Derived.Laws.IdiomCopy
import Derived.OrdersHeld
import Derived.Laws.BitsLemmas
import Derived.RowKit
import Derived.Test.YtbbbggcokpffnaaWWords
import Derived.Test.YtbbbggcokpffnaaWLast
import Derived.Test.YtbbbggcokpffnaaWTab
import Derived.Test.YtbbbggcokpffnaaWFour
import Derived.Test.YtbbbggcokpffnaaWQPut
import Derived.Test.YtbbbggcokpffnaaWApart
import Derived.Test.YtbbbggcokpffnaaWArr
import Derived.Test.YtbbbggcokpffnaaWZeros
import Derived.Test.YtbbbggcokpffnaaWFoot
import Derived.Test.YtbbbggcokpffnaaWKept
import Derived.Test.YtbbbggcokpffnaaWShare
import Derived.Test.YtbbbggcokpffnaaWN
import Derived.Test.YtbbbggcokpffnaaWFootNe
import Derived.Test.YtbbbggcokpffnaaWAt
import Derived.Test.YtbbbggcokpffnaaWEqStruct
import Derived.Test.YtbbbggcokpffnaaWRepsOne
import Derived.Test.YtbbbggcokpffnaaWInv
import Derived.Test.YtbbbggcokpffnaaWInvWords
import Derived.Test.YtbbbggcokpffnaaWGuard
import Derived.Test.YtbbbggcokpffnaaWNEv
import Derived.Test.YtbbbggcokpffnaaWMore
namespace Go.Proofs.Ytbbbggcokpffnaa.PShade
open Go.RowKit Go.Proofs.YtbbbggcokpffnaaW.PrintWords Go.Proofs.YtbbbggcokpffnaaW.PrintLast Go.Proofs.YtbbbggcokpffnaaW.PrintMore
attribute [local go_sem] max2_int min2_int max_two min_two max_three min_three max_four min_four   -- for this text's walks alone
set_option linter.unusedVariables false
set_option linter.unusedSimpArgs false



def errW : Option Int → Value
  | none => .nilIface
  | some c => .iface 0 (.int .i64 c)
theorem errW_none : errW none = .nilIface := rfl
theorem errW_some (c : Int) : errW (some c) = .iface 0 (.int .i64 c) := rfl

theorem info3 : (Try.prog.info? 3).map (fun i => (i.zero, i.size, i.bytes)) = some (some (.int .i64 0), 1, 8) := by kernel_rfl
theorem info5 : (Try.prog.info? 5).map (fun i => (i.zero, i.size, i.bytes)) = some (some (.int .u8 0), 1, 1) := by kernel_rfl
theorem info9 : (Try.prog.info? 9).map (fun i => (i.zero, i.size, i.bytes)) = some (some (.string ⟨#[]⟩), 1, 16) := by kernel_rfl
-- the values' own types

end Go.Proofs.Ytbbbggcokpffnaa.PShade

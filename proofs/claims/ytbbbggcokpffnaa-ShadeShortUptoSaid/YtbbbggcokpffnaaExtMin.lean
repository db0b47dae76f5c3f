/- What shade.Minutes and the reference's Minutes answer, for every number. Conditions: none. -/
import Derived.Test.YtbbbggcokpffnaaProg
import Derived.Test.YtbbbggcokpffnaaWWords
import Derived.Test.YtbbbggcokpffnaaWMore
import Derived.WalkKit
import Derived.KernelRfl
import Derived.Lib.Hide
set_option linter.unusedVariables false
set_option linter.unusedSimpArgs false
namespace Go.Proofs.Ytbbbggcokpffnaa.Ext
open Go.RowKit Go.Proofs.YtbbbggcokpffnaaW.PrintWords Go.Proofs.YtbbbggcokpffnaaW.PrintMore
attribute [local go_sem] max2_int min2_int

/-- The whole minutes of some seconds. -/
def minutesOf (a0 : Int) : Int := if a0 < 0 then 0 else if a0 < 3932160 then a0 / 60 else 65535
def shade_Minutes.f (a0 : Int) : Option Int := if a0 ≤ 9223372036854775807 then some (minutesOf a0) else none
def wharfref16_Minutes.f (a0 : Int) : Option Int := if a0 ≤ 9223372036854775807 then some (minutesOf a0) else none
theorem ret1 {k : IntKind} {a b : Int} (h : a = b) : Ending.returned (.int k a) = .returned (.int k b) := by rw [h]

set_option maxHeartbeats 400000 in
theorem shade_Minutes.calls (a0 : Int) (r : Int) (w : World) (h : shade_Minutes.f a0 = some r) :
    Calls Try.prog 15 #[.int .i64 a0] w fun e w' => e = .returned (.int .i64 r) ∧ Drawn0 w w' := by
  unfold shade_Minutes.f at h
  split at h
  case isFalse => cases h
  rename_i hb
  obtain rfl := Option.some.inj h
  clear h
  by_cases hn : a0 < 0
  · have HM := Lib.hid (show minutesOf a0 = 0 by unfold minutesOf; rw [if_pos hn])
    go_enter Try.func15, Try.ntmps15
    go_wp2
    all_goals (go_ret; exact ⟨ret1 (by rw [HM.out]), by repeat (first | exact Drawn0.refl _ | apply Drawn0.step)⟩)
  · have hn0 : 0 ≤ a0 := by omega
    by_cases hn2 : a0 < 3932160
    · have HM := Lib.hid (show minutesOf a0 = a0 / 60 by unfold minutesOf; rw [if_neg hn, if_pos hn2])
      go_enter Try.func15, Try.ntmps15
      go_wp2
      all_goals (go_ret; exact ⟨ret1 (by rw [HM.out]), by repeat (first | exact Drawn0.refl _ | apply Drawn0.step)⟩)
    · have HM := Lib.hid (show minutesOf a0 = 65535 by unfold minutesOf; rw [if_neg hn, if_neg hn2])
      go_enter Try.func15, Try.ntmps15
      go_wp2
      all_goals (go_ret; exact ⟨ret1 (by rw [HM.out]), by repeat (first | exact Drawn0.refl _ | apply Drawn0.step)⟩)

set_option maxHeartbeats 400000 in
theorem wharfref16_Minutes.calls (a0 : Int) (r : Int) (w : World) (h : wharfref16_Minutes.f a0 = some r) :
    Calls Try.prog 16 #[.int .i64 a0] w fun e w' => e = .returned (.int .i64 r) ∧ Drawn0 w w' := by
  unfold wharfref16_Minutes.f at h
  split at h
  case isFalse => cases h
  rename_i hb
  obtain rfl := Option.some.inj h
  clear h
  by_cases hn : a0 < 0
  · have HM := Lib.hid (show minutesOf a0 = 0 by unfold minutesOf; rw [if_pos hn])
    go_enter Try.func16, Try.ntmps16
    go_wp2
    all_goals (go_ret; exact ⟨ret1 (by rw [HM.out]), by repeat (first | exact Drawn0.refl _ | apply Drawn0.step)⟩)
  · have hn0 : 0 ≤ a0 := by omega
    by_cases hn2 : a0 < 3932160
    · have HM := Lib.hid (show minutesOf a0 = a0 / 60 by unfold minutesOf; rw [if_neg hn, if_pos hn2])
      go_enter Try.func16, Try.ntmps16
      go_wp2
      all_goals (go_ret; exact ⟨ret1 (by rw [HM.out]), by repeat (first | exact Drawn0.refl _ | apply Drawn0.step)⟩)
    · have HM := Lib.hid (show minutesOf a0 = 65535 by unfold minutesOf; rw [if_neg hn, if_neg hn2])
      go_enter Try.func16, Try.ntmps16
      go_wp2
      all_goals (go_ret; exact ⟨ret1 (by rw [HM.out]), by repeat (first | exact Drawn0.refl _ | apply Drawn0.step)⟩)

end Go.Proofs.Ytbbbggcokpffnaa.Ext

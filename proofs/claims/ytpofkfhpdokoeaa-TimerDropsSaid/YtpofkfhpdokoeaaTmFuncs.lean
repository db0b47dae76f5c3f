/- slices.IndexFunc, ContainsFunc and DeleteFunc over the timers, with the two predicates that timer.Timers hands them. -/
import Derived.Test.YtpofkfhpdokoeaaTmHeap2
import Derived.Lib.SliceRun
set_option linter.unusedVariables false
set_option linter.unusedSimpArgs false
namespace Go.Proofs.Ytpofkfhpdokoeaa.Tm
open Go.RowKit

def isKey (key : ByteArray) (a : Al) : Bool := a.key.toList == key.toList

set_option maxHeartbeats 1000000 in
theorem dropFn_calls (kb : Nat) (key : ByteArray) (a : Al) (w : World) (hk : w.cell? ⟨kb, 0, none⟩ = some (.string key)) :
    Calls Try.prog 20 #[encA a, .pointer (some ⟨kb, 0, none⟩)] w fun e w' => e = .returned (.bool (isKey key a)) ∧ Below w.heap.size w w' := by
  unfold encA
  have hlt := World.block_lt_of_cell? w _ hk
  have hb := (Below.refl w.heap.size w).alloc (Nat.le_refl _) (.cells #[.int .i64 a.at_, .int .i64 a.num, .string a.key] 52)
  have hk2 := (hb.cell (p := ⟨kb, 0, none⟩) hlt).trans hk
  go_enter Try.func20, Try.ntmps20
  go_wp2
  go_ret
  exact ⟨rfl, hb⟩

set_option maxHeartbeats 1000000 in
theorem hasFn_calls (kb : Nat) (key : ByteArray) (a : Al) (w : World) (hk : w.cell? ⟨kb, 0, none⟩ = some (.string key)) :
    Calls Try.prog 23 #[encA a, .pointer (some ⟨kb, 0, none⟩)] w fun e w' => e = .returned (.bool (isKey key a)) ∧ Below w.heap.size w w' := by
  unfold encA
  have hlt := World.block_lt_of_cell? w _ hk
  have hb := (Below.refl w.heap.size w).alloc (Nat.le_refl _) (.cells #[.int .i64 a.at_, .int .i64 a.num, .string a.key] 52)
  have hk2 := (hb.cell (p := ⟨kb, 0, none⟩) hlt).trans hk
  go_enter Try.func23, Try.ntmps23
  go_wp2
  go_ret
  exact ⟨rfl, hb⟩


end Go.Proofs.Ytpofkfhpdokoeaa.Tm

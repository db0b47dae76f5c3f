/- Package tag: mark, isLetter, isName. -/
import Derived.Test.YtaidgkmacpiajaaProg
import Derived.Test.YtaidgkmacpiajaaPlain
import Derived.Test.YtaidgkmacpiajaaTgPlain
import Derived.WalkKit
import Derived.KernelRfl
import Derived.Lib.Hide
set_option linter.unusedVariables false
set_option linter.unusedSimpArgs false
namespace Go.Proofs.Ytaidgkmacpiajaa.Tg
open Go.RowKit Go.Proofs.Ytaidgkmacpiajaa.Plain

set_option maxHeartbeats 1000000 in
theorem mark_calls (c : UInt8) (w : World) : Calls Try.prog 23 #[.int .u8 (c.toNat : Int)] w fun e w' => e = .returned (.string ⟨(markL c).toArray⟩) ∧ w' = w := by
  have hc := c.toNat_lt
  have H : ∀ k : Nat, (c.toNat : Int) = (k : Int) ↔ c.toNat = k := fun k => by omega
  have HR : Hid (∀ r : ByteArray, r = ⟨(markL c).toArray⟩ → r = ⟨(markL c).toArray⟩) := fun _ h => h
  generalize hr : (⟨(markL c).toArray⟩ : ByteArray) = r at *
  have HE := Lib.hid hr
  clear hr HR H
  go_enter Try.func23, Try.ntmps23
  go_wp2
  all_goals (go_ret; refine ⟨?_, rfl⟩; rw [← HE.out]; simp_all [markL])

end Go.Proofs.Ytaidgkmacpiajaa.Tg

/- Package tag's Quote, Put, isElem, Same in the printed texts' form. -/
import Derived.Test.YtaidgkmacpiajaaTgElem
import Derived.Test.YtaidgkmacpiajaaTgPutTop
import Derived.Test.YtaidgkmacpiajaaTgSame
set_option linter.unusedVariables false
namespace Go.Proofs.Ytaidgkmacpiajaa.Ext
open Go.RowKit Go.Proofs.Ytaidgkmacpiajaa.Plain Go.Proofs.Ytaidgkmacpiajaa.PTag Go.Proofs.YtaidgkmacpiajaaW.PrintWords Go.Proofs.Ytaidgkmacpiajaa.Tg

def tag_Quote.f (a0 : ByteArray) : Option ByteArray := if a0.size ≤ 17592186044416 then some ⟨(quoteL (bl a0)).toArray⟩ else none
theorem tag_Quote.calls (a0 : ByteArray) (r : ByteArray) (w : World) (h : tag_Quote.f a0 = some r) :
    Calls Try.prog 11 #[.string a0] w fun e w' => e = .returned (.string r) ∧ Below w.heap.size w w' := by
  unfold tag_Quote.f at h
  split at h
  · rename_i hs
    obtain rfl := Option.some.inj h
    exact Quote_calls a0 w hs
  · cases h

def tag_Put.f (a0_0 : ByteArray) (a0_1 : ByteArray) (l0_2 : List S51) (a0_3 : ByteArray) (l0_4 : List S25) (a1 : ByteArray) : Option ByteArray :=
  if (putT ⟨a0_0, a0_1, l0_2, a0_3, l0_4⟩ (bl a1)).length ≤ 17592186044416 then some ⟨(putT ⟨a0_0, a0_1, l0_2, a0_3, l0_4⟩ (bl a1)).toArray⟩ else none
theorem tag_Put.calls (a0_0 : ByteArray) (a0_1 : ByteArray) (A0_2 : Option Addr) (c0_2 : Nat) (l0_2 : List S51) (a0_3 : ByteArray) (A0_4 : Option Addr) (c0_4 : Nat) (l0_4 : List S25) (a1 : ByteArray) (r : ByteArray) (w : World) (hr0_2 : Kd.C k51 w A0_2 l0_2.length l0_2) (hc0_2 : l0_2.length ≤ c0_2) (hr0_4 : Kd.C k25 w A0_4 l0_4.length l0_4) (hc0_4 : l0_4.length ≤ c0_4) (h : tag_Put.f a0_0 a0_1 l0_2 a0_3 l0_4 a1 = some r) :
    Calls Try.prog 9 #[.agg #[.string a0_0, .string a0_1, .slice A0_2 l0_2.length c0_2, .string a0_3, .slice A0_4 l0_4.length c0_4], .string a1] w fun e w' => e = .returned (.string r) ∧ Below w.heap.size w w' := by
  unfold tag_Put.f at h
  split at h
  · rename_i hs
    obtain rfl := Option.some.inj h
    exact Put_calls ⟨a0_0, a0_1, l0_2, a0_3, l0_4⟩ a1 A0_2 c0_2 A0_4 c0_4 w hr0_2 hc0_2 hr0_4 hc0_4 hs
  · cases h

def tag_isElem.f (a0_0 : ByteArray) (a0_1 : ByteArray) (l0_2 : List S51) (a0_3 : ByteArray) (l0_4 : List S25) (a1 : Int) : Option Bool :=
  if wgt ⟨a0_0, a0_1, l0_2, a0_3, l0_4⟩ ≤ 1099511627776 ∧ 0 ≤ a1 ∧ a1 ≤ 1000 then some (isElemB a1.toNat ⟨a0_0, a0_1, l0_2, a0_3, l0_4⟩) else none
theorem tag_isElem.calls (a0_0 : ByteArray) (a0_1 : ByteArray) (A0_2 : Option Addr) (c0_2 : Nat) (l0_2 : List S51) (a0_3 : ByteArray) (A0_4 : Option Addr) (c0_4 : Nat) (l0_4 : List S25) (a1 : Int) (r : Bool) (w : World) (hr0_2 : Kd.C k51 w A0_2 l0_2.length l0_2) (hc0_2 : l0_2.length ≤ c0_2) (hr0_4 : Kd.C k25 w A0_4 l0_4.length l0_4) (hc0_4 : l0_4.length ≤ c0_4) (h : tag_isElem.f a0_0 a0_1 l0_2 a0_3 l0_4 a1 = some r) :
    Calls Try.prog 13 #[.agg #[.string a0_0, .string a0_1, .slice A0_2 l0_2.length c0_2, .string a0_3, .slice A0_4 l0_4.length c0_4], .int .i64 a1] w fun e w' => e = .returned (.bool r) ∧ Below w.heap.size w w' := by
  unfold tag_isElem.f at h
  split at h
  · rename_i hs
    obtain rfl := Option.some.inj h
    have := elem_calls a1.toNat (by omega) ⟨a0_0, a0_1, l0_2, a0_3, l0_4⟩ A0_2 c0_2 A0_4 c0_4 w hs.1 hr0_2 hc0_2 hr0_4 hc0_4
    rw [show ((a1.toNat : Nat) : Int) = a1 by omega] at this
    exact this
  · cases h

def tag_Same.f (a0_0 : ByteArray) (a0_1 : ByteArray) (l0_2 : List S51) (a0_3 : ByteArray) (l0_4 : List S25) (a1_0 : ByteArray) (a1_1 : ByteArray) (l1_2 : List S51) (a1_3 : ByteArray) (l1_4 : List S25) : Option Bool := some (sameB ⟨a0_0, a0_1, l0_2, a0_3, l0_4⟩ ⟨a1_0, a1_1, l1_2, a1_3, l1_4⟩)
theorem tag_Same.calls (a0_0 : ByteArray) (a0_1 : ByteArray) (A0_2 : Option Addr) (c0_2 : Nat) (l0_2 : List S51) (a0_3 : ByteArray) (A0_4 : Option Addr) (c0_4 : Nat) (l0_4 : List S25) (a1_0 : ByteArray) (a1_1 : ByteArray) (A1_2 : Option Addr) (c1_2 : Nat) (l1_2 : List S51) (a1_3 : ByteArray) (A1_4 : Option Addr) (c1_4 : Nat) (l1_4 : List S25) (r : Bool) (w : World) (hr0_2 : Kd.C k51 w A0_2 l0_2.length l0_2) (hc0_2 : l0_2.length ≤ c0_2) (hr0_4 : Kd.C k25 w A0_4 l0_4.length l0_4) (hc0_4 : l0_4.length ≤ c0_4) (hr1_2 : Kd.C k51 w A1_2 l1_2.length l1_2) (hc1_2 : l1_2.length ≤ c1_2) (hr1_4 : Kd.C k25 w A1_4 l1_4.length l1_4) (hc1_4 : l1_4.length ≤ c1_4) (h : tag_Same.f a0_0 a0_1 l0_2 a0_3 l0_4 a1_0 a1_1 l1_2 a1_3 l1_4 = some r) :
    Calls Try.prog 10 #[.agg #[.string a0_0, .string a0_1, .slice A0_2 l0_2.length c0_2, .string a0_3, .slice A0_4 l0_4.length c0_4], .agg #[.string a1_0, .string a1_1, .slice A1_2 l1_2.length c1_2, .string a1_3, .slice A1_4 l1_4.length c1_4]] w fun e w' => e = .returned (.bool r) ∧ Below w.heap.size w w' := by
  obtain rfl := Option.some.inj h
  exact same_calls _ ⟨a0_0, a0_1, l0_2, a0_3, l0_4⟩ ⟨a1_0, a1_1, l1_2, a1_3, l1_4⟩ A0_2 c0_2 A0_4 c0_4 A1_2 c1_2 A1_4 c1_4 w (Nat.le_refl _) hr0_2 hc0_2 hr0_4 hc0_4 hr1_2 hc1_2 hr1_4 hc1_4

end Go.Proofs.Ytaidgkmacpiajaa.Ext

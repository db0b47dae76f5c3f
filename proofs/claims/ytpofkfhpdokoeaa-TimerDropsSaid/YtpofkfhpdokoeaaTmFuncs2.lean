/- slices.IndexFunc, ContainsFunc over the timers. -/
import Derived.Test.YtpofkfhpdokoeaaTmFuncs
import Derived.Shelf.Abstract
set_option linter.unusedVariables false
set_option linter.unusedSimpArgs false
namespace Go.Proofs.Ytpofkfhpdokoeaa.Tm
open Go.RowKit

/-- What is known of a predicate over timers, from w on. -/
def Pred (fc kb : Nat) (key : ByteArray) (w : World) : Prop :=
  ∀ (W : World) (a : Al), Below w.heap.size w W → Calls Try.prog fc #[encA a, .pointer (some ⟨kb, 0, none⟩)] W fun e w' => e = .returned (.bool (isKey key a)) ∧ Below w.heap.size w w'

def idx (key : ByteArray) (hs : List Al) : Int := match hs.findIdx? (isKey key) with | some i => (i : Int) | none => -1

set_option maxHeartbeats 2000000 in
theorem Index_calls (fc kb : Nat) (key : ByteArray) (eg : ∀ args w, (callFunc fc args).run Try.prog w = .ok (.enter fc args) w) (v : Value) (B : Nat) (hs : List Al) (w : World) (hr : w.ownsRow B 52 3 v hs.length (cellsL hs)) (h1000 : hs.length ≤ 1000) (hp : Pred fc kb key w) :
    Calls Try.prog 26 #[v, .func (.func fc) #[] #[.pointer (some ⟨kb, 0, none⟩)]] w fun e w' => e = .returned (.int .i64 (idx key hs)) ∧ Below w.heap.size w w' := by
  obtain ⟨ao, cap, rfl⟩ : ∃ ao cap, v = .slice ao hs.length cap := by
    rcases hr.2 with ⟨rfl, h'⟩ | ⟨g, cap, cur, rfl, _⟩
    · exact ⟨none, 0, by rw [h']⟩
    · exact ⟨_, cap, rfl⟩
  have HR := Lib.hid hr
  have HP := Lib.hid hp
  clear hr hp
  go_enter Try.func26, Try.ntmps26
  go_wp2
  go_loopw [8] (fun x wr => ∃ k : Nat, k ≤ hs.length ∧ x = .int .i64 k ∧ Hid (Below w.heap.size w wr) ∧ Hid (∀ j, j < k → ∀ h : j < hs.length, isKey key hs[j] = false)) (fun x _ => hs.length - (intOf x).toNat)
  case atStart => exact ⟨0, Nat.zero_le _, rfl, Below.refl _ _, fun j hj => absurd hj (Nat.not_lt_zero _)⟩
  case round =>
    obtain ⟨k, hk, rfl, hb, hno⟩ := hrel
    by_cases hlt : k < hs.length
    · obtain ⟨g, rfl⟩ : ∃ g, ao = some ⟨g, 0, none⟩ := by
        rcases HR.out.2 with ⟨_, h'⟩ | ⟨g, c, cur, hv, _⟩
        · omega
        · cases hv; exact ⟨g, rfl⟩
      have hr2 : wr.ownsRow B 52 3 (.slice (some ⟨g, 0, none⟩) hs.length cap) hs.length (cellsL hs) :=
        HR.out.kept (row := none) ⟨hb.out.os, hb.out.tape, hb.out.output, hb.out.size, fun k hk _ => hb.out.block k hk⟩ (.inr (by simp [Value.ownBlock]))
      obtain ⟨a0, a1, a2⟩ := row_cells hr2 rfl k hlt
      have hcall := HP.out wr hs[k] hb.out
      unfold encA at hcall
      have HK := Lib.hid (show ∀ b, isKey key hs[k] = b → isKey key hs[k] = b from fun _ h => h)
      clear hr2
      cases hq : isKey key hs[k] with
      | true =>
        rw [hq] at hcall
        have HQ := Lib.hid hq
        have hcall := Lib.hid hcall
        clear hq
        go_wp2_with (go_at_fn fc; refine Calls.mono hcall.out ?_; rintro e w' ⟨rfl, hb'⟩)
        go_ret
        refine ⟨?_, hb'⟩
        unfold idx
        rw [show hs.findIdx? (isKey key) = some k from ?_]
        · rfl
        · rw [List.findIdx?_eq_some_iff_getElem]
          exact ⟨hlt, HQ.out, fun j hj => by rw [hno.out j hj (by omega)]; exact Bool.false_ne_true⟩
      | false =>
        rw [hq] at hcall
        have HQ := Lib.hid hq
        have hcall := Lib.hid hcall
        clear hq
        go_wp2_with (go_at_fn fc; refine Calls.mono hcall.out ?_; rintro e w' ⟨rfl, hb'⟩)
        refine ⟨⟨k + 1, by omega, by go_num, hb', ?_⟩, by simp [intOf]; omega⟩
        show ∀ j, j < k + 1 → _
        intro j hj h
        by_cases e : j = k
        · subst e; exact HQ.out
        · exact hno.out j (by omega) h
    · obtain rfl : k = hs.length := by omega
      go_wp2
      go_ret
      refine ⟨?_, hb.out⟩
      unfold idx
      rw [show hs.findIdx? (isKey key) = none from ?_]
      · rfl
      · rw [List.findIdx?_eq_none_iff]
        intro x hx
        obtain ⟨j, hj, rfl⟩ := List.getElem_of_mem hx
        exact hno.out j hj hj

theorem idx_any (key : ByteArray) (hs : List Al) : decide (0 ≤ idx key hs) = hs.any (isKey key) := by
  unfold idx
  cases h : hs.findIdx? (isKey key) with
  | none =>
    rw [List.findIdx?_eq_none_iff] at h
    simp only [show ¬ (0 ≤ (-1 : Int)) by omega, decide_false]
    symm
    rw [List.any_eq_false]
    intro x hx
    rw [h x hx]; exact Bool.false_ne_true
  | some k =>
    rw [List.findIdx?_eq_some_iff_getElem] at h
    obtain ⟨hk, hq, _⟩ := h
    simp only [show 0 ≤ (k : Int) by omega, decide_true]
    symm
    rw [List.any_eq_true]
    exact ⟨_, List.getElem_mem hk, hq⟩

set_option maxHeartbeats 1000000 in
theorem Contains_calls (fc kb : Nat) (key : ByteArray) (eg : ∀ args w, (callFunc fc args).run Try.prog w = .ok (.enter fc args) w) (v : Value) (B : Nat) (hs : List Al) (w : World) (hr : w.ownsRow B 52 3 v hs.length (cellsL hs)) (h1000 : hs.length ≤ 1000) (hp : Pred fc kb key w) :
    Calls Try.prog 22 #[v, .func (.func fc) #[] #[.pointer (some ⟨kb, 0, none⟩)]] w fun e w' => e = .returned (.bool (hs.any (isKey key))) ∧ Below w.heap.size w w' := by
  have HI := Lib.hid (Index_calls fc kb key eg v B hs w hr h1000 hp)
  rw [← idx_any]
  generalize idx key hs = k at *
  clear hr hp
  go_enter Try.func22, Try.ntmps22
  go_wp2_with (go_at_call 26; refine Calls.mono HI.out ?_; rintro e w' ⟨rfl, hb'⟩)
  go_ret
  exact ⟨rfl, hb'⟩

end Go.Proofs.Ytpofkfhpdokoeaa.Tm

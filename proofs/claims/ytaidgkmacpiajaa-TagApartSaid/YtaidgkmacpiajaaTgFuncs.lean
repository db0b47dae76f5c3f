/- slices.IndexFunc, ContainsFunc over elements. -/
import Derived.Test.YtaidgkmacpiajaaTgTree
import Derived.Shelf.Abstract
import Derived.Lib.Hide
import Derived.Outline
set_option linter.unusedVariables false
set_option linter.unusedSimpArgs false
namespace Go.Proofs.Ytaidgkmacpiajaa.Tg
open Go.RowKit Go.Proofs.Ytaidgkmacpiajaa.PTag Go.Proofs.YtaidgkmacpiajaaW.PrintWords

def idxB (p : S25 → Bool) (xs : List S25) : Int := match xs.findIdx? p with | some i => (i : Int) | none => -1

theorem idx_any (p : S25 → Bool) (hs : List S25) : decide (0 ≤ idxB p hs) = hs.any p := by
  unfold idxB
  cases h : hs.findIdx? p with
  | none =>
    rw [List.findIdx?_eq_none_iff] at h
    simp only [show ¬ (0 ≤ (-1 : Int)) by omega, decide_false]
    symm
    rw [List.any_eq_false]
    intro x hx
    rw [h x hx]; exact Bool.false_ne_true
  | some k =>
    rw [List.findIdx?_eq_some_iff_getElem] at h
    obtain ⟨hk, hq, _⟩ := h
    simp only [show 0 ≤ (k : Int) by omega, decide_true]
    symm
    rw [List.any_eq_true]
    exact ⟨_, List.getElem_mem hk, hq⟩

/-- What is known of a predicate over elements (a function value that holds 1 cells), from w on. -/
def Pred1 (fc kb0 : Nat) (p : S25 → Bool) (xs : List S25) (w : World) : Prop :=
  ∀ (W : World) (x : S25) (A2 : Option Addr) (c2 : Nat) (A4 : Option Addr) (c4 : Nat), x ∈ xs → Below w.heap.size w W → Kd.C k51 W A2 x.f2.length x.f2 → x.f2.length ≤ c2 → Kd.C k25 W A4 x.f4.length x.f4 → x.f4.length ≤ c4 →
    Calls Try.prog fc #[.agg #[.string x.f0, .string x.f1, .slice A2 x.f2.length c2, .string x.f3, .slice A4 x.f4.length c4], .pointer (some ⟨kb0, 0, none⟩)] W fun e w' => e = .returned (.bool (p x)) ∧ Below w.heap.size w w'

set_option maxHeartbeats 4000000 in
set_option maxRecDepth 1000000 in
theorem Index1_calls (fc kb0 : Nat) (p : S25 → Bool) (eg : ∀ args w, (callFunc fc args).run Try.prog w = .ok (.enter fc args) w) (A : Option Addr) (c : Nat) (xs : List S25) (w : World) (hC : Kd.C k25 w A xs.length xs) (hl : xs.length ≤ 1099511627776) (hp : Pred1 fc kb0 p xs w) :
    Calls Try.prog 30 #[.slice A xs.length c, .func (.func fc) #[] #[.pointer (some ⟨kb0, 0, none⟩)]] w fun e w' => e = .returned (.int .i64 (idxB p xs)) ∧ Below w.heap.size w w' := by
  have HC := Lib.hid hC
  have HP := Lib.hid hp
  clear hC hp
  go_enter Try.func30, Try.ntmps30
  go_wp2
  go_loopw [8] (fun x wr => ∃ k : Nat, k ≤ xs.length ∧ x = .int .i64 k ∧ Hid (Below w.heap.size w wr) ∧ Hid (∀ j, j < k → ∀ h : j < xs.length, p xs[j] = false)) (fun x _ => xs.length - (intOf x).toNat)
  case atStart => exact ⟨0, Nat.zero_le _, rfl, Below.refl _ _, fun j hj => absurd hj (Nat.not_lt_zero _)⟩
  case round =>
    obtain ⟨k, hk, rfl, hb, hno⟩ := hrel
    by_cases hlt : k < xs.length
    · have hCr := Kd.C_below HC.out hb.out
      obtain ⟨ad, B2, d2, B4, d4, hA, q0, q1, q2, q3, q4, l2, g2, l4, g4⟩ := at_T25 hCr (k : Int) (by omega) (by omega)
      have hrd : rd_T25 xs (k : Int) = xs[k] := by simp [rd_T25, hlt]
      rw [hrd] at q0 q1 q2 q3 q4 l2 g2 l4 g4
      subst hA
      simp only [Int.toNat_natCast] at q0 q1 q2 q3 q4
      have hcall := HP.out wr xs[k] B2 d2 B4 d4 (List.getElem_mem hlt) hb.out g2 l2 g4 l4
      clear hrd g2 g4 hCr
      cases hq : p xs[k] with
      | true =>
        rw [hq] at hcall
        have HQ := Lib.hid hq
        have HCALL := Lib.hid hcall
        clear hq hcall
        go_wp2_with (go_at_fn fc; refine Calls.mono HCALL.out ?_; rintro e w' ⟨rfl, hb'⟩)
        go_ret
        refine ⟨?_, hb'⟩
        unfold idxB
        rw [show xs.findIdx? p = some k from ?_]
        · rfl
        · rw [List.findIdx?_eq_some_iff_getElem]
          exact ⟨hlt, HQ.out, fun j hj => by rw [hno.out j hj (by omega)]; exact Bool.false_ne_true⟩
      | false =>
        rw [hq] at hcall
        have HQ := Lib.hid hq
        have HCALL := Lib.hid hcall
        clear hq hcall
        go_wp2_with (go_at_fn fc; refine Calls.mono HCALL.out ?_; rintro e w' ⟨rfl, hb'⟩)
        refine ⟨⟨k + 1, by omega, by go_num, hb', ?_⟩, by simp [intOf]; omega⟩
        show ∀ j, j < k + 1 → _
        intro j hj h
        by_cases e : j = k
        · subst e; exact HQ.out
        · exact hno.out j (by omega) h
    · obtain rfl : k = xs.length := by omega
      go_wp2
      go_ret
      refine ⟨?_, hb.out⟩
      unfold idxB
      rw [show xs.findIdx? p = none from ?_]
      · rfl
      · rw [List.findIdx?_eq_none_iff]
        intro x hx
        obtain ⟨j, hj, rfl⟩ := List.getElem_of_mem hx
        exact hno.out j hj hj

/-- What is known of a predicate over elements (a function value that holds 2 cells), from w on. -/
def Pred2 (fc kb0 kb1 : Nat) (p : S25 → Bool) (xs : List S25) (w : World) : Prop :=
  ∀ (W : World) (x : S25) (A2 : Option Addr) (c2 : Nat) (A4 : Option Addr) (c4 : Nat), x ∈ xs → Below w.heap.size w W → Kd.C k51 W A2 x.f2.length x.f2 → x.f2.length ≤ c2 → Kd.C k25 W A4 x.f4.length x.f4 → x.f4.length ≤ c4 →
    Calls Try.prog fc #[.agg #[.string x.f0, .string x.f1, .slice A2 x.f2.length c2, .string x.f3, .slice A4 x.f4.length c4], .pointer (some ⟨kb0, 0, none⟩), .pointer (some ⟨kb1, 0, none⟩)] W fun e w' => e = .returned (.bool (p x)) ∧ Below w.heap.size w w'

set_option maxHeartbeats 4000000 in
set_option maxRecDepth 1000000 in
theorem Index2_calls (fc kb0 kb1 : Nat) (p : S25 → Bool) (eg : ∀ args w, (callFunc fc args).run Try.prog w = .ok (.enter fc args) w) (A : Option Addr) (c : Nat) (xs : List S25) (w : World) (hC : Kd.C k25 w A xs.length xs) (hl : xs.length ≤ 1099511627776) (hp : Pred2 fc kb0 kb1 p xs w) :
    Calls Try.prog 30 #[.slice A xs.length c, .func (.func fc) #[] #[.pointer (some ⟨kb0, 0, none⟩), .pointer (some ⟨kb1, 0, none⟩)]] w fun e w' => e = .returned (.int .i64 (idxB p xs)) ∧ Below w.heap.size w w' := by
  have HC := Lib.hid hC
  have HP := Lib.hid hp
  clear hC hp
  go_enter Try.func30, Try.ntmps30
  go_wp2
  go_loopw [8] (fun x wr => ∃ k : Nat, k ≤ xs.length ∧ x = .int .i64 k ∧ Hid (Below w.heap.size w wr) ∧ Hid (∀ j, j < k → ∀ h : j < xs.length, p xs[j] = false)) (fun x _ => xs.length - (intOf x).toNat)
  case atStart => exact ⟨0, Nat.zero_le _, rfl, Below.refl _ _, fun j hj => absurd hj (Nat.not_lt_zero _)⟩
  case round =>
    obtain ⟨k, hk, rfl, hb, hno⟩ := hrel
    by_cases hlt : k < xs.length
    · have hCr := Kd.C_below HC.out hb.out
      obtain ⟨ad, B2, d2, B4, d4, hA, q0, q1, q2, q3, q4, l2, g2, l4, g4⟩ := at_T25 hCr (k : Int) (by omega) (by omega)
      have hrd : rd_T25 xs (k : Int) = xs[k] := by simp [rd_T25, hlt]
      rw [hrd] at q0 q1 q2 q3 q4 l2 g2 l4 g4
      subst hA
      simp only [Int.toNat_natCast] at q0 q1 q2 q3 q4
      have hcall := HP.out wr xs[k] B2 d2 B4 d4 (List.getElem_mem hlt) hb.out g2 l2 g4 l4
      clear hrd g2 g4 hCr
      cases hq : p xs[k] with
      | true =>
        rw [hq] at hcall
        have HQ := Lib.hid hq
        have HCALL := Lib.hid hcall
        clear hq hcall
        go_wp2_with (go_at_fn fc; refine Calls.mono HCALL.out ?_; rintro e w' ⟨rfl, hb'⟩)
        go_ret
        refine ⟨?_, hb'⟩
        unfold idxB
        rw [show xs.findIdx? p = some k from ?_]
        · rfl
        · rw [List.findIdx?_eq_some_iff_getElem]
          exact ⟨hlt, HQ.out, fun j hj => by rw [hno.out j hj (by omega)]; exact Bool.false_ne_true⟩
      | false =>
        rw [hq] at hcall
        have HQ := Lib.hid hq
        have HCALL := Lib.hid hcall
        clear hq hcall
        go_wp2_with (go_at_fn fc; refine Calls.mono HCALL.out ?_; rintro e w' ⟨rfl, hb'⟩)
        refine ⟨⟨k + 1, by omega, by go_num, hb', ?_⟩, by simp [intOf]; omega⟩
        show ∀ j, j < k + 1 → _
        intro j hj h
        by_cases e : j = k
        · subst e; exact HQ.out
        · exact hno.out j (by omega) h
    · obtain rfl : k = xs.length := by omega
      go_wp2
      go_ret
      refine ⟨?_, hb.out⟩
      unfold idxB
      rw [show xs.findIdx? p = none from ?_]
      · rfl
      · rw [List.findIdx?_eq_none_iff]
        intro x hx
        obtain ⟨j, hj, rfl⟩ := List.getElem_of_mem hx
        exact hno.out j hj hj

set_option maxHeartbeats 1000000 in
theorem Contains_calls (fc kb0 : Nat) (p : S25 → Bool) (eg : ∀ args w, (callFunc fc args).run Try.prog w = .ok (.enter fc args) w) (A : Option Addr) (c : Nat) (xs : List S25) (w : World) (hC : Kd.C k25 w A xs.length xs) (hl : xs.length ≤ 1099511627776) (hp : Pred1 fc kb0 p xs w) :
    Calls Try.prog 28 #[.slice A xs.length c, .func (.func fc) #[] #[.pointer (some ⟨kb0, 0, none⟩)]] w fun e w' => e = .returned (.bool (xs.any p)) ∧ Below w.heap.size w w' := by
  have HI := Lib.hid (Index1_calls fc kb0 p eg A c xs w hC hl hp)
  rw [← idx_any]
  generalize idxB p xs = k at *
  clear hC hp
  go_enter Try.func28, Try.ntmps28
  go_wp2_with (go_at_call 30; refine Calls.mono HI.out ?_; rintro e w' ⟨rfl, hb'⟩)
  go_ret
  exact ⟨rfl, hb'⟩

end Go.Proofs.Ytaidgkmacpiajaa.Tg

/- The plain statement of ShadeBits: who is invisible is not there; who is there shows one of five; other bits have no part. Conditions: the numbers are 64-bit ones. -/
import Derived.Test.YtbbbggcokpffnaaShadeShow
import Derived.Test.YtbbbggcokpffnaaPShadex7
namespace Go.Proofs.Ytbbbggcokpffnaa.Pure
open Go.RowKit Go.Proofs.Ytbbbggcokpffnaa.PShade Go.Proofs.YtbbbggcokpffnaaW.PrintWords Go.Proofs.YtbbbggcokpffnaaW.PrintLast

theorem showOf_more (n m : Nat) : showOf (n + 512 * m) = showOf n := by
  unfold showOf
  rw [show (n + 512 * m) / 256 % 2 = n / 256 % 2 by omega, show (n + 512 * m) / 2 % 2 = n / 2 % 2 by omega, show (n + 512 * m) / 16 % 2 = n / 16 % 2 by omega,
    show (n + 512 * m) / 4 % 2 = n / 4 % 2 by omega, show (n + 512 * m) % 2 = n % 2 by omega, show (n + 512 * m) / 32 % 2 = n / 32 % 2 by omega]

theorem showOf_out (n : Nat) (h : n < 256) : showOf (n + 256) = (⟨#[]⟩, false) := by
  unfold showOf
  rw [if_pos (by omega)]

theorem showOf_there (n : Nat) (h : n < 512) : (showOf n).2 = decide (n < 256) := by
  unfold showOf
  by_cases h1 : n < 256
  · rw [if_neg (by omega)]
    repeat' split
    all_goals simp [h1]
  · rw [if_pos (by omega)]
    simp [h1]

theorem showOf_six (n : Nat) : showOf n = (⟨#[]⟩, false) ∨ showOf n = (⟨#[]⟩, true) ∨ showOf n = (⟨#[100, 110, 100]⟩, true) ∨ showOf n = (⟨#[120, 97]⟩, true) ∨ showOf n = (⟨#[97, 119, 97, 121]⟩, true) ∨ showOf n = (⟨#[99, 104, 97, 116]⟩, true) := by
  unfold showOf
  repeat' split
  all_goals simp

theorem j1_true (n : Nat) : wharflaw16_ShadeBits.j1 21 (showOf n).1 (showOf n).2 false = some true := by
  have hl := live_true
  have e : ∀ x6 x5, wharflaw16_ShadeBits.j1 21 x5 x6 false = wharflaw16_ShadeBits.j1 (20 + 1) x5 x6 false := fun _ _ => rfl
  rcases showOf_six n with h | h | h | h | h | h
  all_goals
    rw [h, e]
    simp only [wharflaw16_ShadeBits.j1, hl]
    decide +kernel

theorem ShadeBits : wharflaw16_ShadeBits.Pure := by
  intro a0 a1 h0 h1
  refine ⟨22, ?_⟩
  have w0 := wf_i64 h0
  have w1 := wf_i64 h1
  have hlive : wharflaw16_ShadeBits.j0 22 a0 a1 true = some true := by
    have hl := live_ge 1
    simp only [wharflaw16_ShadeBits.j0, if_true]
    rw [show (21 : Nat) = 20 + 1 from rfl, hl]
    rfl
  unfold wharflaw16_ShadeBits.f
  by_cases c1 : a0 < 0
  · rw [if_pos c1, hlive]
  rw [if_neg c1]
  by_cases c2 : a0 > 511
  · rw [if_pos c2, hlive]
  rw [if_neg c2]
  by_cases c3 : a1 < 0
  · rw [if_pos c3, hlive]
  rw [if_neg c3]
  by_cases c4 : a1 > 1048576
  · rw [decide_eq_true c4, hlive]
  rw [decide_eq_false c4]
  obtain ⟨n, rfl⟩ := Int.eq_ofNat_of_zero_le (by omega : 0 ≤ a0)
  obtain ⟨m, rfl⟩ := Int.eq_ofNat_of_zero_le (by omega : 0 ≤ a1)
  simp only [wharflaw16_ShadeBits.j0]
  rw [if_neg (by decide)]
  have e1 : wrap64 ((n : Int) + (wrap64 (512 * (m : Int)))) = ((n + 512 * m : Nat) : Int) := by
    rw [show wrap64 (512 * (m : Int)) = 512 * (m : Int) by unfold wrap64; omega]
    unfold wrap64; omega
  have e2 : wrap64 ((wrap64 ((wrap64 ((wrap64 (Int.tdiv (n : Int) 512)) * 512)) + (Int.tmod (n : Int) 256))) + 256) = ((n % 256 + 256 : Nat) : Int) := by
    have t1 : Int.tdiv (n : Int) 512 = 0 := by rw [Int.tdiv_eq_ediv_of_nonneg (by omega)]; omega
    have t2 : Int.tmod (n : Int) 256 = ((n % 256 : Nat) : Int) := by rw [Int.tmod_eq_emod_of_nonneg (by omega)]; omega
    rw [t1, t2]
    unfold wrap64; omega
  have s1 := show_p 20 n (by omega)
  have s2 := show_p 20 (n + 512 * m) (by omega)
  have s3 := show_p 20 (n % 256 + 256) (by omega)
  rw [show (20 + 1 : Nat) = 21 from rfl] at s1 s2 s3
  rw [e1, e2, s1, s2, s3, showOf_more, showOf_out _ (by omega)]
  simp only [Option.bind_some, if_true]
  have ht := showOf_there n (by omega)
  have e5 : ((showOf n).2 != (decide ((n : Int) < 256))) = false := by rw [ht]; simp; omega
  rw [e5]
  rw [j1_true n]
  simp

end Go.Proofs.Ytbbbggcokpffnaa.Pure

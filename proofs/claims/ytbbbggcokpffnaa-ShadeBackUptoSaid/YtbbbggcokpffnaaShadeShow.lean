/- The plain laws of what a status shows: the program's answer and the reference's are one function of the status' bits. Conditions: the numbers are 64-bit ones. -/
import Derived.Test.YtbbbggcokpffnaaPShadex2
namespace Go.Proofs.Ytbbbggcokpffnaa.Pure
open Go.RowKit Go.Proofs.Ytbbbggcokpffnaa.PShade Go.Proofs.YtbbbggcokpffnaaW.PrintWords Go.Proofs.YtbbbggcokpffnaaW.PrintLast

theorem live_true : wharflaw16_live.f 20 = some true := by decide +kernel

theorem live_ge (d : Nat) : wharflaw16_live.f (20 + d) = some true := by
  induction d with
  | zero => exact live_true
  | succ d ih => exact wharflaw16_live.mono (20 + d) _ ih

/-- What a presence shows. -/
def showOf (n : Nat) : ByteArray × Bool :=
  if n / 256 % 2 = 1 then (⟨#[]⟩, false)
  else if n / 2 % 2 = 1 ∨ n / 16 % 2 = 1 then (⟨#[100, 110, 100]⟩, true)
  else if n / 4 % 2 = 1 then (⟨#[120, 97]⟩, true)
  else if n % 2 = 1 then (⟨#[97, 119, 97, 121]⟩, true)
  else if n / 32 % 2 = 1 then (⟨#[99, 104, 97, 116]⟩, true)
  else (⟨#[]⟩, true)

theorem and_bit (n i : Nat) : (n &&& 2 ^ i = 0) ↔ ¬ (n / 2 ^ i % 2 = 1) := by
  have hb : n.testBit i = decide (n / 2 ^ i % 2 = 1) := Nat.testBit_eq_decide_div_mod_eq
  constructor
  · intro h hc
    have := congrArg (fun x => Nat.testBit x i) h
    simp only [Nat.testBit_and, Nat.testBit_two_pow, hb, decide_eq_true hc] at this
    simp at this
  · intro h
    apply Nat.eq_of_testBit_eq
    intro j
    simp only [Nat.testBit_and, Nat.testBit_two_pow, Nat.zero_testBit]
    by_cases e : i = j
    · subst e; simp [hb, h]
    · simp [e]

theorem bits_is (n m : Nat) (hn : n < 9223372036854775808) (hm : m < 9223372036854775808) : Go.bits .and .i64 (n : Int) (m : Int) = ((n &&& m : Nat) : Int) :=
  (bits_nat .i64 63 (by decide) (fun x h0 h1 => by rw [IntKind.wrap_i64]; omega) n m hn hm).1

theorem bit_p (n i m : Nat) (z : Int) (hz : z = (m : Int)) (e : m = 2 ^ i) (hn : n < 9223372036854775808) (hm : m < 9223372036854775808) : (Go.bits .and .i64 (n : Int) z = 0) ↔ ¬ (n / m % 2 = 1) := by
  rw [hz, bits_is n m hn hm, e, ← and_bit]
  omega

theorem bit_18 (n : Nat) (hn : n < 9223372036854775808) : (Go.bits .and .i64 (n : Int) 18 = 0) ↔ ¬ (n / 2 % 2 = 1 ∨ n / 16 % 2 = 1) := by
  have h2 := and_bit n 1
  have h16 := and_bit n 4
  rw [show (18 : Int) = ((18 : Nat) : Int) from rfl, bits_is n 18 hn (by decide), show (18 : Nat) = 2 ||| 16 from rfl, Nat.and_or_distrib_left]
  have e : ∀ a b : Nat, (((a ||| b : Nat) : Int) = 0) ↔ a = 0 ∧ b = 0 := by
    intro a b
    rw [show ((((a ||| b : Nat) : Int) = 0) ↔ (a ||| b) = 0) by omega]
    exact Nat.or_eq_zero_iff
  rw [e, show (2 : Nat) = 2 ^ 1 from rfl, show (16 : Nat) = 2 ^ 4 from rfl, h2, h16]
  simp

theorem show_p (k n : Nat) (hn : n < 9223372036854775808) : shade_Show.f (k + 1) (n : Int) = some (showOf n) := by
  have b256 := bit_p n 8 256 256 rfl rfl hn (by decide)
  have b4 := bit_p n 2 4 4 rfl rfl hn (by decide)
  have b1 := bit_p n 0 1 1 rfl rfl hn (by decide)
  have b32 := bit_p n 5 32 32 rfl rfl hn (by decide)
  have b18 := bit_18 n hn
  simp only [Nat.div_one] at b1
  unfold shade_Show.f showOf
  rw [if_neg (by omega)]
  simp only [shade_Show.j0]
  by_cases h : n / 256 % 2 = 1
  · rw [if_pos (by simpa using fun e => (b256.1 e) h), if_pos h]
  · rw [if_neg (by simpa using b256.2 h), if_neg h]
    by_cases h1 : n / 2 % 2 = 1 ∨ n / 16 % 2 = 1
    · rw [if_neg (fun e => b18.1 e h1), if_pos h1]
    · rw [if_pos (b18.2 h1), if_neg h1]
      by_cases h2 : n / 4 % 2 = 1
      · rw [if_neg (fun e => b4.1 e h2), if_pos h2]
      · rw [if_pos (b4.2 h2), if_neg h2]
        by_cases h3 : n % 2 = 1
        · rw [if_neg (fun e => b1.1 e h3), if_pos h3]
        · rw [if_pos (b1.2 h3), if_neg h3]
          by_cases h4 : n / 32 % 2 = 1
          · rw [if_neg (fun e => b32.1 e h4), if_pos h4]
          · rw [if_pos (b32.2 h4), if_neg h4]

theorem show_neg (k : Nat) (a : Int) (h : a < 0) : shade_Show.f (k + 1) a = some (⟨#[]⟩, false) := by
  unfold shade_Show.f
  rw [if_pos h]
  rfl

theorem rbit (n m : Nat) (hm : 0 < m) (hn : n < 9223372036854775808) : wharfref16_bit.f (n : Int) (m : Int) = some (decide (n / m % 2 = 1)) := by
  unfold wharfref16_bit.f
  rw [if_neg (by omega)]
  have h1 : Int.tdiv (n : Int) (m : Int) = ((n / m : Nat) : Int) := by rw [Int.tdiv_eq_ediv_of_nonneg (by omega)]; rfl
  have h2 : n / m ≤ n := Nat.div_le_self n m
  generalize n / m = q at *
  rw [h1, show wrap64 (q : Int) = (q : Int) by unfold wrap64; omega]
  rw [Int.tmod_eq_emod_of_nonneg (by omega)]
  congr 1
  rw [Bool.eq_iff_iff]
  simp
  omega

theorem rshow_p (k n : Nat) (hn : n < 9223372036854775808) : wharfref16_Show.f (k + 1) (n : Int) = some (showOf n) := by
  have r256 : wharfref16_bit.f (n : Int) 256 = _ := rbit n 256 (by decide) hn
  have r2 : wharfref16_bit.f (n : Int) 2 = _ := rbit n 2 (by decide) hn
  have r16 : wharfref16_bit.f (n : Int) 16 = _ := rbit n 16 (by decide) hn
  have r4 : wharfref16_bit.f (n : Int) 4 = _ := rbit n 4 (by decide) hn
  have r1 : wharfref16_bit.f (n : Int) 1 = _ := rbit n 1 (by decide) hn
  have r32 : wharfref16_bit.f (n : Int) 32 = _ := rbit n 32 (by decide) hn
  simp only [Nat.div_one] at r1
  unfold wharfref16_Show.f showOf
  rw [if_neg (by omega)]
  simp only [wharfref16_Show.j0, r256, r2, r16, r4, r1, r32, Option.bind_some]
  by_cases h : n / 256 % 2 = 1
  · simp [h]
  · by_cases h1 : n / 2 % 2 = 1
    · simp [h, h1]
    · by_cases h1' : n / 16 % 2 = 1
      · simp [h, h1, h1']
      · by_cases h2 : n / 4 % 2 = 1
        · simp [h, h1, h1', h2]
        · by_cases h3 : n % 2 = 1
          · simp [h, h1, h1', h2, h3]
          · by_cases h4 : n / 32 % 2 = 1
            · simp [h, h1, h1', h2, h3, h4]
            · simp [h, h1, h1', h2, h3, h4]

theorem rshow_neg (k : Nat) (a : Int) (h : a < 0) : wharfref16_Show.f (k + 1) a = some (⟨#[]⟩, false) := by
  unfold wharfref16_Show.f
  rw [if_pos h]

theorem status_same (s : ByteArray) : wharfref16_Status.f s = shade_Status.f s := rfl
theorem status_some (s : ByteArray) : ∃ r, shade_Status.f s = some r ∧ (r = 0 ∨ r = 1 ∨ r = 2 ∨ r = 4 ∨ r = 32) := by
  unfold shade_Status.f
  repeat' split
  all_goals exact ⟨_, rfl, by omega⟩

theorem wf_i64 {n : Int} (h : (Lit.int .i64 n).wf = true) : -9223372036854775808 ≤ n ∧ n ≤ 9223372036854775807 := by
  simp only [Lit.wf, Bool.and_eq_true, decide_eq_true_eq] at h
  exact h

end Go.Proofs.Ytbbbggcokpffnaa.Pure

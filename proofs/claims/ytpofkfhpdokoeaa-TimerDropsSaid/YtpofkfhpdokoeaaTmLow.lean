/- What the heap's own methods of timer.alarms do: Len, Less, Swap; and package cmp's Compare and Or. -/
import Derived.Test.YtpofkfhpdokoeaaTmMem
import Derived.WalkLawsBesides
import Derived.StillTailTactics
import Derived.RegionTactic
import Derived.BigRegion
import Derived.ChangeAlike
import Derived.Lib.Hide
set_option linter.unusedVariables false
set_option linter.unusedSimpArgs false
namespace Go.Proofs.Ytpofkfhpdokoeaa.Tm
open Go.RowKit

theorem isNaN_calls (x : Int) (w : World) : Calls Try.prog 48 #[.int .i64 x] w fun e w' => e = .returned (.bool false) ∧ w' = w := by
  go_enter Try.func48, Try.ntmps48
  go_wp2
  go_ret
  simp

def cmpI (x y : Int) : Int := if x < y then -1 else if y < x then 1 else 0

set_option maxHeartbeats 1000000 in
theorem Compare_calls (x y : Int) (w : World) : Calls Try.prog 47 #[.int .i64 x, .int .i64 y] w fun e w' => e = .returned (.int .i64 (cmpI x y)) ∧ w' = w := by
  go_enter Try.func47, Try.ntmps47
  go_wp2_with (go_at_call 48; refine (isNaN_calls _ _).mono ?_; rintro e w' ⟨rfl, rfl⟩)
  · go_ret
    refine ⟨?_, rfl⟩
    simp_all [cmpI]
  · go_ret
    refine ⟨?_, rfl⟩
    unfold cmpI
    rw [if_neg (by omega), if_pos (by omega)]
    rfl
  · go_ret
    refine ⟨?_, rfl⟩
    unfold cmpI
    rw [if_neg (by omega), if_neg (by omega)]
    rfl

def orI (x y : Int) : Int := if x = 0 then y else x

set_option maxHeartbeats 1000000 in
theorem Or_calls (g : Nat) (x y : Int) (w : World) (hx : w.cell? ⟨g, 0, none⟩ = some (.int .i64 x)) (hy : w.cell? ⟨g, 1, none⟩ = some (.int .i64 y)) : Calls Try.prog 46 #[.slice (some ⟨g, 0, none⟩) 2 2] w fun e w' => e = .returned (.int .i64 (orI x y)) ∧ w' = w := by
  go_enter Try.func46, Try.ntmps46
  go_wp2
  go_loopw [8] (fun i wr => ∃ k : Nat, k ≤ 2 ∧ i = .int .i64 k ∧ (k ≠ 0 → Hid (x = 0)) ∧ (k = 2 → Hid (y = 0)) ∧ wr = w) (fun i _ => 2 - (intOf i).toNat)
  case atStart => exact ⟨0, by omega, rfl, fun h => absurd rfl h, fun h => by omega, rfl⟩
  case round =>
    obtain ⟨k, hk, rfl, h1, h2, rfl⟩ := hrel
    match k, hk with
    | 0, _ =>
      clear h1 h2
      by_cases h : x = 0
      · have hb : (x == 0) = true := by simp [h]
        have hh := Lib.hid h
        clear h
        go_wp2
        exact ⟨⟨1, by omega, rfl, fun _ => hh, fun h => by omega, trivial⟩, by simp [intOf]⟩
      · have hb : (x == 0) = false := by simp [h]
        have hh := Lib.hid h
        clear h
        go_wp2
        go_ret
        unfold orI
        rw [if_neg hh.out]
        exact ⟨rfl, rfl⟩
    | 1, _ =>
      have hx0 := h1 (by omega)
      clear h1 h2
      by_cases h : y = 0
      · have hb : (y == 0) = true := by simp [h]
        have hh := Lib.hid h
        clear h
        go_wp2
        exact ⟨⟨2, by omega, rfl, fun _ => hx0, fun _ => hh, trivial⟩, by simp [intOf]⟩
      · have hb : (y == 0) = false := by simp [h]
        have hh := Lib.hid h
        clear h
        go_wp2
        go_ret
        unfold orI
        rw [if_pos hx0.out]
        exact ⟨rfl, rfl⟩
    | 2, _ =>
      have hx0 := h1 (by omega)
      have hy0 := h2 rfl
      clear h1 h2
      go_wp2
      go_ret
      unfold orI
      rw [if_pos hx0.out, hy0.out]
      exact ⟨rfl, rfl⟩

theorem cmp_less (a b : Al) : decide (orI (cmpI a.at_ b.at_) (cmpI a.num b.num) < 0) = less a b := by
  unfold orI cmpI less
  by_cases h1 : a.at_ < b.at_
  · simp [h1]
  · by_cases h2 : b.at_ < a.at_
    · have : ¬ a.at_ = b.at_ := by omega
      simp [h1, h2, this]
    · have : a.at_ = b.at_ := by omega
      simp [h1, h2, this]
      split
      · simp_all
      · split <;> simp_all

set_option maxHeartbeats 1000000 in
theorem Less_calls (g n cap : Nat) (i j : Nat) (a b : Al) (w : World) (hi : i < n) (hj : j < n) (hn : n ≤ 1000)
    (a0 : w.cell? ⟨g, i * 3, none⟩ = some (.int .i64 a.at_)) (a1 : w.cell? ⟨g, i * 3 + 1, none⟩ = some (.int .i64 a.num))
    (b0 : w.cell? ⟨g, j * 3, none⟩ = some (.int .i64 b.at_)) (b1 : w.cell? ⟨g, j * 3 + 1, none⟩ = some (.int .i64 b.num)) :
    Calls Try.prog 44 #[.slice (some ⟨g, 0, none⟩) n cap, .int .i64 i, .int .i64 j] w fun e w' => e = .returned (.bool (less a b)) ∧ Below w.heap.size w w' := by
  go_enter Try.func44, Try.ntmps44
  go_wp2
  refine wp_region_still_tail 22 (by kernel_rfl) (by kernel_rfl) ?_
  simp only [List.take_succ_cons, List.take_zero, List.drop_succ_cons, List.drop_zero]
  repeat (first | still_step | still_call (Compare_calls _ _ _))
  try refine wpStill_nil ?_
  change wpList _ _ _ _ _ w.drew
  have hb2 := (Below.refl w.heap.size w).drew
  generalize w.drew = w2 at hb2
  clear a0 a1 b0 b1
  have hor := Or_calls w2.heap.size (cmpI a.at_ b.at_) (cmpI a.num b.num) (w2.alloc (.cells #[.int .i64 (cmpI a.at_ b.at_), .int .i64 (cmpI a.num b.num)] 3)) (cell_two_new w2 _ _ _ 0 _ rfl) (cell_two_new w2 _ _ _ 1 _ rfl)
  go_wp2_with (go_at_call 46; refine hor.mono ?_; rintro e w' ⟨rfl, rfl⟩)
  go_ret
  refine ⟨?_, hb2.alloc hb2.size _⟩
  rw [← cmp_less]
  rfl

theorem aLen_calls (a : Option Addr) (n cap : Nat) (w : World) : Calls Try.prog 43 #[.slice a n cap] w fun e w' => e = .returned (.int .i64 n) ∧ w' = w := by
  go_enter Try.func43, Try.ntmps43
  go_wp2
  go_ret
  exact ⟨rfl, rfl⟩

set_option maxHeartbeats 1000000 in
theorem Swap_calls (g n cap : Nat) (i j : Nat) (a b : Al) (w : World) (hi : i < n) (hj : j < n) (hn : n ≤ 1000)
    (a0 : w.cell? ⟨g, i * 3, none⟩ = some (.int .i64 a.at_)) (a1 : w.cell? ⟨g, i * 3 + 1, none⟩ = some (.int .i64 a.num)) (a2 : w.cell? ⟨g, i * 3 + 2, none⟩ = some (.string a.key))
    (b0 : w.cell? ⟨g, j * 3, none⟩ = some (.int .i64 b.at_)) (b1 : w.cell? ⟨g, j * 3 + 1, none⟩ = some (.int .i64 b.num)) (b2 : w.cell? ⟨g, j * 3 + 2, none⟩ = some (.string b.key)) (fz : ∀ o, w.frozen? ⟨g, o, none⟩ = false) :
    Calls Try.prog 45 #[.slice (some ⟨g, 0, none⟩) n cap, .int .i64 i, .int .i64 j] w fun e w' => e = .returned (.tuple #[]) ∧ ∃ q, w' = (((((((w.setCell ⟨g, i * 3, none⟩ (.int .i64 b.at_)).setCell ⟨g, i * 3 + 1, none⟩ (.int .i64 b.num)).setCell ⟨g, i * 3 + 2, none⟩ (.string b.key)).setCell ⟨g, j * 3, none⟩ (.int .i64 a.at_)).setCell ⟨g, j * 3 + 1, none⟩ (.int .i64 a.num)).setCell ⟨g, j * 3 + 2, none⟩ (.string a.key))).drewN q := by
  go_enter Try.func45, Try.ntmps45
  have f0 := fz (i * 3)
  have f1 := fz (i * 3 + 1)
  have f2 := fz (i * 3 + 2)
  have k0 := fz (j * 3)
  have k1 := fz (j * 3 + 1)
  have k2 := fz (j * 3 + 2)
  clear fz
  have hs : ∀ (o : Nat) (v : Value), w.cell? ⟨g, o, none⟩ = some v → ∃ v', (((w.setCell ⟨g, i * 3, none⟩ (.int .i64 b.at_)).setCell ⟨g, i * 3 + 1, none⟩ (.int .i64 b.num)).setCell ⟨g, i * 3 + 2, none⟩ (.string b.key)).cell? ⟨g, o, none⟩ = some v' := fun o v h => by
    obtain ⟨v1, h1⟩ := cell?_setCell_some (w := w) (p := ⟨g, i * 3, none⟩) (x := .int .i64 b.at_) (q := ⟨g, o, none⟩) (v := v) h
    obtain ⟨v2, h2⟩ := cell?_setCell_some (p := ⟨g, i * 3 + 1, none⟩) (x := .int .i64 b.num) h1
    exact cell?_setCell_some (p := ⟨g, i * 3 + 2, none⟩) (x := .string b.key) h2
  obtain ⟨x0, e0⟩ := hs _ _ b0
  obtain ⟨x1, e1⟩ := hs _ _ b1
  obtain ⟨x2, e2⟩ := hs _ _ b2
  clear hs
  go_wp2
  go_region
  go_end0
  exact ⟨rfl, 1, rfl⟩

end Go.Proofs.Ytpofkfhpdokoeaa.Tm

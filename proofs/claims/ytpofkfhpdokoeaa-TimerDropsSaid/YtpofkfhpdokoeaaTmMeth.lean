/- timer.Timers: New, Len, Next, Has; and what they answer at nil. -/
import Derived.Test.YtpofkfhpdokoeaaTmDel
set_option linter.unusedVariables false
set_option linter.unusedSimpArgs false
namespace Go.Proofs.Ytpofkfhpdokoeaa.Tm
open Go.RowKit

def P (p : Nat) : Value := .pointer (some ⟨p, 0, none⟩)

theorem num_calls (x : Int) (w : World) : Calls Try.prog 10 #[.int .i64 x] w fun e w' => e = .returned (.int .i64 x) ∧ w' = w := by
  go_enter Try.func10, Try.ntmps10
  go_wp2
  go_ret
  exact ⟨rfl, rfl⟩

theorem New_calls (w : World) : Calls Try.prog 8 #[] w fun e w' => e = .returned (P w.heap.size) ∧ TM w' w.heap.size w.heap.size [] 0 ∧ Below w.heap.size w w' := by
  unfold P
  have hb := (Below.refl w.heap.size w).alloc (Nat.le_refl _) (.cells #[.slice none 0 0, .int .i64 0] 48)
  have ht : TM (w.alloc (.cells #[.slice none 0 0, .int .i64 0] 48)) w.heap.size w.heap.size [] 0 := ⟨.slice none 0 0, Nat.le_refl _, heap_alloc_new w _, World.ownsRow_nil _ _ _ _⟩
  go_enter Try.func8, Try.ntmps8
  go_wp2
  go_ret
  exact ⟨rfl, ht, hb⟩

theorem Len_calls (B p : Nat) (hs : List Al) (last : Int) (w : World) (h : TM w B p hs last) : Calls Try.prog 13 #[P p] w fun e w' => e = .returned (.int .i64 hs.length) ∧ w' = w := by
  unfold P
  obtain ⟨a, cap, hc⟩ := h.cell
  clear h
  go_enter Try.func13, Try.ntmps13
  go_wp2
  go_ret
  exact ⟨rfl, rfl⟩

theorem Len_nil (w : World) : Calls Try.prog 13 #[.pointer none] w fun e w' => e = .returned (.int .i64 0) ∧ w' = w := by
  go_enter Try.func13, Try.ntmps13
  go_wp2
  go_ret
  exact ⟨rfl, rfl⟩

def nextV (hs : List Al) : Value := match hs[0]? with | some a => .tuple #[.int .i64 a.at_, .bool true] | none => .tuple #[.int .i64 0, .bool false]

theorem Next_calls (B p : Nat) (hs : List Al) (last : Int) (w : World) (h : TM w B p hs last) (h1000 : hs.length ≤ 1000) : Calls Try.prog 12 #[P p] w fun e w' => e = .returned (nextV hs) ∧ w' = w := by
  have HL := Lib.hid (Len_calls B p hs last w h)
  unfold P at *
  cases hs with
  | nil =>
    rw [show nextV [] = .tuple #[.int .i64 0, .bool false] from rfl]
    clear h
    go_enter Try.func12, Try.ntmps12
    go_wp2_with (go_at_call 13; refine Calls.mono HL.out ?_; rintro e w' ⟨rfl, rfl⟩)
    go_ret2
    exact ⟨rfl, rfl⟩
  | cons a t =>
    obtain ⟨g, cap, hA⟩ := h.at (by simp)
    have p0 := (cell_p0 hA.hp).1
    obtain ⟨a0, q1, q2⟩ := row_cells hA.hr rfl 0 (by simp)
    rw [show nextV (a :: t) = .tuple #[.int .i64 a.at_, .bool true] from rfl]
    simp only [List.getElem_cons_zero, Nat.zero_mul, List.length_cons] at a0 p0 HL h1000
    clear hA h q1 q2
    generalize t.length = n at *
    go_enter Try.func12, Try.ntmps12
    go_wp2_with (go_at_call 13; refine Calls.mono HL.out ?_; rintro e w' ⟨rfl, rfl⟩)
    go_ret2
    exact ⟨rfl, rfl⟩

theorem Next_nil (w : World) : Calls Try.prog 12 #[.pointer none] w fun e w' => e = .returned (.tuple #[.int .i64 0, .bool false]) ∧ w' = w := by
  go_enter Try.func12, Try.ntmps12
  go_wp2_with (go_at_call 13; refine Calls.mono (Len_nil _) ?_; rintro e w' ⟨rfl, rfl⟩)
  go_ret2
  exact ⟨rfl, rfl⟩

set_option maxHeartbeats 1000000 in
theorem Has_nil (key : ByteArray) (w : World) : Calls Try.prog 15 #[.pointer none, .string key] w fun e w' => e = .returned (.bool false) ∧ Below w.heap.size w w' := by
  have hb := (Below.refl w.heap.size w).alloc (Nat.le_refl _) (.cells #[.string key] 9)
  go_enter Try.func15, Try.ntmps15
  go_wp2
  go_ret
  exact ⟨rfl, hb⟩

theorem cell_key (w : World) (key : ByteArray) : (w.alloc (.cells #[.string key] 9)).cell? ⟨w.heap.size, 0, none⟩ = some (.string key) := by
  unfold World.cell?
  rw [show (⟨w.heap.size, 0, none⟩ : Addr).block = w.heap.size from rfl, heap_alloc_new]
  rfl

set_option maxHeartbeats 1000000 in
theorem Has_calls (key : ByteArray) (B p : Nat) (hs : List Al) (last : Int) (w : World) (h : TM w B p hs last) (h1000 : hs.length ≤ 1000) : Calls Try.prog 15 #[P p, .string key] w fun e w' => e = .returned (.bool (hs.any (isKey key))) ∧ Below w.heap.size w w' := by
  unfold P
  have hb := (Below.refl w.heap.size w).alloc (Nat.le_refl _) (.cells #[.string key] 9)
  obtain ⟨h1, _⟩ := h.below hb
  obtain ⟨v, hB, hp, hr⟩ := h1
  have hk := cell_key w key
  have hc := Contains_calls 23 w.heap.size key (enters_of Try.func23 (by kernel_rfl) rfl) v B hs _ hr h1000 (fun W a hb2 => by
    have hlt := World.block_lt_of_cell? _ _ hk
    exact (hasFn_calls w.heap.size key a W ((hb2.cell (p := ⟨w.heap.size, 0, none⟩) hlt).trans hk)).mono fun e w' ⟨h1, h2⟩ => ⟨h1, hb2.trans (h2.mono hb2.size)⟩)
  have p0 := (cell_p0 hp).1
  have HB := Lib.hid hb
  have HC := Lib.hid hc
  clear hb hp hr hc hk h
  go_enter Try.func15, Try.ntmps15
  go_wp2_with (go_at_call 22; refine Calls.mono HC.out ?_; rintro e w' ⟨rfl, hb'⟩)
  go_ret
  exact ⟨rfl, HB.out.trans (hb'.mono HB.out.size)⟩

set_option maxHeartbeats 1000000 in
theorem Drop_nil (key : ByteArray) (w : World) : Calls Try.prog 14 #[.pointer none, .string key] w fun e w' => e = .returned (.int .i64 0) ∧ Below w.heap.size w w' := by
  have hb := (Below.refl w.heap.size w).alloc (Nat.le_refl _) (.cells #[.string key] 9)
  go_enter Try.func14, Try.ntmps14
  go_wp2
  go_ret
  exact ⟨rfl, hb⟩

end Go.Proofs.Ytpofkfhpdokoeaa.Tm

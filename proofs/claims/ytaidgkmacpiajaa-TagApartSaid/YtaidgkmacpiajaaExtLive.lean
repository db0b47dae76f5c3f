/- wharflaw05.live is true, wherever it is asked. -/
import Derived.Test.YtaidgkmacpiajaaPTagx1
import Derived.Test.YtaidgkmacpiajaaTgKid
import Derived.Test.YtaidgkmacpiajaaTgNew
set_option linter.unusedVariables false
set_option linter.unusedSimpArgs false
namespace Go.Proofs.Ytaidgkmacpiajaa.Tg
open Go.RowKit Go.Proofs.Ytaidgkmacpiajaa.PTag Go.Proofs.YtaidgkmacpiajaaW.PrintWords

def Ka : S25 := ⟨⟨#[97]⟩, ⟨#[107]⟩, [], ⟨#[60]⟩, []⟩
def Ea : S25 := ⟨⟨#[97]⟩, ⟨#[98]⟩, [⟨⟨#[99]⟩, ⟨#[100, 39]⟩⟩], ⟨#[]⟩, [Ka]⟩

theorem ka_row {w : World} {g : Nat} (h : w.heap[g]? = some (.cells #[.string ⟨#[97]⟩, .string ⟨#[107]⟩, .slice none 0 0, .string ⟨#[60]⟩, .slice none 0 0] 25 (0, 0))) : Kd.C k25 w (some ⟨g, 0, none⟩) 1 [Ka] := by
  refine ⟨rfl, by omega, fun _ => ⟨_, rfl, fun j p hj => ?_⟩⟩
  match j, hj with
  | 0, hj =>
    obtain rfl : p = Ka := by simpa using hj.symm
    refine ⟨[.string ⟨#[97]⟩, .string ⟨#[107]⟩, .slice none 0 0, .string ⟨#[60]⟩, .slice none 0 0], rfl, k25_mk w Ka (A2 := none) (c2 := 0) (Nat.le_refl _) ⟨rfl, by simp [Ka], fun h => by simp [Ka] at h⟩ (A4 := none) (c4 := 0) (Nat.le_refl _) ⟨rfl, by simp [Ka], fun h => by simp [Ka] at h⟩, fun i u hi => ?_⟩
    have e : (⟨g, 0, none⟩ : Addr).add (0 * k25.sz + i) = ⟨g, i, none⟩ := by rw [Nat.zero_mul, Nat.zero_add]; unfold Addr.add; split <;> simp_all
    rw [e, Lib.cell_of_heap h]
    simpa using hi

theorem ca_row {w : World} {g : Nat} (h0 : w.cell? ⟨g, 0, none⟩ = some (.string ⟨#[99]⟩)) (h1 : w.cell? ⟨g, 1, none⟩ = some (.string ⟨#[100, 39]⟩)) : Kd.C k51 w (some ⟨g, 0, none⟩) 1 [⟨⟨#[99]⟩, ⟨#[100, 39]⟩⟩] := by
  refine ⟨rfl, by omega, fun _ => ⟨_, rfl, fun j p hj => ?_⟩⟩
  match j, hj with
  | 0, hj =>
    obtain rfl : p = ⟨⟨#[99]⟩, ⟨#[100, 39]⟩⟩ := by simpa using hj.symm
    refine ⟨[.string ⟨#[99]⟩, .string ⟨#[100, 39]⟩], rfl, k51_mk w _, fun i u hi => ?_⟩
    have e : (⟨g, 0, none⟩ : Addr).add (0 * k51.sz + i) = ⟨g, i, none⟩ := by rw [Nat.zero_mul, Nat.zero_add]; unfold Addr.add; split <;> simp_all
    rw [e]
    match i, hi with
    | 0, hi => rw [h0]; simpa using hi
    | 1, hi => rw [h1]; simpa using hi

theorem put_live : putT Ea (bl ⟨#[]⟩) = [60, 98, 32, 120, 109, 108, 110, 115, 61, 39, 97, 39, 32, 99, 61, 39, 100, 38, 97, 112, 111, 115, 59, 39, 62, 60, 107, 62, 38, 108, 116, 59, 60, 47, 107, 62, 60, 47, 98, 62] := by decide +kernel
theorem check_live : tag_Check.f Ea.f0 Ea.f1 Ea.f2 Ea.f3 Ea.f4 = some 0 := by decide +kernel
theorem check_zero : tag_Check.f ⟨#[]⟩ ⟨#[]⟩ [] ⟨#[]⟩ [] = some 50 := by decide +kernel
theorem attr_c : tag_Attr.f 5 Ea.f0 Ea.f1 Ea.f2 Ea.f3 Ea.f4 ⟨#[99]⟩ = some ⟨#[100, 39]⟩ := by decide +kernel
theorem attr_x : tag_Attr.f 5 Ea.f0 Ea.f1 Ea.f2 Ea.f3 Ea.f4 ⟨#[120]⟩ = some ⟨#[]⟩ := by decide +kernel
theorem same_live : sameB Ea Ea = true := by decide +kernel
theorem kid_live : idxB (kidB ⟨#[97]⟩ ⟨#[107]⟩) Ea.f4 = (0 : Nat) := by decide +kernel
theorem kid_no : idxB (kidB ⟨#[122]⟩ ⟨#[107]⟩) Ea.f4 = -1 := by decide +kernel

/-- Where the element of live lies. -/
def LiveW (m g cap : Nat) (w : World) : Prop := (Kd.C k51 w (some ⟨g, 0, none⟩) 1 Ea.f2 ∧ Kd.C k25 w (some ⟨m + 1, 0, none⟩) 1 Ea.f4) ∧ 1 ≤ cap ∧ w.heap[m]? = some (.cells #[.string ⟨#[97]⟩, .string ⟨#[98]⟩, .slice (some ⟨g, 0, none⟩) 1 cap, .string ⟨#[]⟩, .slice (some ⟨m + 1, 0, none⟩) 1 1] 25 (0, 0))

theorem LiveW.below {m g cap : Nat} {w w' : World} (h : LiveW m g cap w) (hb : Below w.heap.size w w') : LiveW m g cap w' :=
  ⟨⟨Kd.C_below h.1.1 hb, Kd.C_below h.1.2 hb⟩, h.2.1, (hb.block m (Array.getElem?_eq_some_iff.1 h.2.2).1).trans h.2.2⟩

theorem LiveW.cells {m g cap : Nat} {w : World} (h : LiveW m g cap w) :
    w.cell? ⟨m, 0, none⟩ = some (.string ⟨#[97]⟩) ∧ w.cell? ⟨m, 1, none⟩ = some (.string ⟨#[98]⟩) ∧ w.cell? ⟨m, 2, none⟩ = some (.slice (some ⟨g, 0, none⟩) 1 cap) ∧ w.cell? ⟨m, 3, none⟩ = some (.string ⟨#[]⟩) ∧ w.cell? ⟨m, 4, none⟩ = some (.slice (some ⟨m + 1, 0, none⟩) 1 1) :=
  ⟨by rw [Lib.cell_of_heap h.2.2]; rfl, by rw [Lib.cell_of_heap h.2.2]; rfl, by rw [Lib.cell_of_heap h.2.2]; rfl, by rw [Lib.cell_of_heap h.2.2]; rfl, by rw [Lib.cell_of_heap h.2.2]; rfl⟩

section
variable {m g cap : Nat} {w : World} (h : LiveW m g cap w)
include h
theorem L_kid : Calls Try.prog 15 #[.agg #[.string ⟨#[97]⟩, .string ⟨#[98]⟩, .slice (some ⟨g, 0, none⟩) 1 cap, .string ⟨#[]⟩, .slice (some ⟨m + 1, 0, none⟩) 1 1], .string ⟨#[97]⟩, .string ⟨#[107]⟩] w fun en w' => (∃ B2 d2 B4 d4, en = .returned (.tuple #[.agg #[.string ⟨#[97]⟩, .string ⟨#[107]⟩, .slice B2 0 d2, .string ⟨#[60]⟩, .slice B4 0 d4], .bool true])) ∧ Below w.heap.size w w' :=
  Kid_calls Ea ⟨#[97]⟩ ⟨#[107]⟩ (some ⟨g, 0, none⟩) cap (some ⟨m + 1, 0, none⟩) 1 w h.1.2 (Nat.le_refl _) (by decide) 0 (by decide) kid_live
theorem L_no : Calls Try.prog 15 #[.agg #[.string ⟨#[97]⟩, .string ⟨#[98]⟩, .slice (some ⟨g, 0, none⟩) 1 cap, .string ⟨#[]⟩, .slice (some ⟨m + 1, 0, none⟩) 1 1], .string ⟨#[122]⟩, .string ⟨#[107]⟩] w fun en w' => en = .returned (.tuple #[.agg #[.string ⟨#[]⟩, .string ⟨#[]⟩, .slice none 0 0, .string ⟨#[]⟩, .slice none 0 0], .bool false]) ∧ Below w.heap.size w w' :=
  Kid_none Ea ⟨#[122]⟩ ⟨#[107]⟩ (some ⟨g, 0, none⟩) cap (some ⟨m + 1, 0, none⟩) 1 w h.1.2 (Nat.le_refl _) (by decide) kid_no
theorem L_put : Calls Try.prog 9 #[.agg #[.string ⟨#[97]⟩, .string ⟨#[98]⟩, .slice (some ⟨g, 0, none⟩) 1 cap, .string ⟨#[]⟩, .slice (some ⟨m + 1, 0, none⟩) 1 1], .string ⟨#[]⟩] w fun en w' => en = .returned (.string ⟨#[60, 98, 32, 120, 109, 108, 110, 115, 61, 39, 97, 39, 32, 99, 61, 39, 100, 38, 97, 112, 111, 115, 59, 39, 62, 60, 107, 62, 38, 108, 116, 59, 60, 47, 107, 62, 60, 47, 98, 62]⟩) ∧ Below w.heap.size w w' := by
  have := Put_calls Ea ⟨#[]⟩ (some ⟨g, 0, none⟩) cap (some ⟨m + 1, 0, none⟩) 1 w h.1.1 h.2.1 h.1.2 (Nat.le_refl _) (by rw [put_live]; decide)
  rw [put_live] at this
  exact this
theorem L_c : Calls Try.prog 16 #[.agg #[.string ⟨#[97]⟩, .string ⟨#[98]⟩, .slice (some ⟨g, 0, none⟩) 1 cap, .string ⟨#[]⟩, .slice (some ⟨m + 1, 0, none⟩) 1 1], .string ⟨#[99]⟩] w fun en w' => en = .returned (.string ⟨#[100, 39]⟩) ∧ Below w.heap.size w w' :=
  tag_Attr.calls 5 Ea.f0 Ea.f1 _ _ Ea.f2 Ea.f3 _ _ Ea.f4 _ _ w h.1.1 h.2.1 h.1.2 (Nat.le_refl _) attr_c
theorem L_x : Calls Try.prog 16 #[.agg #[.string ⟨#[97]⟩, .string ⟨#[98]⟩, .slice (some ⟨g, 0, none⟩) 1 cap, .string ⟨#[]⟩, .slice (some ⟨m + 1, 0, none⟩) 1 1], .string ⟨#[120]⟩] w fun en w' => en = .returned (.string ⟨#[]⟩) ∧ Below w.heap.size w w' :=
  tag_Attr.calls 5 Ea.f0 Ea.f1 _ _ Ea.f2 Ea.f3 _ _ Ea.f4 _ _ w h.1.1 h.2.1 h.1.2 (Nat.le_refl _) attr_x
theorem L_check : Calls Try.prog 7 #[.agg #[.string ⟨#[97]⟩, .string ⟨#[98]⟩, .slice (some ⟨g, 0, none⟩) 1 cap, .string ⟨#[]⟩, .slice (some ⟨m + 1, 0, none⟩) 1 1]] w fun en w' => en = .returned (.int .i64 0) ∧ Below w.heap.size w w' :=
  tag_Check.calls Ea.f0 Ea.f1 _ _ Ea.f2 Ea.f3 _ _ Ea.f4 _ w h.1.1 h.2.1 h.1.2 (Nat.le_refl _) check_live
theorem L_same : Calls Try.prog 10 #[.agg #[.string ⟨#[97]⟩, .string ⟨#[98]⟩, .slice (some ⟨g, 0, none⟩) 1 cap, .string ⟨#[]⟩, .slice (some ⟨m + 1, 0, none⟩) 1 1], .agg #[.string ⟨#[97]⟩, .string ⟨#[98]⟩, .slice (some ⟨g, 0, none⟩) 1 cap, .string ⟨#[]⟩, .slice (some ⟨m + 1, 0, none⟩) 1 1]] w fun en w' => en = .returned (.bool true) ∧ Below w.heap.size w w' := by
  have := same_calls _ Ea Ea (some ⟨g, 0, none⟩) cap (some ⟨m + 1, 0, none⟩) 1 (some ⟨g, 0, none⟩) cap (some ⟨m + 1, 0, none⟩) 1 w (Nat.le_refl _) h.1.1 h.2.1 h.1.2 (Nat.le_refl _) h.1.1 h.2.1 h.1.2 (Nat.le_refl _)
  rw [same_live] at this
  exact this
end
theorem L_zero (w : World) : Calls Try.prog 7 #[.agg #[.string ⟨#[]⟩, .string ⟨#[]⟩, .slice none 0 0, .string ⟨#[]⟩, .slice none 0 0]] w fun en w' => en = .returned (.int .i64 50) ∧ Below w.heap.size w w' :=
  tag_Check.calls ⟨#[]⟩ ⟨#[]⟩ none 0 [] ⟨#[]⟩ none 0 [] _ w ⟨rfl, by simp, fun h => by simp at h⟩ (Nat.le_refl _) ⟨rfl, by simp, fun h => by simp at h⟩ (Nat.le_refl _) check_zero

set_option maxHeartbeats 4000000 in
set_option maxRecDepth 1000000 in
theorem live_calls (W : World) : Calls Try.prog 8 #[] W fun e w' => e = .returned (.bool true) ∧ Below W.heap.size W w' := by
  obtain ⟨n, hn⟩ : ∃ n, W.heap.size = n := ⟨_, rfl⟩
  go_enter Try.func8, Try.ntmps8
  go_wp2_with fail
  have hz := heap_alloc_new W (.cells #[.string ⟨#[99]⟩, .string ⟨#[100, 39]⟩, .string ⟨#[120]⟩, .string ⟨#[]⟩] 9)
  rw [hn] at hz
  refine Calls.mono (New_calls ⟨#[97]⟩ ⟨#[98]⟩ n _ (by rw [Lib.cell_of_heap hz]; rfl) (by rw [Lib.cell_of_heap hz]; rfl) (by rw [Lib.cell_of_heap hz]; rfl) (by rw [Lib.cell_of_heap hz]; rfl)) ?_
  rintro en w1 ⟨⟨g1, cap, hcap, rfl, r0, r1⟩, hb1⟩
  have B1 : Hid (Below W.heap.size W w1) := ((Below.refl _ W).alloc (Nat.le_refl _) _).trans (hb1.mono (by simp))
  have hs1 := hb1.size
  simp only [World.size_alloc, hn] at hs1
  have hg1 := World.block_lt_of_cell? w1 _ r0
  have hg1' : g1 ≠ w1.heap.size := by simp at hg1; omega
  clear hb1 hz
  obtain ⟨m, hm⟩ : ∃ m, w1.heap.size = m := ⟨_, rfl⟩
  go_wp2_with fail
  have hV := heap_alloc_new (w1.alloc (.cells #[.string ⟨#[97]⟩, .string ⟨#[98]⟩, .slice (some ⟨g1, 0, none⟩) 1 cap, .string ⟨#[]⟩, .slice (some ⟨m + 1, 0, none⟩) 1 1] 25)) (.cells #[.string ⟨#[97]⟩, .string ⟨#[107]⟩, .slice none 0 0, .string ⟨#[60]⟩, .slice none 0 0] 25)
  rw [World.size_alloc, hm] at hV
  have hVB : Below w1.heap.size w1 ((w1.alloc (.cells #[.string ⟨#[97]⟩, .string ⟨#[98]⟩, .slice (some ⟨g1, 0, none⟩) 1 cap, .string ⟨#[]⟩, .slice (some ⟨m + 1, 0, none⟩) 1 1] 25)).alloc (.cells #[.string ⟨#[97]⟩, .string ⟨#[107]⟩, .slice none 0 0, .string ⟨#[60]⟩, .slice none 0 0] 25)) := ((Below.refl _ _).alloc (Nat.le_refl _) _).alloc (by simp) _
  have hLV : LiveW m g1 cap ((w1.alloc (.cells #[.string ⟨#[97]⟩, .string ⟨#[98]⟩, .slice (some ⟨g1, 0, none⟩) 1 cap, .string ⟨#[]⟩, .slice (some ⟨m + 1, 0, none⟩) 1 1] 25)).alloc (.cells #[.string ⟨#[97]⟩, .string ⟨#[107]⟩, .slice none 0 0, .string ⟨#[60]⟩, .slice none 0 0] 25)) :=
    ⟨⟨Kd.C_below (ca_row r0 r1) hVB, ka_row hV⟩, hcap, by rw [Below.heap_alloc _ _ _ (by simp; omega), ← hm]; exact heap_alloc_new _ _⟩
  have B2 := Lib.hid (B1.out.trans (hVB.mono B1.out.size))
  clear hV hVB r0 r1
  refine Calls.mono (L_kid hLV) ?_
  rintro en w3 ⟨⟨B2', d2, B4', d4, rfl⟩, hb3⟩
  have L3 := Lib.hid (hLV.below hb3)
  have B3 := Lib.hid (B2.out.trans (hb3.mono B2.out.size))
  have hs3 := hb3.size
  simp only [World.size_alloc, hm] at hs3
  clear hLV hb3 B2 B1
  obtain ⟨c0, c1, c2, c3, c4⟩ := L3.out.cells
  obtain ⟨k, hk⟩ : ∃ k, w3.heap.size = k := ⟨_, rfl⟩
  have m1 : m ≠ k := by omega
  have m2 : m < k := by omega
  have hVa : Below w3.heap.size w3 (w3.alloc (.cells #[.string ⟨#[97]⟩, .string ⟨#[107]⟩, .slice B2' 0 d2, .string ⟨#[60]⟩, .slice B4' 0 d4] 25)) := (Below.refl _ _).alloc (Nat.le_refl _) _
  have hLa := L3.out.below hVa
  have hBa := B3.out.trans (hVa.mono B3.out.size)
  have hka : (w3.alloc (.cells #[.string ⟨#[97]⟩, .string ⟨#[107]⟩, .slice B2' 0 d2, .string ⟨#[60]⟩, .slice B4' 0 d4] 25)).heap[k]? = some (.cells #[.string ⟨#[97]⟩, .string ⟨#[107]⟩, .slice B2' 0 d2, .string ⟨#[60]⟩, .slice B4' 0 d4] 25 (0, 0)) := by rw [← hk]; exact heap_alloc_new _ _
  have LA := Lib.hid hLa
  have BA := Lib.hid hBa
  have KA := Lib.hid hka
  clear hVa hLa hBa hka
  go_wp2_with fail
  refine Calls.mono (L_no LA.out) ?_
  rintro en w4 ⟨rfl, hb4⟩
  have L4 := Lib.hid (LA.out.below hb4)
  have B4 := Lib.hid (BA.out.trans (hb4.mono BA.out.size))
  have K4 := Lib.hid ((hb4.block k (by simp; omega)).trans KA.out)
  have hs4 := hb4.size
  simp only [World.size_alloc, hk] at hs4
  clear hb4 c0 c1 c2 c3 c4 LA BA KA
  obtain ⟨c0, c1, c2, c3, c4⟩ := L4.out.cells
  obtain ⟨q, hq⟩ : ∃ q, w4.heap.size = q := ⟨_, rfl⟩
  have q1 : m ≠ q := by omega
  have q2 : m < q := by omega
  have hVa : Below w4.heap.size w4 (w4.alloc (.cells #[.string ⟨#[]⟩, .string ⟨#[]⟩, .slice none 0 0, .string ⟨#[]⟩, .slice none 0 0] 25)) := (Below.refl _ _).alloc (Nat.le_refl _) _
  have hLa := L4.out.below hVa
  have hBa := B4.out.trans (hVa.mono B4.out.size)
  have hka := (hVa.block k (by omega)).trans K4.out
  have L4a := Lib.hid hLa
  have B4a := Lib.hid hBa
  have K4a := Lib.hid hka
  clear hVa hLa hBa hka
  go_wp2_with fail
  refine Calls.mono (L_put L4a.out) ?_
  rintro en w5 ⟨rfl, hb5⟩
  have L5 := Lib.hid (L4a.out.below hb5)
  have B5 := Lib.hid (B4a.out.trans (hb5.mono B4a.out.size))
  have K5 := Lib.hid ((hb5.block k (Array.getElem?_eq_some_iff.1 K4a.out).1).trans K4a.out)
  clear hb5 c0 c1 c2 c3 c4
  obtain ⟨c0, c1, c2, c3, c4⟩ := L5.out.cells
  have ck : w5.cell? ⟨k, 3, none⟩ = some (.string ⟨#[60]⟩) := by rw [Lib.cell_of_heap K5.out]; rfl
  go_wp2_with fail
  refine Calls.mono (L_c L5.out) ?_
  rintro en w6 ⟨rfl, hb6⟩
  have L6 := Lib.hid (L5.out.below hb6)
  have B6 := Lib.hid (B5.out.trans (hb6.mono B5.out.size))
  have K6 := Lib.hid ((hb6.block k (Array.getElem?_eq_some_iff.1 K5.out).1).trans K5.out)
  clear hb6 c0 c1 c2 c3 c4 ck
  obtain ⟨c0, c1, c2, c3, c4⟩ := L6.out.cells
  have ck : w6.cell? ⟨k, 3, none⟩ = some (.string ⟨#[60]⟩) := by rw [Lib.cell_of_heap K6.out]; rfl
  go_wp2_with fail
  refine Calls.mono (L_x L6.out) ?_
  rintro en w7 ⟨rfl, hb7⟩
  have L7 := Lib.hid (L6.out.below hb7)
  have B7 := Lib.hid (B6.out.trans (hb7.mono B6.out.size))
  have K7 := Lib.hid ((hb7.block k (Array.getElem?_eq_some_iff.1 K6.out).1).trans K6.out)
  clear hb7 c0 c1 c2 c3 c4 ck
  obtain ⟨c0, c1, c2, c3, c4⟩ := L7.out.cells
  have ck : w7.cell? ⟨k, 3, none⟩ = some (.string ⟨#[60]⟩) := by rw [Lib.cell_of_heap K7.out]; rfl
  go_wp2_with fail
  refine Calls.mono (L_check L7.out) ?_
  rintro en w8 ⟨rfl, hb8⟩
  have L8 := Lib.hid (L7.out.below hb8)
  have B8 := Lib.hid (B7.out.trans (hb8.mono B7.out.size))
  have K8 := Lib.hid ((hb8.block k (Array.getElem?_eq_some_iff.1 K7.out).1).trans K7.out)
  clear hb8 c0 c1 c2 c3 c4 ck
  obtain ⟨c0, c1, c2, c3, c4⟩ := L8.out.cells
  have ck : w8.cell? ⟨k, 3, none⟩ = some (.string ⟨#[60]⟩) := by rw [Lib.cell_of_heap K8.out]; rfl
  go_wp2_with fail
  refine Calls.mono (wharflaw05_num.calls 0 0 _ rfl) ?_
  rintro en w9 ⟨rfl, hd9⟩
  have hb9 := hd9.below
  have L9 := Lib.hid (L8.out.below hb9)
  have B9 := Lib.hid (B8.out.trans (hb9.mono B8.out.size))
  have K9 := Lib.hid ((hb9.block k (Array.getElem?_eq_some_iff.1 K8.out).1).trans K8.out)
  clear hd9 hb9 c0 c1 c2 c3 c4 ck
  obtain ⟨c0, c1, c2, c3, c4⟩ := L9.out.cells
  have ck : w9.cell? ⟨k, 3, none⟩ = some (.string ⟨#[60]⟩) := by rw [Lib.cell_of_heap K9.out]; rfl
  go_wp2_with fail
  refine Calls.mono (L_zero _) ?_
  rintro en w10 ⟨rfl, hb10⟩
  have L10 := Lib.hid (L9.out.below hb10)
  have B10 := Lib.hid (B9.out.trans (hb10.mono B9.out.size))
  have K10 := Lib.hid ((hb10.block k (Array.getElem?_eq_some_iff.1 K9.out).1).trans K9.out)
  clear hb10 c0 c1 c2 c3 c4 ck
  obtain ⟨c0, c1, c2, c3, c4⟩ := L10.out.cells
  have ck : w10.cell? ⟨k, 3, none⟩ = some (.string ⟨#[60]⟩) := by rw [Lib.cell_of_heap K10.out]; rfl
  go_wp2_with fail
  refine Calls.mono (wharflaw05_num.calls 50 50 _ rfl) ?_
  rintro en w11 ⟨rfl, hd11⟩
  have hb11 := hd11.below
  have L11 := Lib.hid (L10.out.below hb11)
  have B11 := Lib.hid (B10.out.trans (hb11.mono B10.out.size))
  have K11 := Lib.hid ((hb11.block k (Array.getElem?_eq_some_iff.1 K10.out).1).trans K10.out)
  clear hd11 hb11 c0 c1 c2 c3 c4 ck
  obtain ⟨c0, c1, c2, c3, c4⟩ := L11.out.cells
  have ck : w11.cell? ⟨k, 3, none⟩ = some (.string ⟨#[60]⟩) := by rw [Lib.cell_of_heap K11.out]; rfl
  go_wp2_with fail
  refine Calls.mono (L_same L11.out) ?_
  rintro en w12 ⟨rfl, hb12⟩
  have L12 := Lib.hid (L11.out.below hb12)
  have B12 := Lib.hid (B11.out.trans (hb12.mono B11.out.size))
  have K12 := Lib.hid ((hb12.block k (Array.getElem?_eq_some_iff.1 K11.out).1).trans K11.out)
  clear hb12 c0 c1 c2 c3 c4 ck
  obtain ⟨c0, c1, c2, c3, c4⟩ := L12.out.cells
  have ck : w12.cell? ⟨k, 3, none⟩ = some (.string ⟨#[60]⟩) := by rw [Lib.cell_of_heap K12.out]; rfl
  go_wp2_with fail
  go_ret
  exact ⟨rfl, B12.out⟩

end Go.Proofs.Ytaidgkmacpiajaa.Tg
namespace Go.Proofs.Ytaidgkmacpiajaa.Ext
open Go.RowKit
def law_live.f : Option Bool := some true
theorem law_live.calls (r : Bool) (w : World) (h : law_live.f = some r) : Calls Try.prog 8 #[] w fun e w' => e = .returned (.bool r) ∧ Below w.heap.size w w' := by
  obtain rfl := Option.some.inj h
  exact Tg.live_calls w
end Go.Proofs.Ytaidgkmacpiajaa.Ext

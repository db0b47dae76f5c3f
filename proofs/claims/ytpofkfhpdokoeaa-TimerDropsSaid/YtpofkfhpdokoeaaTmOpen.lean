/- The lists that the statements take, opened. -/
import Derived.Test.YtpofkfhpdokoeaaOpen
import Derived.Test.YtpofkfhpdokoeaaTmArgs
import Derived.ChangeSlices
set_option linter.unusedVariables false
namespace Go.Proofs.Ytpofkfhpdokoeaa.Tm
open Go.ChangeShapes Go.WideShapes Go.Deep

section
variable {H : Type} {enc : TypeId × Value → H} {w : World} {spare : Nat → Bool} {held : Bool}

theorem acts_open {v : Value} {d : DataW H} {p : List MemPlace} (hv : ∃ a len cap, v = .slice a len cap) (h : DataW.Trod enc Try.prog w 0 spare held 22 v d p) : ∃ l : List Ac, Acts w v l := by
  obtain ⟨a, len, cap, rfl⟩ := hv
  obtain ⟨fuel, hf⟩ := h
  rcases Open.slice_fields Try.underlying22 Try.underlying32 (by kernel_rfl) (by kernel_rfl) hf with hcs | ⟨x, len', cap', hcs, hl, hm, hi⟩
  · simp [Value.cells] at hcs
    obtain ⟨rfl, rfl, rfl⟩ := hcs
    exact ⟨[], none, 0, rfl, Nat.zero_le _, (fun x hx => by simp at hx), fun h => absurd rfl h⟩
  · simp [Value.cells] at hcs
    obtain ⟨rfl, rfl, rfl⟩ := hcs
    have hall : ∀ i, i < len → ∃ c : Ac, c.at_ ≤ 9223372036854775807 ∧ w.cell? (x.add (i * 3)) = some (.int .i64 c.kind) ∧ w.cell? (x.add (i * 3 + 1)) = some (.int .i64 c.at_) ∧ w.cell? (x.add (i * 3 + 2)) = some (.string c.key) := by
      intro i hi'
      obtain ⟨n, hf⟩ := hi i hi'
      obtain ⟨v0, y0, c0, t0⟩ := hf 0 _ rfl
      obtain ⟨v1, y1, c1, t1⟩ := hf 1 _ rfl
      obtain ⟨v2, y2, c2, t2⟩ := hf 2 _ rfl
      obtain ⟨z0, e0, _, _⟩ := DataW.trod_int Try.underlying3 t0
      obtain ⟨z1, e1, _, w1⟩ := DataW.trod_int Try.underlying2 t1
      obtain ⟨z2, e2, _, _⟩ := DataW.trod_string Try.underlying9 t2
      simp only [List.cons.injEq, and_true] at e0 e1 e2
      subst e0; subst e1; subst e2
      refine ⟨⟨z0, z1, z2⟩, ?_, c0, c1, c2⟩
      have h1 : (decide (IntKind.i64.min ≤ z1) && decide (z1 ≤ IntKind.i64.max)) = true := w1
      simp only [Bool.and_eq_true, decide_eq_true_eq] at h1
      exact h1.2
    obtain ⟨f, hf⟩ := choose_lt hall
    refine ⟨(List.range len).map f, some x, cap, by simp, ?_, ?_, fun hne => ?_⟩
    · simp only [maxLen] at hm; simp; omega
    · intro c hc
      obtain ⟨i, hi, rfl⟩ := List.mem_map.1 hc
      exact (hf i (List.mem_range.1 hi)).1
    · have hpos : 0 < len := by
        rcases Nat.eq_zero_or_pos len with h | h
        · subst h; simp at hne
        · exact h
      obtain ⟨b, off, rfl⟩ := Open.plain_of (by simpa using (hf 0 hpos).2.1)
      refine ⟨b, off, rfl, World.block_lt_of_cell? w _ (by simpa [Addr.add_lit] using (hf 0 hpos).2.1), fun i hi => ?_⟩
      have hi' : i < len := by simpa using hi
      have := (hf i hi').2
      simp only [Addr.add_lit] at this
      simpa [Nat.add_assoc] using this

theorem nums_open {v : Value} {d : DataW H} {p : List MemPlace} (hv : ∃ a len cap, v = .slice a len cap) (h : DataW.Trod enc Try.prog w 0 spare held 23 v d p) : ∃ l : List Int, Nums w v l := by
  obtain ⟨a, len, cap, rfl⟩ := hv
  obtain ⟨fuel, hf⟩ := h
  rcases open_ints Try.underlying23 Try.underlying2 (by kernel_rfl) hf with ⟨hcs, _⟩ | ⟨x, l', c', zs, hcs, _, hl, hm, hz, _, hcell, _⟩
  · simp [Value.cells] at hcs
    obtain ⟨rfl, rfl, rfl⟩ := hcs
    exact ⟨[], none, 0, rfl, Nat.zero_le _, fun h => absurd rfl h⟩
  · simp [Value.cells] at hcs
    obtain ⟨rfl, rfl, rfl⟩ := hcs
    have hzl : len ≤ zs.length := by rw [hz]; split <;> omega
    refine ⟨(List.range len).map fun i => zs.getD i 0, some x, cap, by simp, ?_, fun hne => ?_⟩
    · simp only [maxLen] at hm; simp; omega
    · have hpos : 0 < len := by
        rcases Nat.eq_zero_or_pos len with h | h
        · subst h; simp at hne
        · exact h
      obtain ⟨b, off, rfl⟩ := Open.plain_of (hcell 0 (by omega))
      refine ⟨b, off, rfl, World.block_lt_of_cell? w _ (by simpa [Addr.add_lit] using hcell 0 (by omega)), fun i hi => ?_⟩
      have hi' : i < len := by simpa using hi
      have := hcell i (by omega)
      simp only [Addr.add_lit] at this
      simpa using this
end
end Go.Proofs.Ytpofkfhpdokoeaa.Tm

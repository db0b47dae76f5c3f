/- The timers in memory: a row of three cells a timer, the two cells of a Timers; what a call leaves alone. -/
import Derived.Test.YtpofkfhpdokoeaaProg
import Derived.Test.YtpofkfhpdokoeaaTmPlain
import Derived.WalkKit
import Derived.KernelRfl
import Derived.WalkSmall
import Derived.Deep.Onto
set_option linter.unusedVariables false
set_option linter.unusedSimpArgs false
namespace Go.Proofs.Ytpofkfhpdokoeaa.Tm
open Go.RowKit

def cellsL : List Al → List Value
  | [] => []
  | a :: t => .int .i64 a.at_ :: .int .i64 a.num :: .string a.key :: cellsL t

theorem cellsL_length : ∀ hs : List Al, (cellsL hs).length = hs.length * 3
  | [] => rfl
  | a :: t => by simp [cellsL, cellsL_length t]; omega

theorem cellsL_append : ∀ xs ys : List Al, cellsL (xs ++ ys) = cellsL xs ++ cellsL ys
  | [], ys => rfl
  | a :: t, ys => by simp [cellsL, cellsL_append t ys]

theorem cellsL_take : ∀ (hs : List Al) (n : Nat), (cellsL hs).take (n * 3) = cellsL (hs.take n)
  | [], n => by simp [cellsL]
  | a :: t, 0 => by simp [cellsL]
  | a :: t, n + 1 => by
    rw [show (n + 1) * 3 = n * 3 + 1 + 1 + 1 by omega]
    simp [cellsL, cellsL_take t n]

theorem cellsL_at : ∀ (hs : List Al) (j : Nat) (h : j < hs.length), (cellsL hs)[j * 3]? = some (.int .i64 hs[j].at_) ∧ (cellsL hs)[j * 3 + 1]? = some (.int .i64 hs[j].num) ∧ (cellsL hs)[j * 3 + 2]? = some (.string hs[j].key)
  | a :: t, 0, h => by simp [cellsL]
  | a :: t, j + 1, h => by
    have := cellsL_at t j (by simpa using h)
    rw [show (j + 1) * 3 = j * 3 + 1 + 1 + 1 by omega, show j * 3 + 1 + 1 + 1 + 1 = j * 3 + 1 + 1 + 1 + 1 by rfl]
    simpa [cellsL, show j * 3 + 1 + 1 + 1 + 2 = j * 3 + 2 + 1 + 1 + 1 by omega] using this

theorem cellsL_set : ∀ (hs : List Al) (j : Nat) (a : Al), (((cellsL hs).set (j * 3) (.int .i64 a.at_)).set (j * 3 + 1) (.int .i64 a.num)).set (j * 3 + 2) (.string a.key) = cellsL (hs.set j a)
  | [], j, a => by simp [cellsL]
  | b :: t, 0, a => by simp [cellsL]
  | b :: t, j + 1, a => by
    have := cellsL_set t j a
    rw [show (j + 1) * 3 = j * 3 + 1 + 1 + 1 by omega]
    simp only [cellsL, List.set_cons_succ, show j * 3 + 1 + 1 + 1 + 2 = j * 3 + 2 + 1 + 1 + 1 by omega, this]

/-- The block that a Timers' slice lies in. -/
def own (w : World) (p : Nat) : Option Nat :=
  match w.heap[p]? with
  | some (.cells cs _ _) => (cs[0]?).bind Value.ownBlock
  | _ => none

/-- At p lies a Timers that holds hs (in the heap's order) and has given numbers up to last. -/
def TM (w : World) (B p : Nat) (hs : List Al) (last : Int) : Prop :=
  ∃ v, B ≤ p ∧ w.heap[p]? = some (.cells #[v, .int .i64 last] 48 (0, 0)) ∧ w.ownsRow B 52 3 v hs.length (cellsL hs)

/-- What a call on the Timers at p leaves alone. -/
structure Fr (p : Nat) (w w' : World) : Prop where
  os : w'.os = w.os
  tape : w'.tape = w.tape
  output : w'.output = w.output
  size : w.heap.size ≤ w'.heap.size
  block : ∀ k, k < w.heap.size → k ≠ p → own w p ≠ some k → w'.heap[k]? = w.heap[k]?
  owns : ∀ g, own w' p = some g → own w p = some g ∨ w.heap.size ≤ g

theorem Fr.refl (p : Nat) (w : World) : Fr p w w := ⟨rfl, rfl, rfl, Nat.le_refl _, fun _ _ _ _ => rfl, fun g h => .inl h⟩

theorem Fr.trans {p : Nat} {a b c : World} (h : Fr p a b) (k : Fr p b c) : Fr p a c := by
  refine ⟨k.os.trans h.os, k.tape.trans h.tape, k.output.trans h.output, Nat.le_trans h.size k.size, fun i hi hp ho => ?_, fun g hg => ?_⟩
  · rw [k.block i (Nat.lt_of_lt_of_le hi h.size) hp (fun e => ?_), h.block i hi hp ho]
    rcases h.owns i e with e' | e'
    · exact ho e'
    · omega
  · rcases k.owns g hg with e | e
    · exact h.owns g e
    · exact .inr (Nat.le_trans h.size e)

theorem TM.own_lt {w : World} {B p : Nat} {hs : List Al} {last : Int} (h : TM w B p hs last) : ∀ g, own w p = some g → B ≤ g ∧ g < w.heap.size ∧ g ≠ p := by
  obtain ⟨v, hB, hp, hr⟩ := h
  intro g hg
  have hv : v.ownBlock = some g := by simpa [own, hp] using hg
  refine ⟨(hr.lt g hv).1, (hr.lt g hv).2, ?_⟩
  rintro rfl
  rcases hr.2 with ⟨rfl, _⟩ | ⟨g', cap, cur, rfl, _, hg', _⟩
  · simp [Value.ownBlock] at hv
  · simp [Value.ownBlock] at hv
    subst hv
    rw [hp] at hg'
    simp at hg'

theorem TM.lt {w : World} {B p : Nat} {hs : List Al} {last : Int} (h : TM w B p hs last) : B ≤ p ∧ p < w.heap.size := by
  obtain ⟨v, hB, hp, hr⟩ := h
  exact ⟨hB, (Array.getElem?_eq_some_iff.1 hp).1⟩

/-- What is as it was as far as the heap went holds the Timers as it was. -/
theorem TM.below {w w' : World} {B p : Nat} {hs : List Al} {last : Int} (h : TM w B p hs last) (hb : Below w.heap.size w w') : TM w' B p hs last ∧ Fr p w w' := by
  have hlt := h.lt
  obtain ⟨v, hB, hp, hr⟩ := h
  have hp' : w'.heap[p]? = some (.cells #[v, .int .i64 last] 48 (0, 0)) := by rw [hb.block p hlt.2]; exact hp
  refine ⟨⟨v, hB, hp', ?_⟩, hb.os, hb.tape, hb.output, hb.size, fun k hk _ _ => hb.block k hk, fun g hg => .inl ?_⟩
  · refine hr.kept (row := none) ⟨hb.os, hb.tape, hb.output, hb.size, fun k hk _ => hb.block k hk⟩ ?_
    cases v.ownBlock <;> simp
  · simpa [own, hp, hp'] using hg

theorem Fr.below {p B : Nat} {w w' : World} {hs : List Al} {last : Int} (h : TM w B p hs last) (f : Fr p w w') : Below B w w' :=
  ⟨f.os, f.tape, f.output, f.size, fun k hk => f.block k (by have := h.lt; omega) (by have := h.lt; omega) (fun e => by have := (h.own_lt k e).1; omega)⟩

/-- A row of another kind is kept by a call on the Timers. -/
theorem Fr.row {p B B' : Nat} {w w' : World} {hs : List Al} {last : Int} (h : TM w B p hs last) (f : Fr p w w') {e : TypeId} {size n : Nat} {v : Value} {xs : List Value} (hr : w.ownsRow B' e size v n xs) (he : e ≠ 52) (he' : e ≠ 48) : w'.ownsRow B' e size v n xs := by
  refine ⟨hr.1, ?_⟩
  rcases hr.2 with hn | ⟨g, cap, cur, rfl, hb, hgg, rest⟩
  · exact .inl hn
  · refine .inr ⟨g, cap, cur, rfl, hb, ?_, rest⟩
    obtain ⟨v, hB, hp, hrw⟩ := h
    rw [f.block g (Array.getElem?_eq_some_iff.1 hgg).1 ?_ ?_]
    · exact hgg
    · rintro rfl
      rw [hp] at hgg
      simp at hgg
      exact he' hgg.2.symm
    · intro ho
      have hv : v.ownBlock = some g := by simpa [own, hp] using ho
      rcases hrw.2 with ⟨rfl, _⟩ | ⟨g', cap', cur', rfl, _, hg', _⟩
      · simp [Value.ownBlock] at hv
      · simp [Value.ownBlock] at hv
        subst hv
        rw [hgg] at hg'
        simp at hg'
        exact he hg'.2

/-- Three stores at a place of the row. -/
theorem TM.stored {w : World} {B g cap n : Nat} {hs : List Al} (h : w.ownsRow B 52 3 (.slice (some ⟨g, 0, none⟩) n cap) n (cellsL hs)) (j : Nat) (a : Al) :
    (((w.setCell ⟨g, j * 3, none⟩ (.int .i64 a.at_)).setCell ⟨g, j * 3 + 1, none⟩ (.int .i64 a.num)).setCell ⟨g, j * 3 + 2, none⟩ (.string a.key)).ownsRow B 52 3 (.slice (some ⟨g, 0, none⟩) n cap) n (cellsL (hs.set j a)) := by
  have := (((h.stored (j * 3) (.int .i64 a.at_)).1.stored (j * 3 + 1) (.int .i64 a.num)).1.stored (j * 3 + 2) (.string a.key)).1
  rwa [cellsL_set] at this

end Go.Proofs.Ytpofkfhpdokoeaa.Tm

/- A map from strings to bools that the call has made, read as a set of texts. -/
import Derived.Test.YtaidgkmacpiajaaProg
import Derived.Maps.OwnOps
import Derived.Maps.OwnSet
import Derived.Maps.Views
import Derived.StringKeys
import Derived.WalkKit
import Derived.KernelRfl
set_option linter.unusedVariables false
set_option linter.unusedSimpArgs false
namespace Go.Proofs.Ytaidgkmacpiajaa.SetS
open Go.RowKit Go.Maps

theorem law : Keyed Try.prog 9 := string_keyed Try.underlying9
theorem zeroE (w : World) : (zeroValue 4).run Try.prog w = .ok (.bool false) w := by kernel_rfl

/-- Block b is a map in which just the texts of xs stand, each with 'true'. -/
def SetS (w : World) (b n : Nat) (xs : List (List UInt8)) : Prop :=
  ∃ D : DataW Unit, w.ownsMap Try.prog 9 (plainElem Try.prog 4) b n D ∧ IsMap D ∧ ∀ l : List UInt8, D.atKey (.string l) (.lit (.bool false)) = .lit (.bool (decide (l ∈ xs)))

theorem made (w : World) : SetS (w.alloc (.map #[] 0)) w.heap.size 0 [] :=
  ⟨.map [], World.ownsMap_made _ _ _ _, isMap_empty, fun l => by rw [atKey_of_not_has rfl]; simp⟩

theorem kept {w w' : World} {b n : Nat} {xs : List (List UInt8)} (h : SetS w b n xs) {row : Option Nat} (hg : w.grownBy w' row) (hne : some b ≠ row) : SetS w' b n xs := by
  obtain ⟨D, h1, h2⟩ := h
  exact ⟨D, h1.kept hg hne, h2⟩

theorem below {w w' : World} {b n : Nat} {xs : List (List UInt8)} (h : SetS w b n xs) (hb : Below w.heap.size w w') : SetS w' b n xs :=
  kept h (row := none) ⟨hb.os, hb.tape, hb.output, hb.size, fun k hk _ => hb.block k hk⟩ (by simp)

theorem alloc {w : World} {b n : Nat} {xs : List (List UInt8)} (h : SetS w b n xs) (o : Obj) : SetS (w.alloc o) b n xs := by
  obtain ⟨D, h1, h2⟩ := h
  exact ⟨D, h1.alloc o, h2⟩

theorem lt {w : World} {b n : Nat} {xs : List (List UInt8)} (h : SetS w b n xs) : b < w.heap.size := by
  obtain ⟨D, h1, _⟩ := h
  exact h1.lt

theorem look {w : World} {b n : Nat} {xs : List (List UInt8)} (h : SetS w b n xs) (s : ByteArray) (hs : s.size ≤ maxLen) :
    (Instr.lookup 65 (.map (some b)) (.string s) false).run Try.prog w = .ok (.bool (decide (s.data.toList ∈ xs))) w := by
  obtain ⟨D, h1, _, h3⟩ := h
  obtain ⟨v, ps, hrun, hv⟩ := h1.lookup law Try.underlying65 (zeroE w) (plainElem_bool Try.underlying4 false) (WideMaps.keyOf_string_mk Try.underlying9 hs)
  rw [h3] at hv
  rw [hrun]
  have hb := Try.underlying4
  unfold plainElem at hv
  rw [hb] at hv
  cases v <;> simp at hv
  rw [hv.1]

theorem put {w : World} {b n : Nat} {xs : List (List UInt8)} (h : SetS w b n xs) (s : ByteArray) (hs : s.size ≤ maxLen) (hn : n < maxLen) :
    ∃ w', (Instr.mapUpdate 65 (.map (some b)) (.string s) (.bool true)).run Try.prog w = .ok () w' ∧ SetS w' b (n + 1) (s.data.toList :: xs) ∧ w.grownBy w' (some b) := by
  obtain ⟨D, h1, h2, h3⟩ := h
  obtain ⟨w', hrun, h4, h5⟩ := h1.update law Try.underlying65 hn (WideMaps.keyOf_string_mk Try.underlying9 hs) (plainElem_bool Try.underlying4 true)
  refine ⟨w', hrun, ⟨_, h4, h2.put _ _, fun l => ?_⟩, h5⟩
  by_cases e : l = s.data.toList
  · subst e
    rw [atKey_put_same h2 (show WideAt.IsKeyLit (.string s.data.toList) from trivial)]
    simp
  · rw [atKey_put_other (by simpa using e), h3]
    simp [e]

end Go.Proofs.Ytaidgkmacpiajaa.SetS

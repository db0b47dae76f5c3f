/- What glyph.First, glyph.width and glyph.Fold answer, for every input that they are called with. Conditions: none but that a text's size is one that Go has. -/
import Derived.Test.YtaidgkmacpiajaaProg
import Derived.Test.YtaidgkmacpiajaaPlain
import Derived.WalkKit
import Derived.KernelRfl
import Derived.Laws.RangeString
import Derived.Laws.RangeAny
import Derived.Lib.OthersKept
import Derived.Lib.Hide
set_option linter.unusedVariables false
namespace Go.Proofs.Ytaidgkmacpiajaa.Glyph
open Go.RowKit Go.Proofs.Ytaidgkmacpiajaa.Plain

set_option maxHeartbeats 400000 in
theorem width_any (c : Int) (w : World) : Calls Try.prog 39 #[.int .i64 c] w fun e w' => e = .returned (.int .i64 (width c)) ∧ w = w' := by
  go_enter Try.func39, Try.ntmps39
  go_wp2
  all_goals (go_ret; refine ⟨?_, rfl⟩; unfold width; repeat (first | rfl | rw [if_pos (by omega)] | rw [if_neg (by omega)]))

theorem below_iter (s : ByteArray) (p : Nat) (w : World) : Below w.heap.size w (w.iter s p) := (Below.refl _ w).alloc (Nat.le_refl _) _

theorem ret3 {a b c a' b' c' : Int} (h : (a', b', c') = (a, b, c)) : Ending.returned (.tuple #[.int .i64 a, .int .i64 b, .int .i64 c]) = Ending.returned (.tuple #[.int .i64 a', .int .i64 b', .int .i64 c']) := by
  simp only [Prod.mk.injEq] at h
  obtain ⟨rfl, rfl, rfl⟩ := h
  rfl

set_option maxHeartbeats 400000 in
theorem First_any (s : ByteArray) (w : World) : Calls Try.prog 37 #[.string s] w fun e w' => e = .returned (.tuple #[.int .i64 (gf s).1, .int .i64 (gf s).2.1, .int .i64 (gf s).2.2]) ∧ Below w.heap.size w w' := by
  go_enter Try.func37, Try.ntmps37
  go_wp2
  go_loopw [] (fun w' => w' = w.iter s 0) (fun _ => 0)
  case atStart => rfl
  case round =>
    subst hrel
    by_cases hp : 0 < s.size
    · have hnx : ∀ ty, (Instr.next (.pointer (some ⟨w.heap.size, 0, none⟩)) true ty).run Try.prog (w.iter s 0) = _ := fun ty => run_next_any w s 0 ty hp
      have hd1 := decode_le s 0
      go_wp2_with (go_at_call 39; refine (width_any _ _).mono ?_; rintro e w' ⟨rfl, rfl⟩)
      · have h1 : ((Utf8.decode s 0).1 : Int) = 65533 := by assumption
        have h2 : ((s.size : Int) < 3 ∨ (!(s.extract 0 3).toList == [239, 191, 189]) = true) := by assumption
        go_ret3
        refine ⟨ret3 (gf_bad hp ⟨by omega, ?_⟩), below_iter _ _ _⟩
        rcases h2 with h2 | h2
        · exact .inl (by omega)
        · exact .inr (by simpa using h2)
      · have h1 : ((Utf8.decode s 0).1 : Int) = 65533 := by assumption
        have h2 : (3 ≤ (s.size : Int) ∧ (!(s.extract 0 3).toList == [239, 191, 189]) = false) := by assumption
        go_ret3
        refine ⟨ret3 ?_, below_iter _ _ _⟩
        rw [gf_good hp ?_, h1]
        rintro ⟨_, h3 | h3⟩
        · omega
        · exact h3 (by simpa using h2.2)
      · have h1 : ((Utf8.decode s 0).1 : Int) = 65533 := by assumption
        have h2 : (s.size : Int) < 3 := by assumption
        go_ret3
        exact ⟨ret3 (gf_bad hp ⟨by omega, .inl (by omega)⟩), below_iter _ _ _⟩
      · have h1 : ¬ ((Utf8.decode s 0).1 : Int) = 65533 := by assumption
        go_ret3
        exact ⟨ret3 (gf_good hp (fun h => h1 (by omega))), below_iter _ _ _⟩
    · have hnx : ∀ ty, (Instr.next (.pointer (some ⟨w.heap.size, 0, none⟩)) true ty).run Try.prog (w.iter s 0) = _ := fun ty => run_next_end w s 0 ty hp
      go_wp2
      go_ret3
      exact ⟨ret3 (gf_nil (by omega)), below_iter _ _ _⟩

end Go.Proofs.Ytaidgkmacpiajaa.Glyph

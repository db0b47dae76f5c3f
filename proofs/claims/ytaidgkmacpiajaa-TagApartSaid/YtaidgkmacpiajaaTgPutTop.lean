/- Package tag: Put itself. -/
import Derived.Test.YtaidgkmacpiajaaTgPut2
import Derived.Laws.EntriesVeiled
set_option linter.unusedVariables false
set_option linter.unusedSimpArgs false
namespace Go.Proofs.Ytaidgkmacpiajaa.Tg
open Go.RowKit Go.Proofs.Ytaidgkmacpiajaa.Plain Go.Proofs.Ytaidgkmacpiajaa.PTag Go.Proofs.YtaidgkmacpiajaaW.PrintWords

set_option maxHeartbeats 4000000 in
set_option maxRecDepth 1000000 in
theorem Put_calls (e : S25) (sp : ByteArray) (A2 : Option Addr) (c2 : Nat) (A4 : Option Addr) (c4 : Nat) (W : World) (hC2 : Kd.C k51 W A2 e.f2.length e.f2) (hc2 : e.f2.length ≤ c2) (hC4 : Kd.C k25 W A4 e.f4.length e.f4) (hc4 : e.f4.length ≤ c4) (hlen : (putT e (bl sp)).length ≤ 17592186044416) :
    Calls Try.prog 9 #[.agg #[.string e.f0, .string e.f1, .slice A2 e.f2.length c2, .string e.f3, .slice A4 e.f4.length c4], .string sp] W
      fun en W' => en = .returned (.string ⟨(putT e (bl sp)).toArray⟩) ∧ Below W.heap.size W W' := by
  have HC2 := Lib.hid hC2
  have HC4 := Lib.hid hC4
  clear hC2 hC4
  go_enter Try.func9, Try.ntmps9
  obtain ⟨n, hn⟩ : ∃ n, W.heap.size = n := ⟨_, rfl⟩
  go_wp2_with fail
  refine Calls.mono (put2_calls W (n + 1) (n + 1 + 1 + 1) (n + 1 + 1) (SizeOf.sizeOf e) e sp [] A2 c2 A4 c4 _ (Nat.le_refl _) ?c1 HC2.out hc2 HC4.out hc4 ?c2 ?c3 (by simpa using hlen)) ?c4
  case c1 => exact ((((Below.refl _ _).alloc (Nat.le_refl _) _).alloc (by simp) _).alloc (by simp; omega) _).alloc (by simp; omega) _
  case c2 =>
    refine .inl ⟨by omega, .slice none 0 0, ?_, ⟨rfl, .inl ⟨rfl, rfl⟩⟩, by simp [Value.ownBlock]⟩
    rw [Below.heap_alloc _ _ _ (by simp; omega), Below.heap_alloc _ _ _ (by simp; omega), ← show (W.alloc (.cells #[.string e.f0, .string e.f1, .slice A2 e.f2.length c2, .string e.f3, .slice A4 e.f4.length c4] 25)).heap.size = n + 1 by simp [hn]]
    exact heap_alloc_new _ _
  case c3 =>
    refine ⟨⟨?_, by simp; omega⟩, ?_, by simp⟩
    · have h3 := heap_alloc_new (((W.alloc (.cells #[.string e.f0, .string e.f1, .slice A2 e.f2.length c2, .string e.f3, .slice A4 e.f4.length c4] 25)).alloc (.cells #[.pointer none, .slice none 0 0] 43)).alloc (.cells #[putV (n + 1) (n + 1 + 1 + 1) (n + 1 + 1)] 44)) (.cells #[attrV (n + 1)] 49)
      simp only [World.size_alloc, hn] at h3
      exact h3
    · rw [Below.heap_alloc _ _ _ (by simp; omega)]
      have h3 := heap_alloc_new ((W.alloc (.cells #[.string e.f0, .string e.f1, .slice A2 e.f2.length c2, .string e.f3, .slice A4 e.f4.length c4] 25)).alloc (.cells #[.pointer none, .slice none 0 0] 43)) (.cells #[putV (n + 1) (n + 1 + 1 + 1) (n + 1 + 1)] 44)
      simp only [World.size_alloc, hn] at h3
      exact h3
  case c4 =>
    rintro en w1 ⟨rfl, h1, b1, k1⟩
    have hs := b1.size
    simp only [World.size_alloc] at hs
    have H1 := Lib.hid h1
    clear h1
    go_wp2_with fail
    refine (Try.Builder_String_any_k W.heap.size (n + 1) _ _ H1.out (by omega)).mono ?_
    rintro en w2 ⟨rfl, _, b2, _⟩
    go_wp2_with fail
    go_ret
    exact ⟨rfl, ((((((Below.refl _ _).alloc (Nat.le_refl _) _).alloc (by simp) _).alloc (by simp; omega) _).alloc (by simp; omega) _).trans b1).trans b2⟩

end Go.Proofs.Ytaidgkmacpiajaa.Tg

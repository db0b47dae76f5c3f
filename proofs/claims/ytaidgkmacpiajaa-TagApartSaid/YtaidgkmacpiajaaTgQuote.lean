/- Package tag: Quote. -/
import Derived.Test.YtaidgkmacpiajaaTgLow
import Derived.Test.YtaidgkmacpiajaaBldr
import Derived.Test.YtaidgkmacpiajaaShelf
import Derived.Outline
set_option linter.unusedVariables false
set_option linter.unusedSimpArgs false
namespace Go.Proofs.Ytaidgkmacpiajaa.Tg
open Go.RowKit Go.Proofs.Ytaidgkmacpiajaa.Plain

theorem quoteL_size : ∀ (l : List UInt8) (n : Nat), l.length ≤ n → (quoteL l).length ≤ 6 * n
  | [], n, _ => by simp [quoteL]
  | c :: t, 0, h => by simp at h
  | c :: t, n + 1, h => by
    have h1 := quoteL_size t n (by simpa using h)
    have h2 := (quote1_size c).2
    unfold quoteL at *
    rw [List.flatMap_cons, List.length_append]
    omega

set_option maxHeartbeats 2000000 in
set_option maxRecDepth 1000000 in
theorem Quote_calls (s : ByteArray) (w : World) (hs : s.size ≤ 17592186044416) :
    Calls Try.prog 11 #[.string s] w fun e w' => e = .returned (.string ⟨(quoteL (bl s)).toArray⟩) ∧ Below w.heap.size w w' := by
  go_enter Try.func11, Try.ntmps11
  go_wp2
  go_loopw [8] (fun x wr => ∃ k : Nat, k ≤ s.size ∧ x = .int .i64 k ∧ Lib.IsBuilderF 43 5 w.heap.size w.heap.size (Lib.byteCells (quoteL ((bl s).take k))) wr ∧ Below w.heap.size w wr) (fun x _ => s.size - (intOf x).toNat)
  case atStart => exact ⟨0, Nat.zero_le _, rfl, Lib.IsBuilderF.of (Lib.fresh_isBuilder 43 5 w), (Below.refl _ w).alloc (Nat.le_refl _) _⟩
  case round =>
    obtain ⟨k, hk, rfl, hI, hbw⟩ := hrel
    by_cases hlt : k < s.size
    · have hq : quoteL ((bl s).take (k + 1)) = quoteL ((bl s).take k) ++ quote1 s[k] := by
        rw [List.take_succ_eq_append_getElem (by unfold bl; simpa using hlt)]
        unfold quoteL
        rw [List.flatMap_append]
        simp [bl]
        rfl
      have HQ := Lib.hid hq
      clear hq
      have hlen : (quoteL ((bl s).take k)).length ≤ 6 * k := quoteL_size _ k (by simp; omega)
      have hb256 := s[k].toNat_lt
      by_cases hm : markL s[k] = []
      · have hmk := mark_calls s[k]
        rw [hm] at hmk
        have HM := Lib.hid hm
        have HMK := Lib.hid hmk
        clear hm hmk
        go_wp2_with first
          | (go_at_call 23; (with_reducible refine Calls.mono (HMK.out _) ?_); rintro e w1 ⟨rfl, rfl⟩)
          | (go_at_call 24; refine Calls.mono (Bldr.WriteByte_k w.heap.size w.heap.size _ _ _ hI (by rw [Lib.byteCells_length]; omega) hbw.size) ?_; rintro e w2 ⟨rfl, h2, b2, k2⟩)
        refine ⟨⟨k + 1, by omega, by go_num, ?_, hbw.trans b2⟩, by simp [intOf]; omega⟩
        rw [HQ.out, Lib.byteCells_append, show quote1 s[k] = [s[k]] by unfold quote1; rw [if_pos HM.out]]
        exact Or.inr h2
      · have hmk := mark_calls s[k]
        have hms := (quote1_size s[k]).2
        rw [show quote1 s[k] = markL s[k] by unfold quote1; rw [if_neg hm]] at hms
        have HM := Lib.hid hm
        obtain ⟨m, hmm⟩ : ∃ m : ByteArray, (⟨(markL s[k]).toArray⟩ : ByteArray) = m := ⟨_, rfl⟩
        have hne : (!m.toList.isEmpty) = true := by
          rw [← hmm, ByteArray.toList_eq]; simpa using hm
        have hsz : m.size ≤ 6 := by rw [← hmm]; show (markL s[k]).toArray.size ≤ 6; simpa using hms
        rw [hmm] at hmk
        have HMM := Lib.hid hmm
        have HMK := Lib.hid hmk
        clear hm hmk hmm hms
        go_wp2_with first
          | (go_at_call 23; (with_reducible refine Calls.mono (HMK.out _) ?_); rintro e w1 ⟨rfl, rfl⟩)
          | (go_at_call 18; refine Calls.mono (Bldr.WriteString_k w.heap.size w.heap.size _ m _ hI (by rw [Lib.byteCells_length]; omega) hbw.size) ?_; rintro e w2 ⟨rfl, h2, b2, k2⟩)
        refine ⟨⟨k + 1, by omega, by go_num, ?_, hbw.trans b2⟩, by simp [intOf]; omega⟩
        rw [HQ.out, Lib.byteCells_append, show quote1 s[k] = m.data.toList by unfold quote1; rw [if_neg HM.out, ← HMM.out]]
        exact Or.inr h2
    · obtain rfl : k = s.size := by omega
      go_wp2_with (go_at_call 20; refine (Try.Builder_String_any_k w.heap.size w.heap.size _ _ hI hbw.size).mono ?_; rintro e W1 ⟨rfl, _, b1, _⟩)
      go_ret
      rw [List.take_of_length_le (by unfold bl; simp)]
      exact ⟨rfl, hbw.trans b1⟩

end Go.Proofs.Ytaidgkmacpiajaa.Tg

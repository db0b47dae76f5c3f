/- container/heap's up over the timers. -/
import Derived.Test.YtpofkfhpdokoeaaTmHeap
import Derived.Outline
set_option linter.unusedVariables false
set_option linter.unusedSimpArgs false
namespace Go.Proofs.Ytpofkfhpdokoeaa.Tm
open Go.RowKit

set_option maxHeartbeats 1000000 in
theorem up_calls (B p f j : Nat) (hs : List Al) (last : Int) (w : World) (h : TM w B p hs last) (h1000 : hs.length ≤ 1000) (hj : j < hs.length) (hf : j < f) :
    Calls Try.prog 24 #[H p, .int .i64 j] w fun e w' => e = .returned (.tuple #[]) ∧ TM w' B p (upF f hs j) last ∧ Fr p w w' := by
  unfold H
  go_enter Try.func24, Try.ntmps24
  go_wp2
  go_loopw [1] (fun j' wr => ∃ (k f' : Nat) (hs' : List Al), j' = .int .i64 k ∧ k < hs.length ∧ k < f' ∧ Hid (hs'.length = hs.length) ∧ Hid (TM wr B p hs' last) ∧ Hid (Fr p w wr) ∧ Hid (upF f' hs' k = upF f hs j)) (fun i _ => (intOf i).toNat)
  case atStart => exact ⟨j, f, hs, rfl, hj, hf, rfl, h, Fr.refl p w, rfl⟩
  case round =>
    obtain ⟨k, f', hs', rfl, hk, hkf, hl, ht, hfr, hu⟩ := hrel
    by_cases hk0 : k = 0
    · subst hk0
      go_wp2
      go_end0
      refine ⟨rfl, ?_, hfr.out⟩
      rw [← hu.out]
      obtain ⟨f'', rfl⟩ : ∃ m, f' = m + 1 := ⟨f' - 1, by omega⟩
      exact ht.out
    obtain ⟨m, hm⟩ : ∃ m, m = (k - 1) / 2 := ⟨_, rfl⟩
    have hmk : m < k := by omega
    have hq2 : ((k : Int) - 1).tdiv 2 = (m : Int) := by rw [Int.tdiv_eq_ediv_of_nonneg (by omega)]; omega
    have hne : ((m : Int) == (k : Int)) = false := by simp; omega
    obtain ⟨f'', rfl⟩ : ∃ m, f' = m + 1 := ⟨f' - 1, by omega⟩
    have hup : upF (f'' + 1) hs' k = if lessAt hs' k m then upF f'' (swapF hs' m k) m else hs' := by
      rw [hm]; rw [upF, if_neg (by omega)]
    rw [hup] at hu
    have HU := Lib.hid hu.out
    have HM := Lib.hid hm
    clear hup hu hm
    obtain ⟨g, cap, hp, hr⟩ := ht.out.opened (by rw [hl.out]; omega)
    obtain ⟨p0, _, _⟩ := cell_p0 hp
    have hmL := m_Less ⟨p, 0, none⟩ _ wr p0
    have hnL := n_Less ⟨p, 0, none⟩ wr
    have HR := Lib.hid hr
    clear hr hp
    have hless := Less_tm HR.out rfl (by rw [hl.out]; exact h1000) k m (by rw [hl.out]; omega) (by rw [hl.out]; omega)
    cases hq : lessAt hs' k m with
    | false =>
      rw [hq] at hless
      have HQ := Lib.hid hq
      clear hq
      go_wp2_with (go_at_call 44; refine hless.mono ?_; rintro e w' ⟨rfl, hb⟩)
      go_end0
      obtain ⟨h1, h2⟩ := ht.out.below hb
      refine ⟨rfl, ?_, hfr.out.trans h2⟩
      rw [← HU.out, HQ.out]
      exact h1
    | true =>
      rw [hq] at hless
      have HQ := Lib.hid hq
      clear hq
      go_wp2_with first
        | (go_at_call 44; refine hless.mono ?_; rintro e w1 ⟨rfl, hb⟩; obtain ⟨h1, h2⟩ := ht.out.below hb; obtain ⟨g1, cap1, hp1, hr1⟩ := h1.opened (by rw [hl.out]; omega); obtain ⟨p1, _, _⟩ := cell_p0 hp1; have hmS := m_Swap ⟨p, 0, none⟩ _ w1 p1; have hnS := n_Swap ⟨p, 0, none⟩ w1; have hsw := Lib.hid (Swap_tm h1 hp1 hr1 (by rw [hl.out]; exact h1000) m k (by rw [hl.out]; omega) (by rw [hl.out]; omega)); clear hr1 hp1 h1; have H2 := Lib.hid h2; clear h2)
        | (go_at_call 45; refine hsw.out.mono ?_; rintro e w2 ⟨rfl, h3, h4⟩)
      refine ⟨⟨m, f'', swapF hs' m k, rfl, by omega, by omega, ?_, h3, hfr.out.trans (H2.out.trans h4), ?_⟩, by simp [intOf]; omega⟩
      · show (swapF hs' m k).length = hs.length
        rw [swapF_length]; exact hl.out
      · show upF f'' (swapF hs' m k) m = upF f hs j
        rw [← HU.out, HQ.out]; rfl

end Go.Proofs.Ytpofkfhpdokoeaa.Tm

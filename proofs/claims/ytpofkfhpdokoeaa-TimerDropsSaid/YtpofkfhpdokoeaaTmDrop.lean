/- timer.Timers: Drop. -/
import Derived.Test.YtpofkfhpdokoeaaTmMeth
set_option linter.unusedVariables false
set_option linter.unusedSimpArgs false
namespace Go.Proofs.Ytpofkfhpdokoeaa.Tm
open Go.RowKit

/-- slices.DeleteFunc at whatever row, a nil one too. -/
theorem Delete_all (kb : Nat) (key : ByteArray) (v : Value) (B : Nat) (hs : List Al) (w : World) (hr : w.ownsRow B 52 3 v hs.length (cellsL hs)) (h1000 : hs.length ≤ 1000) (hk : w.cell? ⟨kb, 0, none⟩ = some (.string key)) (hkg : some kb ≠ v.ownBlock) :
    Calls Try.prog 19 #[v, .func (.func 20) #[] #[.pointer (some ⟨kb, 0, none⟩)]] w fun e w' => ∃ a cap, e = .returned (.slice a (keep key hs).length cap) ∧ w'.ownsRow B 52 3 (.slice a (keep key hs).length cap) (keep key hs).length (cellsL (keep key hs)) ∧ w.grownBy w' v.ownBlock ∧ (Value.slice a (keep key hs).length cap).ownBlock = v.ownBlock := by
  rcases hr.2 with ⟨rfl, h'⟩ | ⟨g, cap, cur, rfl, _⟩
  · have hx : hs = [] := List.eq_nil_of_length_eq_zero h'
    subst hx
    have hidx := Index_calls 20 kb key (enters_of Try.func20 (by kernel_rfl) rfl) _ B [] w hr h1000 (fun W a hb => by
      have hlt := World.block_lt_of_cell? w _ hk
      exact (dropFn_calls kb key a W ((hb.cell (p := ⟨kb, 0, none⟩) hlt).trans hk)).mono fun e w' ⟨h1, h2⟩ => ⟨h1, hb.trans (h2.mono hb.size)⟩)
    rw [show idx key [] = -1 from rfl] at hidx
    have HI := Lib.hid hidx
    refine Calls.mono (R := fun e w' => e = .returned (.slice none 0 0) ∧ Below w.heap.size w w') ?_ ?_
    · clear hr hk hidx h' h1000
      go_enter Try.func19, Try.ntmps19
      go_wp2_with (go_at_call 26; refine Calls.mono HI.out ?_; rintro e w1 ⟨rfl, hb1⟩)
      go_ret
      exact ⟨rfl, hb1⟩
    · rintro e w' ⟨rfl, hb⟩
      exact ⟨none, 0, rfl, World.ownsRow_nil _ _ _ _, ⟨hb.os, hb.tape, hb.output, hb.size, fun k hk _ => hb.block k hk⟩, rfl⟩
  · exact (Delete_calls kb key g cap B hs w hr h1000 hk (by simpa [Value.ownBlock] using hkg)).mono fun e w' ⟨h1, h2, h3⟩ => ⟨_, cap, h1, h2, h3, rfl⟩

set_option maxHeartbeats 1000000 in
theorem Drop_calls (key : ByteArray) (B p : Nat) (hs : List Al) (last : Int) (w : World) (h : TM w B p hs last) (h1000 : hs.length ≤ 1000) : Calls Try.prog 14 #[P p, .string key] w fun e w' => e = .returned (.int .i64 ((hs.length : Int) - (keep key hs).length)) ∧ TM w' B p (dropF key hs) last ∧ Fr p w w' := by
  unfold P
  have hb := (Below.refl w.heap.size w).alloc (Nat.le_refl _) (.cells #[.string key] 9)
  obtain ⟨h1, hf1⟩ := h.below hb
  have h1' := h1
  obtain ⟨v, hB, hp, hr⟩ := h1'
  have hk := cell_key w key
  have hne : some w.heap.size ≠ v.ownBlock := fun e => by
    have := (h.below hb).2.owns w.heap.size (by rw [own_of hp]; exact e.symm)
    rcases hr.2 with ⟨rfl, _⟩ | ⟨g', cap, cur, rfl, _, hg', _⟩
    · simp [Value.ownBlock] at e
    · simp [Value.ownBlock] at e
      subst e
      rw [heap_alloc_new] at hg'
      simp at hg'
  have hd := Delete_all w.heap.size key v B hs _ hr h1000 hk hne
  obtain ⟨a0, cap0, rfl⟩ : ∃ a cap, v = .slice a hs.length cap := by
    rcases hr.2 with ⟨rfl, h'⟩ | ⟨g, cap, cur, rfl, _⟩
    · exact ⟨none, 0, by rw [h']⟩
    · exact ⟨_, cap, rfl⟩
  have p0 := (cell_p0 hp).1
  have pf0 := (cell_p0 hp).2.2 0
  have HD := Lib.hid hd
  have HB := Lib.hid hb
  have HF := Lib.hid hf1
  have HP := Lib.hid hp
  have HR := Lib.hid hr
  have HT := Lib.hid h1
  have hkl : (keep key hs).length ≤ 1000 := Nat.le_trans (List.length_filter_le _ _) h1000
  have HHI := Lib.hid (fun W hW => hInit_calls B p (keep key hs) last W hW (Nat.le_trans (List.length_filter_le _ _) h1000))
  clear hd hb hp hr hk h hne h1 hf1
  unfold H at HHI
  go_enter Try.func14, Try.ntmps14
  go_wp2_with first
    | (go_at_call 19; refine Calls.mono HD.out ?_; rintro e w2 ⟨a1, cap1, rfl, h2, h3, h4⟩; have hp2 := (h3.block p HT.out.lt.2 (row_kind HP.out HR.out)).trans HP.out; have q0 := (cell_p0 hp2).1; have qf0 := (cell_p0 hp2).2.2 0; have HE := Lib.hid (push_end HF.out hB HP.out HR.out (Below.refl _ _) h3 h2 (fun g hg => .inl (by rw [← h4]; exact hg))); clear h2 h3 h4 hp2)
    | (go_at_call 21; refine Calls.mono (HHI.out _ HE.out.1) ?_; rintro e w3 ⟨rfl, h5, hf5⟩; obtain ⟨a2, cap2, r0⟩ := h5.cell; rw [(initF_perm _ _ _).length_eq] at r0; have H5 := Lib.hid h5; have HF5 := Lib.hid hf5; clear h5 hf5)
  go_ret
  exact ⟨rfl, H5.out, HE.out.2.trans HF5.out⟩

end Go.Proofs.Ytpofkfhpdokoeaa.Tm

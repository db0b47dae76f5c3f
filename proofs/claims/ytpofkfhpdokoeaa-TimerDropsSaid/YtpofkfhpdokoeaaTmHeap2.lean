/- container/heap's Push, Pop and Init over the timers. -/
import Derived.Test.YtpofkfhpdokoeaaTmPush
set_option linter.unusedVariables false
set_option linter.unusedSimpArgs false
namespace Go.Proofs.Ytpofkfhpdokoeaa.Tm
open Go.RowKit

theorem up_calls' (B p j : Nat) (x : Int) (hs : List Al) (last : Int) (w : World) (h : TM w B p hs last) (h1000 : hs.length ≤ 1000) (hj : j < hs.length) (hx : x = j) :
    Calls Try.prog 24 #[H p, .int .i64 x] w fun e w' => e = .returned (.tuple #[]) ∧ TM w' B p (upF (j + 1) hs j) last ∧ Fr p w w' := by
  subst hx
  exact up_calls B p (j + 1) j hs last w h h1000 hj (Nat.lt_succ_self _)

set_option maxHeartbeats 1000000 in
theorem hPush_calls (B p : Nat) (hs : List Al) (last : Int) (a : Al) (w : World) (h : TM w B p hs last) (h1000 : hs.length + 1 ≤ 1000) (hB : B ≤ w.heap.size) :
    Calls Try.prog 17 #[H p, .iface 52 (encA a)] w fun e w' => e = .returned (.tuple #[]) ∧ TM w' B p (pushF hs a) last ∧ Fr p w w' := by
  have HU := Lib.hid (up_calls' (B := B) (p := p) (j := hs.length) (hs := hs ++ [a]) (last := last))
  unfold H at *
  have hpu := aPush_calls B p hs last a w h (by omega) hB
  have HPU := Lib.hid hpu
  clear hpu
  generalize encA a = x at *
  have hmP := m_Push ⟨p, 0, none⟩ w
  have hnP := n_Push ⟨p, 0, none⟩ w
  go_enter Try.func17, Try.ntmps17
  go_wp2_with first
    | (go_at_call 50; refine Calls.mono HPU.out ?_; rintro e w1 ⟨rfl, h1, hf1⟩; obtain ⟨g, cap, hA⟩ := h1.at (by simp); have hmL := hA.mLen; have hnL := n_Len ⟨p, 0, none⟩ w1; have HF1 := Lib.hid hf1; have HA := Lib.hid hA; clear hA hf1 h1)
    | (go_at_call 43; refine Calls.mono (aLen_calls _ _ _ _) ?_; rintro e w2 ⟨rfl, rfl⟩)
    | (go_at_call 24; refine Calls.mono (HU.out _ _ HA.out.tm (by simp; omega) (by simp) (by simp)) ?_; rintro e w3 ⟨rfl, h3, hf3⟩)
  go_end0
  exact ⟨rfl, h3, HF1.out.trans hf3⟩

set_option maxHeartbeats 2000000 in
theorem aPop_calls (B p : Nat) (hs xs : List Al) (last : Int) (a : Al) (w : World) (h : TM w B p hs last) (hx : hs = xs ++ [a]) (h1000 : hs.length ≤ 1000) :
    Calls Try.prog 49 #[.pointer (some ⟨p, 0, none⟩)] w fun e w' => e = .returned (.iface 52 (encA a)) ∧ TM w' B p xs last ∧ Fr p w w' := by
  unfold encA
  have hl : hs.length = xs.length + 1 := by rw [hx]; simp
  obtain ⟨g, cap, hA⟩ := h.at (by omega)
  obtain ⟨p0, p1, pf⟩ := cell_p0 hA.hp
  have pf0 := pf 0
  obtain ⟨a0, a1, a2⟩ := row_cells hA.hr rfl xs.length (by omega)
  rw [show hs[xs.length] = a by simp [hx]] at a0 a1 a2
  have HA := Lib.hid hA
  rw [hl] at p0
  have hcap : xs.length ≤ cap := by
    rcases hA.hr.2 with ⟨h, _⟩ | ⟨_, c, _, hv, _, _, hc, _⟩
    · cases h
    · cases hv; omega
  have hcap2 : cap ≤ 9223372036854775807 := by
    rcases hA.hr.2 with ⟨h, _⟩ | ⟨_, c, _, hv, _, _, _, hc, _⟩
    · cases h
    · cases hv; simp only [maxLen] at hc; omega
  have hlt := hA.tm.lt.2
  have hb0 := (Below.refl w.heap.size w).alloc (Nat.le_refl _) (.cells #[.int .i64 a.at_, .int .i64 a.num, .string a.key] 52)
  have q0 : (w.alloc (.cells #[.int .i64 a.at_, .int .i64 a.num, .string a.key] 52)).cell? ⟨p, 0, none⟩ = some (.slice (some ⟨g, 0, none⟩) (xs.length + 1) cap) := (hb0.cell (p := ⟨p, 0, none⟩) hlt).trans p0
  have qf0 : (w.alloc (.cells #[.int .i64 a.at_, .int .i64 a.num, .string a.key] 52)).frozen? ⟨p, 0, none⟩ = false := (hb0.frozen (p := ⟨p, 0, none⟩) hlt).trans pf0
  have hne : ¬ p = w.heap.size := by omega
  have hne2 : ¬ w.heap.size = p := by omega
  have HB0 := Lib.hid hb0
  have hpop : w.ownsRow B 52 3 (.slice (some ⟨g, 0, none⟩) xs.length cap) xs.length (cellsL xs) := by
    have h1 := hA.hr
    rw [hl, hx, cellsL_append] at h1
    exact ownsRow_pop (cellsL_length xs) h1
  have hend := push_end (v' := .slice (some ⟨g, 0, none⟩) xs.length cap) (Fr.refl p w) hA.le hA.hp hA.hr (Below.refl _ w) (⟨rfl, rfl, rfl, Nat.le_refl _, fun _ _ _ => rfl⟩ : w.grownBy w _) hpop (fun g' hg' => .inl hg')
  have hend2 := hend.1.below ((Below.refl _ _).alloc (Nat.le_refl _) (.cells #[.int .i64 a.at_, .int .i64 a.num, .string a.key] 52))
  have HE := Lib.hid (And.intro hend2.1 (hend.2.trans hend2.2))
  clear hA h pf hx hb0 hpop hend hend2
  go_enter Try.func49, Try.ntmps49
  go_wp2
  go_ret
  exact ⟨rfl, HE.out⟩

theorem down_calls' (B p f i n : Nat) (x y : Int) (hs : List Al) (last : Int) (w : World) (h : TM w B p hs last) (h1000 : hs.length ≤ 1000) (hn : n ≤ hs.length) (hi : i ≤ 1000) (hf : n ≤ i + f) (hx : x = i) (hy : y = n) :
    Calls Try.prog 25 #[H p, .int .i64 x, .int .i64 y] w fun e w' => IsBool e ∧ TM w' B p (downF f hs i n) last ∧ Fr p w w' := by
  subst hx; subst hy
  exact down_calls B p f i n hs last w h h1000 hn hi hf

set_option maxHeartbeats 2000000 in
theorem hPop_calls (B p : Nat) (hs : List Al) (last : Int) (a : Al) (w : World) (h : TM w B p hs last) (h1000 : hs.length ≤ 1000) (ha : hs[0]? = some a) :
    Calls Try.prog 18 #[H p] w fun e w' => e = .returned (.iface 52 (encA a)) ∧ TM w' B p (popF hs).dropLast last ∧ Fr p w w' := by
  have h0 : 0 < hs.length := (List.getElem?_eq_some_iff.1 ha).1
  have HD := Lib.hid (down_calls' (B := B) (p := p) (f := hs.length) (i := 0) (n := hs.length - 1) (hs := swapF hs 0 (hs.length - 1)) (last := last))
  have HP := Lib.hid (aPop_calls B p (popF hs) (popF hs).dropLast last a)
  have HS := Lib.hid (popF_split ha)
  unfold H at *
  generalize encA a = x at *
  clear ha
  obtain ⟨g, cap, hA⟩ := h.at h0
  have hmL := hA.mLen
  have hnL := n_Len ⟨p, 0, none⟩ w
  have hmS := hA.mSwap
  have hnS := n_Swap ⟨p, 0, none⟩ w
  have HA := Lib.hid hA
  clear hA h
  go_enter Try.func18, Try.ntmps18
  go_wp2_with first
    | (go_at_call 43; refine Calls.mono (aLen_calls _ _ _ _) ?_; rintro e w2 ⟨rfl, rfl⟩)
    | (go_at_call 45; refine Calls.mono (HA.out.swap h1000 0 (hs.length - 1) (by omega) (by omega) (by omega) (by omega)) ?_; rintro e w3 ⟨rfl, h3, hf3⟩; have H3 := Lib.hid h3; have HF3 := Lib.hid hf3; clear h3 hf3)
    | (go_at_call 25; refine Calls.mono (HD.out _ _ _ H3.out (by rw [swapF_length]; exact h1000) (by rw [swapF_length]; omega) (by omega) (by omega) (by omega) (by omega)) ?_; rintro e w4 ⟨⟨b, rfl⟩, h4, hf4⟩; have hmP := m_Pop ⟨p, 0, none⟩ w4; have hnP := n_Pop ⟨p, 0, none⟩ w4; have H4 := Lib.hid h4; have HF4 := Lib.hid hf4; clear h4 hf4)
    | (go_at_call 49; refine Calls.mono (HP.out _ H4.out HS.out (by rw [popF_length]; exact h1000)) ?_; rintro e w5 ⟨rfl, h5, hf5⟩)
  go_ret
  exact ⟨rfl, h5, HF3.out.trans (HF4.out.trans hf5)⟩

theorem TM.cell {w : World} {B p : Nat} {hs : List Al} {last : Int} (h : TM w B p hs last) : ∃ a cap, w.cell? ⟨p, 0, none⟩ = some (.slice a hs.length cap) := by
  obtain ⟨v, hB, hp, hr⟩ := h
  rcases hr.2 with ⟨rfl, h'⟩ | ⟨g, cap, cur, rfl, _⟩
  · exact ⟨none, 0, by rw [h']; exact (cell_p0 hp).1⟩
  · exact ⟨_, cap, (cell_p0 hp).1⟩

set_option maxHeartbeats 2000000 in
theorem hInit_calls (B p : Nat) (hs : List Al) (last : Int) (w : World) (h : TM w B p hs last) (h1000 : hs.length ≤ 1000) :
    Calls Try.prog 21 #[H p] w fun e w' => e = .returned (.tuple #[]) ∧ TM w' B p (initF (hs.length / 2) hs.length hs) last ∧ Fr p w w' := by
  have HD := Lib.hid (down_calls' (B := B) (p := p) (f := hs.length + 1) (n := hs.length) (last := last))
  unfold H at *
  obtain ⟨a, cap, hc⟩ := h.cell
  have hmL := m_Len ⟨p, 0, none⟩ _ w hc
  have hnL := n_Len ⟨p, 0, none⟩ w
  obtain ⟨m, hm⟩ : ∃ m, m = hs.length / 2 := ⟨_, rfl⟩
  have hm2 : (hs.length : Int).tdiv 2 = (m : Int) := by rw [Int.tdiv_eq_ediv_of_nonneg (by omega)]; omega
  have hmn : m ≤ hs.length := by omega
  rw [← hm]
  clear hm
  have HT := Lib.hid h
  clear h
  go_enter Try.func21, Try.ntmps21
  go_wp2_with first
    | (go_at_call 43; refine Calls.mono (aLen_calls _ _ _ _) ?_; rintro e w2 ⟨rfl, rfl⟩)
  clear hmL hnL hc hm2
  go_loopw [3] (fun x wr => ∃ (k : Nat) (hs' : List Al), x = .int .i64 ((k : Int) - 1) ∧ k ≤ hs.length ∧ Hid (hs'.length = hs.length) ∧ Hid (TM wr B p hs' last) ∧ Hid (Fr p w2 wr) ∧ Hid (initF k hs.length hs' = initF m hs.length hs)) (fun x _ => (intOf x + 1).toNat)
  case atStart => exact ⟨m, hs, rfl, hmn, rfl, HT.out, Fr.refl _ _, rfl⟩
  case round =>
    obtain ⟨k, hs', rfl, hk, hl, ht, hfr, hu⟩ := hrel
    cases k with
    | zero =>
      go_wp2
      go_end0
      refine ⟨rfl, ?_, hfr.out⟩
      rw [← hu.out]
      exact ht.out
    | succ k' =>
      go_wp2_with (go_at_call 25; refine Calls.mono (HD.out k' _ _ hs' _ ht.out (by rw [hl.out]; exact h1000) (by rw [hl.out]; exact Nat.le_refl _) (by omega) (by omega) (by omega) rfl) ?_; rintro e w4 ⟨⟨b, rfl⟩, h4, hf4⟩)
      refine ⟨⟨k', downF (hs.length + 1) hs' k' hs.length, by go_num, by omega, ?_, h4, hfr.out.trans hf4, ?_⟩, by simp [intOf]⟩
      · show (downF _ _ _ _).length = hs.length
        rw [(downF_perm _ _ _ _).length_eq]; exact hl.out
      · show initF k' hs.length (downF (hs.length + 1) hs' k' hs.length) = initF m hs.length hs
        rw [← hu.out]; rfl

end Go.Proofs.Ytpofkfhpdokoeaa.Tm

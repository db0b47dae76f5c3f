/- container/heap's down over the timers. -/
import Derived.Test.YtpofkfhpdokoeaaTmUp
set_option linter.unusedVariables false
set_option linter.unusedSimpArgs false
namespace Go.Proofs.Ytpofkfhpdokoeaa.Tm
open Go.RowKit

/-- A Timers that holds something, its row at g. -/
structure At (w : World) (B p : Nat) (hs : List Al) (last : Int) (g cap : Nat) : Prop where
  le : B ≤ p
  hp : w.heap[p]? = some (.cells #[.slice (some ⟨g, 0, none⟩) hs.length cap, .int .i64 last] 48 (0, 0))
  hr : w.ownsRow B 52 3 (.slice (some ⟨g, 0, none⟩) hs.length cap) hs.length (cellsL hs)

theorem TM.at {w : World} {B p : Nat} {hs : List Al} {last : Int} (h : TM w B p hs last) (h0 : 0 < hs.length) : ∃ g cap, At w B p hs last g cap := by
  obtain ⟨g, cap, hp, hr⟩ := h.opened h0
  exact ⟨g, cap, h.lt.1, hp, hr⟩

theorem At.tm {w : World} {B p g cap : Nat} {hs : List Al} {last : Int} (h : At w B p hs last g cap) : TM w B p hs last := ⟨_, h.le, h.hp, h.hr⟩

theorem At.below {w w' : World} {B p g cap : Nat} {hs : List Al} {last : Int} (h : At w B p hs last g cap) (hb : Below w.heap.size w w') : At w' B p hs last g cap := by
  refine ⟨h.le, by rw [hb.block p h.tm.lt.2]; exact h.hp, ?_⟩
  refine h.hr.kept (row := none) ⟨hb.os, hb.tape, hb.output, hb.size, fun k hk _ => hb.block k hk⟩ ?_
  simp [Value.ownBlock]

theorem At.mLess {w : World} {B p g cap : Nat} {hs : List Al} {last : Int} (h : At w B p hs last g cap) : (method 188 50 (.pointer (some ⟨p, 0, none⟩)) "Less").run Try.prog w = .ok (44, .slice (some ⟨g, 0, none⟩) hs.length cap) w := m_Less _ _ w (cell_p0 h.hp).1
theorem At.mSwap {w : World} {B p g cap : Nat} {hs : List Al} {last : Int} (h : At w B p hs last g cap) : (method 188 50 (.pointer (some ⟨p, 0, none⟩)) "Swap").run Try.prog w = .ok (45, .slice (some ⟨g, 0, none⟩) hs.length cap) w := m_Swap _ _ w (cell_p0 h.hp).1
theorem At.mLen {w : World} {B p g cap : Nat} {hs : List Al} {last : Int} (h : At w B p hs last g cap) : (method 188 50 (.pointer (some ⟨p, 0, none⟩)) "Len").run Try.prog w = .ok (43, .slice (some ⟨g, 0, none⟩) hs.length cap) w := m_Len _ _ w (cell_p0 h.hp).1

theorem At.less {w : World} {B p g cap : Nat} {hs : List Al} {last : Int} (h : At w B p hs last g cap) (h1000 : hs.length ≤ 1000) (i j : Nat) (b : Bool) (hb : Hid (lessAt hs i j = b)) {x y : Int} (hx : x = i) (hy : y = j) (hi : i < hs.length) (hj : j < hs.length) :
    Calls Try.prog 44 #[.slice (some ⟨g, 0, none⟩) hs.length cap, .int .i64 x, .int .i64 y] w fun e w' => e = .returned (.bool b) ∧ Below w.heap.size w w' := by
  subst hx; subst hy
  exact hb.out ▸ Less_tm h.hr rfl h1000 i j hi hj

theorem At.swap {w : World} {B p g cap : Nat} {hs : List Al} {last : Int} (h : At w B p hs last g cap) (h1000 : hs.length ≤ 1000) (i j : Nat) {x y : Int} (hx : x = i) (hy : y = j) (hi : i < hs.length) (hj : j < hs.length) :
    Calls Try.prog 45 #[.slice (some ⟨g, 0, none⟩) hs.length cap, .int .i64 x, .int .i64 y] w fun e w' => e = .returned (.tuple #[]) ∧ TM w' B p (swapF hs i j) last ∧ Fr p w w' := by
  subst hx; subst hy
  exact Swap_tm h.tm h.hp h.hr h1000 i j hi hj

def IsBool (e : Ending) : Prop := ∃ b, e = .returned (.bool b)

set_option maxHeartbeats 2000000 in
theorem down_calls (B p f i n : Nat) (hs : List Al) (last : Int) (w : World) (h : TM w B p hs last) (h1000 : hs.length ≤ 1000) (hn : n ≤ hs.length) (hi : i ≤ 1000) (hf : n ≤ i + f) :
    Calls Try.prog 25 #[H p, .int .i64 i, .int .i64 n] w fun e w' => IsBool e ∧ TM w' B p (downF f hs i n) last ∧ Fr p w w' := by
  unfold H
  go_enter Try.func25, Try.ntmps25
  go_wp2
  go_loopw [7] (fun j' wr => ∃ (k f' : Nat) (hs' : List Al), j' = .int .i64 k ∧ k ≤ 1000 ∧ Hid (n ≤ k + f') ∧ Hid (hs'.length = hs.length) ∧ Hid (TM wr B p hs' last) ∧ Hid (Fr p w wr) ∧ Hid (downF f' hs' k n = downF f hs i n)) (fun i _ => n - (intOf i).toNat)
  case atStart => exact ⟨i, f, hs, rfl, hi, hf, rfl, h, Fr.refl p w, rfl⟩
  case round =>
    obtain ⟨k, f', hs', rfl, hk, hkf, hl, ht, hfr, hu⟩ := hrel
    by_cases hnk : n ≤ 2 * k + 1
    · go_wp2
      go_ret
      refine ⟨⟨_, rfl⟩, ?_, hfr.out⟩
      rw [← hu.out]
      cases f' with
      | zero => exact ht.out
      | succ f'' => rw [downF, if_pos hnk]; exact ht.out
    · obtain ⟨f'', rfl⟩ : ∃ m, f' = m + 1 := ⟨f' - 1, by have := hkf.out; omega⟩
      have hdn : downF (f'' + 1) hs' k n = if lessAt hs' (child hs' k n) k then downF f'' (swapF hs' k (child hs' k n)) (child hs' k n) n else hs' := by
        rw [downF, if_neg hnk]
      rw [hdn] at hu
      have HU := Lib.hid hu.out
      clear hdn hu
      obtain ⟨g, cap, hA⟩ := ht.out.at (by rw [hl.out]; omega)
      have hl1000 : hs'.length ≤ 1000 := by rw [hl.out]; exact h1000
      have hnl : n ≤ hs'.length := by rw [hl.out]; exact hn
      obtain ⟨c, hc⟩ : ∃ c, c = child hs' k n := ⟨_, rfl⟩
      have hcn : c < n := hc ▸ child_lt hnk
      have hck : k < c := hc ▸ child_gt hs' k n
      rw [← hc] at HU
      have HA := Lib.hid hA
      have HC := Lib.hid hc
      clear hA hc ht
      have last_part : ∀ (w1 : World) (cc : Int), cc = c → At w1 B p hs' last g cap → True := fun _ _ _ _ => trivial
      clear last_part
      have hmL := HA.out.mLess
      have hnL := n_Less ⟨p, 0, none⟩ wr
      by_cases h2 : 2 * k + 2 < n
      · cases hq1 : lessAt hs' (2 * k + 2) (2 * k + 1) with
        | true =>
          have hcc : Hid (c = 2 * k + 2) := by
            show c = _
            rw [HC.out]; unfold child; rw [if_pos (by omega), if_pos hq1]
          have HQ1 := Lib.hid hq1
          clear hq1
          cases hq : lessAt hs' (2 * k + 2) k with
          | true =>
            have HQ := Lib.hid hq
            clear hq
            go_wp2_with first
              | (go_at_call 44; refine Calls.mono (HA.out.less hl1000 (2 * k + 2) (2 * k + 1) _ HQ1 (by omega) (by omega) (by omega) (by omega)) ?_; rintro e w1 ⟨rfl, hb⟩; have hA1 := HA.out.below hb; have hmL1 := hA1.mLess; have hnL1 := n_Less ⟨p, 0, none⟩ w1; have HA1 := Lib.hid hA1; clear hA1)
              | (go_at_call 44; refine Calls.mono (HA1.out.less hl1000 (2 * k + 2) k _ HQ (by omega) (by omega) (by omega) (by omega)) ?_; rintro e w2 ⟨rfl, hb2⟩; have hA2 := HA1.out.below hb2; have hmS := hA2.mSwap; have hnS := n_Swap ⟨p, 0, none⟩ w2; have HA2 := Lib.hid hA2; clear hA2)
              | (go_at_call 45; refine Calls.mono (HA2.out.swap hl1000 k (2 * k + 2) (by omega) (by omega) (by omega) (by omega)) ?_; rintro e w3 ⟨rfl, h3, h4⟩)
            refine ⟨⟨2 * k + 2, f'', swapF hs' k (2 * k + 2), by go_num, by omega, ?_, ?_, h3, hfr.out.trans ((HA.out.tm.below hb).2.trans ((HA1.out.tm.below hb2).2.trans h4)), ?_⟩, by simp [intOf]; omega⟩
            · show n ≤ 2 * k + 2 + f''
              have := hkf.out; omega
            · show (swapF hs' k (2 * k + 2)).length = hs.length
              rw [swapF_length]; exact hl.out
            · show downF f'' (swapF hs' k (2 * k + 2)) (2 * k + 2) n = downF f hs i n
              rw [← HU.out, hcc.out, HQ.out]; rfl
          | false =>
            have HQ := Lib.hid hq
            clear hq
            go_wp2_with first
              | (go_at_call 44; refine Calls.mono (HA.out.less hl1000 (2 * k + 2) (2 * k + 1) _ HQ1 (by omega) (by omega) (by omega) (by omega)) ?_; rintro e w1 ⟨rfl, hb⟩; have hA1 := HA.out.below hb; have hmL1 := hA1.mLess; have hnL1 := n_Less ⟨p, 0, none⟩ w1; have HA1 := Lib.hid hA1; clear hA1)
              | (go_at_call 44; refine Calls.mono (HA1.out.less hl1000 (2 * k + 2) k _ HQ (by omega) (by omega) (by omega) (by omega)) ?_; rintro e w2 ⟨rfl, hb2⟩; have hA2 := HA1.out.below hb2; have hmS := hA2.mSwap; have hnS := n_Swap ⟨p, 0, none⟩ w2; have HA2 := Lib.hid hA2; clear hA2)
            go_ret
            refine ⟨⟨_, rfl⟩, ?_, hfr.out.trans ((HA.out.tm.below hb).2.trans ((HA1.out.tm.below hb2).2))⟩
            rw [← HU.out, hcc.out, HQ.out]
            exact HA2.out.tm
        | false =>
          have hcc : Hid (c = 2 * k + 1) := by
            show c = _
            rw [HC.out]; unfold child; rw [if_pos (by omega), if_neg (by rw [hq1]; exact Bool.false_ne_true)]
          have HQ1 := Lib.hid hq1
          clear hq1
          cases hq : lessAt hs' (2 * k + 1) k with
          | true =>
            have HQ := Lib.hid hq
            clear hq
            go_wp2_with first
              | (go_at_call 44; refine Calls.mono (HA.out.less hl1000 (2 * k + 2) (2 * k + 1) _ HQ1 (by omega) (by omega) (by omega) (by omega)) ?_; rintro e w1 ⟨rfl, hb⟩; have hA1 := HA.out.below hb; have hmL1 := hA1.mLess; have hnL1 := n_Less ⟨p, 0, none⟩ w1; have HA1 := Lib.hid hA1; clear hA1)
              | (go_at_call 44; refine Calls.mono (HA1.out.less hl1000 (2 * k + 1) k _ HQ (by omega) (by omega) (by omega) (by omega)) ?_; rintro e w2 ⟨rfl, hb2⟩; have hA2 := HA1.out.below hb2; have hmS := hA2.mSwap; have hnS := n_Swap ⟨p, 0, none⟩ w2; have HA2 := Lib.hid hA2; clear hA2)
              | (go_at_call 45; refine Calls.mono (HA2.out.swap hl1000 k (2 * k + 1) (by omega) (by omega) (by omega) (by omega)) ?_; rintro e w3 ⟨rfl, h3, h4⟩)
            refine ⟨⟨2 * k + 1, f'', swapF hs' k (2 * k + 1), by go_num, by omega, ?_, ?_, h3, hfr.out.trans ((HA.out.tm.below hb).2.trans ((HA1.out.tm.below hb2).2.trans h4)), ?_⟩, by simp [intOf]; omega⟩
            · show n ≤ 2 * k + 1 + f''
              have := hkf.out; omega
            · show (swapF hs' k (2 * k + 1)).length = hs.length
              rw [swapF_length]; exact hl.out
            · show downF f'' (swapF hs' k (2 * k + 1)) (2 * k + 1) n = downF f hs i n
              rw [← HU.out, hcc.out, HQ.out]; rfl
          | false =>
            have HQ := Lib.hid hq
            clear hq
            go_wp2_with first
              | (go_at_call 44; refine Calls.mono (HA.out.less hl1000 (2 * k + 2) (2 * k + 1) _ HQ1 (by omega) (by omega) (by omega) (by omega)) ?_; rintro e w1 ⟨rfl, hb⟩; have hA1 := HA.out.below hb; have hmL1 := hA1.mLess; have hnL1 := n_Less ⟨p, 0, none⟩ w1; have HA1 := Lib.hid hA1; clear hA1)
              | (go_at_call 44; refine Calls.mono (HA1.out.less hl1000 (2 * k + 1) k _ HQ (by omega) (by omega) (by omega) (by omega)) ?_; rintro e w2 ⟨rfl, hb2⟩; have hA2 := HA1.out.below hb2; have hmS := hA2.mSwap; have hnS := n_Swap ⟨p, 0, none⟩ w2; have HA2 := Lib.hid hA2; clear hA2)
            go_ret
            refine ⟨⟨_, rfl⟩, ?_, hfr.out.trans ((HA.out.tm.below hb).2.trans ((HA1.out.tm.below hb2).2))⟩
            rw [← HU.out, hcc.out, HQ.out]
            exact HA2.out.tm
      · have hcc : Hid (c = 2 * k + 1) := by
          show c = _
          rw [HC.out]; unfold child; rw [if_neg (by omega)]
        cases hq : lessAt hs' (2 * k + 1) k with
        | true =>
          have HQ := Lib.hid hq
          clear hq
          go_wp2_with first
            | (go_at_call 44; refine Calls.mono (HA.out.less hl1000 (2 * k + 1) k _ HQ (by omega) (by omega) (by omega) (by omega)) ?_; rintro e w2 ⟨rfl, hb2⟩; have hA2 := HA.out.below hb2; have hmS := hA2.mSwap; have hnS := n_Swap ⟨p, 0, none⟩ w2; have HA2 := Lib.hid hA2; clear hA2)
            | (go_at_call 45; refine Calls.mono (HA2.out.swap hl1000 k (2 * k + 1) (by omega) (by omega) (by omega) (by omega)) ?_; rintro e w3 ⟨rfl, h3, h4⟩)
          refine ⟨⟨2 * k + 1, f'', swapF hs' k (2 * k + 1), by go_num, by omega, ?_, ?_, h3, hfr.out.trans ((HA.out.tm.below hb2).2.trans h4), ?_⟩, by simp [intOf]; omega⟩
          · show n ≤ 2 * k + 1 + f''
            have := hkf.out; omega
          · show (swapF hs' k (2 * k + 1)).length = hs.length
            rw [swapF_length]; exact hl.out
          · show downF f'' (swapF hs' k (2 * k + 1)) (2 * k + 1) n = downF f hs i n
            rw [← HU.out, hcc.out, HQ.out]; rfl
        | false =>
          have HQ := Lib.hid hq
          clear hq
          go_wp2_with first
            | (go_at_call 44; refine Calls.mono (HA.out.less hl1000 (2 * k + 1) k _ HQ (by omega) (by omega) (by omega) (by omega)) ?_; rintro e w2 ⟨rfl, hb2⟩; have hA2 := HA.out.below hb2; have hmS := hA2.mSwap; have hnS := n_Swap ⟨p, 0, none⟩ w2; have HA2 := Lib.hid hA2; clear hA2)
          go_ret
          refine ⟨⟨_, rfl⟩, ?_, hfr.out.trans ((HA.out.tm.below hb2).2)⟩
          rw [← HU.out, hcc.out, HQ.out]
          exact HA2.out.tm

end Go.Proofs.Ytpofkfhpdokoeaa.Tm

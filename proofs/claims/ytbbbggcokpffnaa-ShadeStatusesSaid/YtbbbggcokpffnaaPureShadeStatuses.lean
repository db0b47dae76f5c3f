/- The plain statement of ShadeStatuses: every status, show and time has one answer on both sides. Conditions: the numbers are 64-bit ones, the text has a size that Go has. -/
import Derived.Test.YtbbbggcokpffnaaShadeShow
namespace Go.Proofs.Ytbbbggcokpffnaa.Pure
open Go.RowKit Go.Proofs.Ytbbbggcokpffnaa.PShade Go.Proofs.YtbbbggcokpffnaaW.PrintWords Go.Proofs.YtbbbggcokpffnaaW.PrintLast

theorem show_same (a : Int) (h : a ≤ 9223372036854775807) : wharfref16_Show.f 20 a = shade_Show.f 20 a ∧ ∃ r, shade_Show.f 20 a = some r := by
  by_cases hn : a < 0
  · exact ⟨(rshow_neg 19 a hn).trans (show_neg 19 a hn).symm, _, show_neg 19 a hn⟩
  · obtain ⟨n, rfl⟩ := Int.eq_ofNat_of_zero_le (by omega : 0 ≤ a)
    exact ⟨(rshow_p 19 n (by omega)).trans (show_p 19 n (by omega)).symm, _, show_p 19 n (by omega)⟩

theorem seconds_same (a : Int) : wharfref16_Seconds.f a = shade_Seconds.f a := by
  unfold wharfref16_Seconds.f shade_Seconds.f mx mn
  congr 1
  repeat' split
  all_goals omega

theorem ShadeStatuses : wharflaw16_ShadeStatuses.Pure := by
  intro a0 a1 a2 h0 h1 h2
  refine ⟨20, ?_⟩
  have w0 := wf_i64 h0
  have w2 := wf_i64 h2
  obtain ⟨hs, r, hr⟩ := show_same a0 (by omega)
  obtain ⟨q, hq, _⟩ := status_some a1
  unfold wharflaw16_ShadeStatuses.f
  rw [live_true]
  split
  · rfl
  · rw [hs, hr, status_same, hq, seconds_same]
    simp only [Option.bind_some, if_true, beq_self_eq_true]
    simp [shade_Seconds.f, Ext.shade_Minutes.f, Ext.wharfref16_Minutes.f, w2.2]

end Go.Proofs.Ytbbbggcokpffnaa.Pure

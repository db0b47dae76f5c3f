/- The plain statement of ShadeBack: texts, shows and times come back. Conditions: the numbers are 64-bit ones, the texts have at most 1048576 bytes. -/
import Derived.Test.YtbbbggcokpffnaaShadeShow
import Derived.Test.YtbbbggcokpffnaaShadeBackLaw
import Derived.Test.YtbbbggcokpffnaaPShadex5
namespace Go.Proofs.Ytbbbggcokpffnaa.Pure
open Go.RowKit Go.Proofs.Ytbbbggcokpffnaa.Plain Go.Proofs.Ytbbbggcokpffnaa.Utf Go.Proofs.Ytbbbggcokpffnaa.PShade Go.Proofs.YtbbbggcokpffnaaW.PrintWords Go.Proofs.YtbbbggcokpffnaaW.PrintLast

theorem status_back (s : ByteArray) : ∃ q r, shade_Status.f s = some q ∧ (∀ d, shade_Show.f (d + 1) q = some (r, true)) ∧ shade_Status.f r = some q := by
  have sh : ∀ n : Nat, n < 9223372036854775808 → ∀ d, shade_Show.f (d + 1) (n : Int) = some (showOf n) := fun n hn d => show_p d n hn
  unfold shade_Status.f
  split
  · exact ⟨1, ⟨#[97, 119, 97, 121]⟩, rfl, fun d => sh 1 (by decide) d, by decide +kernel⟩
  · split
    · exact ⟨32, ⟨#[99, 104, 97, 116]⟩, rfl, fun d => sh 32 (by decide) d, by decide +kernel⟩
    · split
      · exact ⟨2, ⟨#[100, 110, 100]⟩, rfl, fun d => sh 2 (by decide) d, by decide +kernel⟩
      · split
        · exact ⟨4, ⟨#[120, 97]⟩, rfl, fun d => sh 4 (by decide) d, by decide +kernel⟩
        · exact ⟨0, ⟨#[]⟩, rfl, fun d => sh 0 (by decide) d, by decide +kernel⟩

theorem minutes_back (m : Int) (h0 : m ≥ 0) (h1 : m ≤ 65535) : ∃ s, shade_Seconds.f m = some s ∧ Ext.shade_Minutes.f s = some m := by
  refine ⟨m * 60, ?_, ?_⟩
  · unfold shade_Seconds.f mx mn
    congr 1
    repeat' split
    all_goals omega
  · unfold Ext.shade_Minutes.f Ext.minutesOf
    rw [if_pos (by omega), if_neg (by omega)]
    congr 1
    split
    · omega
    · omega

theorem back_text (s : ByteArray) (cs : List Nat) (hs : s.size ≤ 5000) (hl : s.data.toList = bytesL cs) (ho : ∀ c ∈ cs, okC c) :
    fromHtml ⟨(toHtml s (wrap64 (10 * (s.size : Int)))).toArray⟩ = s.data.toList := by
  have hsz := size_list s
  have hle := writeAll_le cs
  rw [← hl, ← hsz] at hle
  rw [w64 (by omega) (by omega), toHtml_text s _ cs hl ho, gr_all _ cs 0 (by omega) (by omega)]
  unfold fromHtml
  have e : (⟨(writeAll cs).toArray⟩ : ByteArray).data.toList = writeAll cs := rfl
  rw [e, hl]
  exact read_back cs _ ho (by rw [size_list, e]; exact Nat.le_refl _)

theorem ShadeBackUpto (a0 a1 : ByteArray) (a2 : Int) (_h0 : a0.size ≤ 140737488351232) (_h1 : a1.size ≤ 140737488351232) (_h2 : (Lit.int .i64 a2).wf = true) (hup : a0.size ≤ 1048576) :
    ∃ k, wharflaw16_ShadeBack.f k a0 a1 a2 = some true := by
  have hb : a0.size < 17592186044416 := by omega
  refine ⟨20 + (a0.size + 20) + 2, ?_⟩
  have hlive : ∀ d x0 x1 x2, wharflaw16_ShadeBack.j0 (20 + d + 1) x0 x1 x2 true = some true := by
    intro d x0 x1 x2
    simp only [wharflaw16_ShadeBack.j0, if_true]
    rw [live_ge d]
    rfl
  unfold wharflaw16_ShadeBack.f
  rw [signs_is _ a0 hb (by omega)]
  simp only [Option.bind_some]
  rw [show 20 + (a0.size + 20) + 2 = 20 + (a0.size + 21) + 1 by omega]
  by_cases c1 : (a0.size : Int) > 5000
  · rw [if_pos c1, hlive]
  rw [if_neg c1]
  by_cases c2 : (a1.size : Int) > 5000
  · rw [if_pos c2, hlive]
  rw [if_neg c2]
  cases hs : signsL a0.size a0.data.toList with
  | none => exact hlive _ _ _ _
  | some cs =>
    obtain ⟨hl, ho⟩ := signsL_some _ _ _ hs
    simp only
    have hj1 : ∀ b, b = false → wharflaw16_ShadeBack.j1 (20 + (a0.size + 20) + 1) a0 b = some true := by
      intro b hb'
      subst hb'
      have hbt := back_text a0 cs (by omega) hl ho
      have hh := toHtml_text a0 (wrap64 (10 * (a0.size : Int))) cs hl ho
      have hlen : (toHtml a0 (wrap64 (10 * (a0.size : Int)))).length ≤ 50000 := by
        rw [hh]
        have hle := writeAll_le cs
        rw [← hl, ← size_list] at hle
        rw [w64 (by omega) (by omega), gr_all _ cs 0 (by omega) (by omega)]
        omega
      simp only [wharflaw16_ShadeBack.j1]
      rw [if_neg (by decide)]
      simp only [Ext.shade_ToHtml.f, Ext.shade_FromHtml.f]
      rw [if_pos (by omega)]
      simp only [Option.bind_some]
      rw [if_pos (by rw [size_list]; show (toHtml a0 (wrap64 (10 * (a0.size : Int)))).length ≤ _; omega)]
      simp only [Option.bind_some]
      rw [hbt, if_pos (by rw [ByteArray.toList_eq]), live_ge]
      rfl
    obtain ⟨q, r, hq, hr, hrq⟩ := status_back a1
    simp only [wharflaw16_ShadeBack.j0]
    rw [if_neg (by decide), hq]
    simp only [Option.bind_some]
    rw [show 20 + (a0.size + 21) = (20 + (a0.size + 20)) + 1 by omega, hr]
    simp only [Option.bind_some, if_true]
    rw [hrq]
    simp only [Option.bind_some, if_true]
    by_cases c3 : a2 ≥ 0
    · rw [if_pos c3]
      by_cases c4 : a2 ≤ 65535
      · obtain ⟨sec, e1, e2⟩ := minutes_back a2 c3 c4
        rw [if_pos c4, e1]
        simp only [Option.bind_some]
        rw [e2]
        simp only [Option.bind_some]
        exact hj1 _ (by simp)
      · rw [if_neg c4]; exact hj1 _ rfl
    · rw [if_neg c3]; exact hj1 _ rfl

end Go.Proofs.Ytbbbggcokpffnaa.Pure

/- The plain statement of ShadeTexts: for every text the program and the reference write and read the same. Conditions: the number is a 64-bit one, the text has a size that Go has. -/
import Derived.Test.YtbbbggcokpffnaaShadeShow
import Derived.Test.YtbbbggcokpffnaaShadeHtml
namespace Go.Proofs.Ytbbbggcokpffnaa.Pure
open Go.RowKit Go.Proofs.Ytbbbggcokpffnaa.Plain Go.Proofs.Ytbbbggcokpffnaa.Utf Go.Proofs.Ytbbbggcokpffnaa.PShade Go.Proofs.YtbbbggcokpffnaaW.PrintWords Go.Proofs.YtbbbggcokpffnaaW.PrintLast

theorem ShadeTexts : wharflaw16_ShadeTexts.Pure := by
  intro a0 a1 h0 h1
  refine ⟨20 + 200000, ?_⟩
  have hl := live_ge 200000
  unfold wharflaw16_ShadeTexts.f
  rw [hl]
  by_cases h : (a0.size : Int) > 5000
  · rw [if_pos h]; rfl
  · rw [if_neg h, toHtml_same a0 _ (by omega) _ (by omega), fromHtml_same a0 (by omega) _ (by omega)]
    simp only [Ext.shade_ToHtml.f, Ext.shade_FromHtml.f]
    rw [if_pos (by omega), if_pos (by omega)]
    simp only [Option.bind_some, if_true]

end Go.Proofs.Ytbbbggcokpffnaa.Pure

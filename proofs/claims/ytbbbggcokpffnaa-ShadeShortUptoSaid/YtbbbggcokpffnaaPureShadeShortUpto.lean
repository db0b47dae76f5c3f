/- The plain statement of ShadeShort: what is written has not more bytes than it may, and is a text; with more room nothing is lost. Conditions: the numbers are 64-bit ones, the text has at most 1048576 bytes. -/
import Derived.Test.YtbbbggcokpffnaaShadeShow
import Derived.Test.YtbbbggcokpffnaaShadeBackLaw
import Derived.Test.YtbbbggcokpffnaaPShadex6
namespace Go.Proofs.Ytbbbggcokpffnaa.Pure
open Go.RowKit Go.Proofs.Ytbbbggcokpffnaa.Plain Go.Proofs.Ytbbbggcokpffnaa.Utf Go.Proofs.Ytbbbggcokpffnaa.PShade Go.Proofs.YtbbbggcokpffnaaW.PrintWords Go.Proofs.YtbbbggcokpffnaaW.PrintLast

theorem slice_data (s : ByteArray) (i j : Nat) : (s.extract i j).data.toList = (s.data.toList.drop i).take (j - i) := by
  obtain ⟨⟨l⟩⟩ := s
  rw [show (ByteArray.mk { toList := l }) = ByteArray.mk l.toArray from rfl, ByteArray.extract_mk]

/-- The last loop: each tag is whole, and what is read back is the text's front. -/
theorem short_loop (s a : ByteArray) (ha : a.size ≤ 5000) (_hs : s.size ≤ 5000) (htag : ∀ i, a.data.toList[i]? = some 60 → (a.data.toList.drop i).take 4 = [60, 66, 82, 62])
    (hf : ∃ t, s.data.toList = fromHtml a ++ t) : ∀ (n k i : Nat), a.size - i = n → i ≤ a.size → wharflaw16_ShadeShort.l0 (20 + k + n + 1) s a (i : Int) = some true := by
  intro n
  induction n with
  | zero =>
    intro k i hn hi
    simp only [wharflaw16_ShadeShort.l0]
    obtain ⟨t, ht⟩ := hf
    have hz : (⟨(fromHtml a).toArray⟩ : ByteArray).size = (fromHtml a).length := by rw [size_list]
    have hsl := size_list s
    rw [ht, List.length_append] at hsl
    rw [if_neg (by omega)]
    simp only [Ext.shade_FromHtml.f]
    rw [if_pos (by omega)]
    simp only [Option.bind_some]
    rw [if_pos (by omega), if_pos (by omega), if_pos, live_ge]
    · rfl
    · rw [ByteArray.toList_eq, ByteArray.toList_eq, Int.toNat_natCast, take_data, hz, ht]
      simp
  | succ n ih =>
    intro k i hn hi
    have hsz := size_list a
    have hlt : i < a.data.toList.length := by omega
    have hbt : bt a (i : Int) = ((a.data.toList[i]).toNat : Int) := by
      rw [bt_nat a i (by omega)]
      unfold at_
      rw [List.getD, List.getElem?_eq_getElem hlt]
      rfl
    have hnext := ih k (i + 1) (by omega) (by omega)
    rw [show 20 + k + (n + 1) + 1 = (20 + k + n + 1) + 1 by omega]
    generalize 20 + k + n + 1 = m at *
    rw [wharflaw16_ShadeShort.l0]
    rw [if_pos (by omega), if_pos (by omega), hbt, w64 (by omega : -9223372036854775808 ≤ (i : Int) + 1) (by omega), w64 (by omega : -9223372036854775808 ≤ (i : Int) + 4) (by omega), show (i : Int) + 1 = ((i + 1 : Nat) : Int) by omega]
    by_cases hc : ((a.data.toList[i]).toNat : Int) = 60
    · have h60 : a.data.toList[i]? = some 60 := by rw [List.getElem?_eq_getElem hlt, byte_eq (n := 60) hc (by decide)]; rfl
      have ht := htag i h60
      have hlen : 4 ≤ a.data.toList.length - i := by
        have := congrArg List.length ht
        rw [List.length_take, List.length_drop] at this
        have e : ([60, 66, 82, 62] : List UInt8).length = 4 := rfl
        omega
      rw [if_pos hc, if_neg (by omega), if_pos (by omega), if_pos (by omega), if_pos, hnext]
      rw [ByteArray.toList_eq, Int.toNat_natCast, show ((i : Int) + 4).toNat = i + 4 by omega, slice_data, show i + 4 - i = 4 by omega]
      exact ht
    · rw [if_neg hc, hnext]

theorem ShadeShortUpto (a0 : ByteArray) (a1 a2 : Int) (_h0 : a0.size ≤ 140737488351232) (h1 : (Lit.int .i64 a1).wf = true) (h2 : (Lit.int .i64 a2).wf = true) (hup : a0.size ≤ 1048576) :
    ∃ k, wharflaw16_ShadeShort.f k a0 a1 a2 = some true := by
  have hb : a0.size < 17592186044416 := by omega
  refine ⟨20 + (a0.size + 40000) + 2, ?_⟩
  have w1 := wf_i64 h1
  have w2 := wf_i64 h2
  have hlive : ∀ d x0 x1 x2, wharflaw16_ShadeShort.j0 (20 + d + 1) x0 x1 x2 true = some true := by
    intro d x0 x1 x2
    simp only [wharflaw16_ShadeShort.j0, if_true]
    rw [live_ge d]
    rfl
  unfold wharflaw16_ShadeShort.f
  rw [signs_is _ a0 hb (by omega)]
  simp only [Option.bind_some]
  rw [show 20 + (a0.size + 40000) + 2 = 20 + (a0.size + 40001) + 1 by omega]
  by_cases c1 : (a0.size : Int) > 5000
  · rw [if_pos c1, hlive]
  rw [if_neg c1]
  cases hs : signsL a0.size a0.data.toList with
  | none =>
    simp only
    rw [if_neg (by decide), hlive]
  | some cs =>
    obtain ⟨hl, ho⟩ := signsL_some _ _ _ hs
    simp only [if_true]
    by_cases c2 : a1 < 0
    · rw [if_pos c2, hlive]
    rw [if_neg c2]
    by_cases c3 : a1 > 5000
    · rw [if_pos c3, hlive]
    rw [if_neg c3]
    by_cases c4 : a2 < 0
    · rw [if_pos c4, hlive]
    rw [if_neg c4]
    by_cases c5 : a2 > 5000
    · rw [decide_eq_true c5, hlive]
    rw [decide_eq_false c5]
    have hok : ∀ c ∈ gr a1 0 cs, okC c := by
      obtain ⟨t, ht⟩ := gr_prefix a1 cs 0
      intro c hc
      exact ho c (by rw [ht]; exact List.mem_append_left _ hc)
    have ea : toHtml a0 a1 = writeAll (gr a1 0 cs) := toHtml_text a0 a1 cs hl ho
    have eb : toHtml a0 (a1 + a2) = writeAll (gr (a1 + a2) 0 cs) := toHtml_text a0 (a1 + a2) cs hl ho
    have hle := gr_le a1 cs 0 (by omega) (by omega)
    have hpre : ∃ t, toHtml a0 (a1 + a2) = toHtml a0 a1 ++ t := by
      obtain ⟨t, ht⟩ := gr_more a1 a2 (by omega) (by omega) cs 0 (by omega)
      exact ⟨writeAll t, by rw [ea, eb, ht]; simp [writeAll]⟩
    obtain ⟨ds, hds, hdo⟩ := write_text _ hok
    have hA : (⟨(toHtml a0 a1).toArray⟩ : ByteArray).data.toList = toHtml a0 a1 := rfl
    have hB : (⟨(toHtml a0 (a1 + a2)).toArray⟩ : ByteArray).data.toList = toHtml a0 (a1 + a2) := rfl
    have zA := size_list ⟨(toHtml a0 a1).toArray⟩
    have zB := size_list ⟨(toHtml a0 (a1 + a2)).toArray⟩
    rw [hA] at zA
    rw [hB] at zB
    have hlA : (toHtml a0 a1).length ≤ 5000 := by rw [ea]; omega
    obtain ⟨tb, htb⟩ := hpre
    have hlB : (toHtml a0 (a1 + a2)).length = (toHtml a0 a1).length + tb.length := by rw [htb, List.length_append]
    have hsg : signsL (⟨(toHtml a0 a1).toArray⟩ : ByteArray).size (⟨(toHtml a0 a1).toArray⟩ : ByteArray).data.toList = some ds := by
      rw [zA, hA, ea, hds]
      exact signsL_bytes ds _ hdo (Nat.le_refl _)
    simp only [wharflaw16_ShadeShort.j0]
    rw [if_neg (by decide), w64 (by omega) (by omega)]
    simp only [Ext.shade_ToHtml.f]
    rw [if_pos (by omega), if_pos (by omega)]
    simp only [Option.bind_some]
    rw [signs_is _ _ (by omega) (by omega), hsg]
    simp only [Option.bind_some]
    rw [if_neg (by rw [zA, ea]; omega), if_neg (by omega), if_pos (by omega), if_pos (by omega), if_pos (by rw [ByteArray.toList_eq, ByteArray.toList_eq, Int.toNat_natCast, take_data, zA, hA, hB, htb]; simp)]
    rw [show (!true) = false from rfl, show 20 + (a0.size + 40001) = (20 + (a0.size + 40000)) + 1 by omega]
    simp only [wharflaw16_ShadeShort.j1]
    rw [if_neg (by decide)]
    obtain ⟨d, hd⟩ : ∃ d, 20 + (a0.size + 40000) = 20 + d + (toHtml a0 a1).length + 1 := ⟨a0.size + 39999 - (toHtml a0 a1).length, by omega⟩
    rw [hd, show (0 : Int) = ((0 : Nat) : Int) from rfl]
    refine short_loop a0 ⟨(toHtml a0 a1).toArray⟩ (by omega) (by omega) ?_ ?_ _ d 0 (by omega) (by omega)
    · intro i hi
      rw [hA, ea] at hi ⊢
      exact tags_whole _ i hok hi
    · obtain ⟨t, ht⟩ := gr_prefix a1 cs 0
      refine ⟨bytesL t, ?_⟩
      unfold fromHtml
      rw [hA, ea, read_back _ _ hok (by rw [← ea, zA]; exact Nat.le_refl _), hl]
      conv => lhs; rw [ht]
      simp [bytesL]

end Go.Proofs.Ytbbbggcokpffnaa.Pure

/- Package tag: names and texts: each call answers; a name holds letters, digits, '-', '.', '_' alone. -/
import Derived.Test.YtaidgkmacpiajaaPTagLowx1
import Derived.Test.YtaidgkmacpiajaaUtf
import Derived.Test.YtaidgkmacpiajaaTgPlain
set_option linter.unusedVariables false
set_option linter.unusedSimpArgs false
namespace Go.Proofs.Ytaidgkmacpiajaa.Tg
open Go.RowKit Go.Proofs.Ytaidgkmacpiajaa.Plain Go.Proofs.Ytaidgkmacpiajaa.PTagLow Go.Proofs.YtaidgkmacpiajaaW.PrintWords Go.Proofs.Ytaidgkmacpiajaa.Utf

theorem up {α : Type} {f : Nat → Option α} (hm : ∀ k, LeO (f k) (f (k + 1))) {k : Nat} {r : α} (h : f k = some r) : ∀ d, f (k + d) = some r
  | 0 => h
  | d + 1 => hm _ _ (up hm h d)

theorem same_ {α : Type} {f : Nat → Option α} (hm : ∀ k, LeO (f k) (f (k + 1))) {k j : Nat} {r s : α} (h : f k = some r) (h' : f j = some s) : r = s := by
  have h1 := up hm h j
  have h2 := up hm h' k
  rw [Nat.add_comm] at h2
  exact Option.some.inj (h1.symm.trans h2)

/-! ### names -/
def letterB (c : Int) : Bool := if (Go.bits .or .u8 c 32) ≥ 97 then (if (Go.bits .or .u8 c 32) ≤ 122 then true else (c == 95)) else (c == 95)
theorem letter_some (c : Int) : tag_isLetter.f c = some (letterB c) := by
  unfold tag_isLetter.f letterB
  repeat' split
  all_goals rfl

/-- A byte that may stand in a name. -/
def okc (c : Int) : Bool := letterB c || c == 45 || c == 46 || (decide (48 ≤ c) && decide (c ≤ 57))

theorem wrap_up {i : Int} {n : Nat} (h0 : 0 ≤ i) (h : i < (n : Int)) (hn : n ≤ 1099511627776) : wrap64 (i + 1) = i + 1 := by
  unfold wrap64
  omega

theorem name_tells (s : ByteArray) (hn : s.size ≤ 1099511627776) (d : Nat) : ∀ (i : Int), 0 ≤ i → i ≤ s.size → (s.size : Int) - i = d →
    ∃ b, tag_isName.l0 (d + 1) s s.size i = some b ∧ (b = true → s.toList ≠ [] ∧ ∀ j : Int, i ≤ j → j < s.size → okc (bt s j) = true) := by
  induction d with
  | zero =>
    intro i h0 h1 hd
    by_cases he : s.toList = []
    · exact ⟨false, by simp only [tag_isName.l0]; rw [if_neg (by omega), if_pos he], fun h => by cases h⟩
    · exact ⟨decide ((s.size : Int) ≤ 64), by simp only [tag_isName.l0]; rw [if_neg (by omega), if_neg he], fun _ => ⟨he, fun j h2 h3 => by omega⟩⟩
  | succ d ih =>
    intro i h0 h1 hd
    have hlt : i < (s.size : Int) := by omega
    obtain ⟨b, hk, hb⟩ := ih (i + 1) (by omega) (by omega) (by omega)
    have hw := wrap_up h0 hlt hn
    have more : ∀ ok : okc (bt s i) = true, b = true → s.toList ≠ [] ∧ ∀ j : Int, i ≤ j → j < s.size → okc (bt s j) = true := fun ok hbt => by
      obtain ⟨h3, h4⟩ := hb hbt
      refine ⟨h3, fun j h5 h6 => ?_⟩
      by_cases e : j = i
      · subst e; exact ok
      · exact h4 j (by omega) h6
    by_cases hl : letterB (bt s i) = true
    · refine ⟨b, ?_, more (by unfold okc; rw [hl]; rfl)⟩
      simp only [tag_isName.l0]; rw [if_pos hlt, if_pos h0, if_pos hlt, letter_some, hl]; simp only [Option.bind_some, if_true]; rw [hw]; exact hk
    · have hl' : letterB (bt s i) = false := by simpa using hl
      by_cases h00 : i = 0
      · refine ⟨false, ?_, fun h => by cases h⟩
        simp only [tag_isName.l0]; rw [if_pos hlt, if_pos h0, if_pos hlt, letter_some, hl']; simp only [Option.bind_some]; rw [if_neg (by decide), if_pos h00]
      · by_cases h45 : bt s i = 45
        · refine ⟨b, ?_, more (by unfold okc; rw [h45]; simp)⟩
          simp only [tag_isName.l0]; rw [if_pos hlt, if_pos h0, if_pos hlt, letter_some, hl']; simp only [Option.bind_some]; rw [if_neg (by decide), if_neg h00, if_pos h45, hw]; exact hk
        · by_cases h46 : bt s i = 46
          · refine ⟨b, ?_, more (by unfold okc; rw [h46]; simp)⟩
            simp only [tag_isName.l0]; rw [if_pos hlt, if_pos h0, if_pos hlt, letter_some, hl']; simp only [Option.bind_some]; rw [if_neg (by decide), if_neg h00, if_neg h45, if_pos h46, hw]; exact hk
          · by_cases h48 : bt s i < 48
            · refine ⟨false, ?_, fun h => by cases h⟩
              simp only [tag_isName.l0]; rw [if_pos hlt, if_pos h0, if_pos hlt, letter_some, hl']; simp only [Option.bind_some]; rw [if_neg (by decide), if_neg h00, if_neg h45, if_neg h46, if_pos h48]
            · by_cases h57 : bt s i > 57
              · refine ⟨false, ?_, fun h => by cases h⟩
                simp only [tag_isName.l0]; rw [if_pos hlt, if_pos h0, if_pos hlt, letter_some, hl']; simp only [Option.bind_some]; rw [if_neg (by decide), if_neg h00, if_neg h45, if_neg h46, if_neg h48, if_pos h57]
              · refine ⟨b, ?_, more ?_⟩
                · simp only [tag_isName.l0]; rw [if_pos hlt, if_pos h0, if_pos hlt, letter_some, hl']; simp only [Option.bind_some]; rw [if_neg (by decide), if_neg h00, if_neg h45, if_neg h46, if_neg h48, if_neg h57, hw]; exact hk
                · unfold okc
                  have e1 : decide (48 ≤ bt s i) = true := decide_eq_true (by omega)
                  have e2 : decide (bt s i ≤ 57) = true := decide_eq_true (by omega)
                  rw [e1, e2]; simp

def nameB (s : ByteArray) : Bool := (tag_isName.f (s.size + 1) s).getD false

theorem nameB_calls (s : ByteArray) (hs : s.size ≤ 1099511627776) (w : World) : Calls Try.prog 25 #[.string s] w fun e w' => e = .returned (.bool (nameB s)) ∧ Below w.heap.size w w' := by
  obtain ⟨b, hk, _⟩ := name_tells s hs s.size 0 (by omega) (by omega) (by omega)
  have hf : tag_isName.f (s.size + 1) s = some b := hk
  have hb : nameB s = b := by unfold nameB; rw [hf]; rfl
  rw [hb]
  refine Calls.mono (tag_isName.calls _ s _ w hf) ?_
  rintro e w' ⟨rfl, h⟩
  exact ⟨rfl, by first | exact h.below | exact h⟩

/-- A byte that may stand in a name, by itself. -/
def okb (c : UInt8) : Bool := okc (c.toNat : Int)

theorem nameB_true {s : ByteArray} (hs : s.size ≤ 1099511627776) (h : nameB s = true) : bl s ≠ [] ∧ ∀ c ∈ bl s, okb c = true := by
  obtain ⟨b, hk, hb⟩ := name_tells s hs s.size 0 (by omega) (by omega) (by omega)
  have hf : tag_isName.f (s.size + 1) s = some b := hk
  have : b = true := by rw [← h]; unfold nameB; rw [hf]; rfl
  obtain ⟨h1, h2⟩ := hb this
  rw [ByteArray.toList_eq] at h1
  refine ⟨h1, fun c hc => ?_⟩
  obtain ⟨j, hj, rfl⟩ := List.getElem_of_mem hc
  have hjs : j < s.size := by unfold bl at hj; simpa using hj
  have h3 := h2 j (by omega) (by omega)
  unfold bt at h3
  rw [dif_pos (by simpa using hjs)] at h3
  exact h3

theorem okb_not (c : UInt8) (h : okb c = true) : c ≠ 32 ∧ c ≠ 62 ∧ c ≠ 47 ∧ c ≠ 61 ∧ c ≠ 58 ∧ c ≠ 60 ∧ c ≠ 39 := by
  have := byte_all (p := fun c => okb c = true → c ≠ 32 ∧ c ≠ 62 ∧ c ≠ 47 ∧ c ≠ 61 ∧ c ≠ 58 ∧ c ≠ 60 ∧ c ≠ 39) (by decide +kernel) c
  exact this h

/-! ### texts -/
theorem gf_fine (s : ByteArray) (h : (gf s).2.2 = 0) : 1 ≤ (gf s).2.1 ∧ (gf s).2.1 ≤ s.size := by
  rw [gf_gfL] at h ⊢
  unfold gfL at h ⊢
  cases hx : dec s.data.toList with
  | none => rw [hx] at h; simp at h
  | some x =>
    obtain ⟨c, n⟩ := x
    obtain ⟨g, hn, hle, ht⟩ := dec_some hx
    have := encW_pos c
    have hsz := size_list s
    simp only
    have := encW_width c
    first | omega | (constructor <;> omega)

theorem plain_total (c : Int) : ∃ b, ∀ k, 0 < k → glyph_plain.f k c = some b := by
  by_cases h9 : c = 9
  · exact ⟨true, fun k hk => by obtain ⟨m, rfl⟩ : ∃ m, k = m + 1 := ⟨k - 1, by omega⟩; subst h9; rfl⟩
  · by_cases h10 : c = 10
    · exact ⟨true, fun k hk => by obtain ⟨m, rfl⟩ : ∃ m, k = m + 1 := ⟨k - 1, by omega⟩; subst h10; rfl⟩
    · have e : ∀ k, glyph_plain.f k c = glyph_plain.j0 k c c (c == 13) := fun k => by unfold glyph_plain.f; rw [if_neg h9, if_neg h10]
      simp only [e]
      clear e
      by_cases h13 : (c == 13) = true
      · exact ⟨true, fun k hk => by obtain ⟨m, rfl⟩ : ∃ m, k = m + 1 := ⟨k - 1, by omega⟩; simp only [glyph_plain.j0]; rw [if_pos h13]⟩
      · by_cases e1 : c = 65534
        · exact ⟨false, fun k hk => by obtain ⟨m, rfl⟩ : ∃ m, k = m + 1 := ⟨k - 1, by omega⟩; simp only [glyph_plain.j0]; rw [if_neg h13, if_pos e1]⟩
        · by_cases e2 : c = 65535
          · exact ⟨false, fun k hk => by obtain ⟨m, rfl⟩ : ∃ m, k = m + 1 := ⟨k - 1, by omega⟩; simp only [glyph_plain.j0]; rw [if_neg h13, if_neg e1, if_pos e2]⟩
          · exact ⟨decide (c ≥ 32), fun k hk => by obtain ⟨m, rfl⟩ : ∃ m, k = m + 1 := ⟨k - 1, by omega⟩; simp only [glyph_plain.j0]; rw [if_neg h13, if_neg e1, if_neg e2]⟩

theorem len_total : ∀ (d : Nat) (s : ByteArray) (n : Int), s.size ≤ d → ∀ k, d < k → ∃ r, glyph_Len.l0 (k + 1) s n = some r
  | d, s, n, hd, k, hk => by
    rw [glyph_Len.l0]
    by_cases h0 : s.toList = []
    · exact ⟨(n, 0), by rw [if_pos h0]⟩
    · rw [if_neg h0]
      simp only [Ext.glyph_First.f, Option.bind_some]
      by_cases hg : (gf s).2.2 = 0
      · rw [if_pos hg]
        obtain ⟨b, hb⟩ := plain_total (gf s).1
        rw [hb k (by omega)]
        cases b with
        | false => exact ⟨(0, 10), by simp⟩
        | true =>
          obtain ⟨h1, h2⟩ := gf_fine s hg
          have hsz : (s.extract ((gf s).2.1).toNat s.size).size = s.size - ((gf s).2.1).toNat := by simp
          match d, hd, hk with
          | 0, hd, hk => omega
          | d + 1, hd, hk =>
            obtain ⟨m, rfl⟩ : ∃ m, k = m + 1 := ⟨k - 1, by omega⟩
            obtain ⟨r, hr⟩ := len_total d (s.extract ((gf s).2.1).toNat s.size) (wrap64 (n + 1)) (by omega) m (by omega)
            refine ⟨r, ?_⟩
            simp only [Option.bind_some, if_true]
            rw [if_pos (by omega), if_pos h2]
            exact hr
      · exact ⟨(0, 10), by rw [if_neg hg]⟩

def textB (s : ByteArray) : Bool := (tag_isText.f (s.size + 2) s).getD false

theorem textB_calls (s : ByteArray) (w : World) : Calls Try.prog 26 #[.string s] w fun e w' => e = .returned (.bool (textB s)) ∧ Below w.heap.size w w' := by
  obtain ⟨r, hk⟩ := len_total s.size s 0 (Nat.le_refl _) (s.size + 1) (by omega)
  have h1 : tag_isText.f (s.size + 2) s = some (r.2 == 0) := by
    unfold tag_isText.f glyph_Check.f glyph_Len.f
    rw [hk]; rfl
  have hb : textB s = (r.2 == 0) := by unfold textB; rw [h1]; rfl
  rw [hb]
  exact tag_isText.calls _ s _ w h1

end Go.Proofs.Ytaidgkmacpiajaa.Tg

/- A quote has no mark, and no byte 9, 10, 13; a text without them stays; two texts, one behind the other, are quoted so. Plain law over the printed functions. -/
import Derived.Test.YtaidgkmacpiajaaPTagx3
set_option linter.unusedVariables false
set_option linter.unusedSimpArgs false
namespace Go.Proofs.Ytaidgkmacpiajaa.Pure
open Go.RowKit Go.Proofs.Ytaidgkmacpiajaa.Plain Go.Proofs.Ytaidgkmacpiajaa.PTag Go.Proofs.Ytaidgkmacpiajaa.Tg Go.Proofs.YtaidgkmacpiajaaW.PrintWords Go.Proofs.YtaidgkmacpiajaaW.PrintLast

def mkI (c : Int) : Bool := decide (c = 38) || decide (c = 60) || decide (c = 62) || decide (c = 39) || decide (c = 34) || decide (c = 9) || decide (c = 10) || decide (c = 13)
def badI (c : Int) : Bool := decide (c = 60) || decide (c = 62) || decide (c = 39) || decide (c = 34) || decide (c = 9) || decide (c = 10) || decide (c = 13)

theorem wrap_next {i : Int} {n : Nat} (h0 : 0 ≤ i) (h : i < (n : Int)) (hn : n ≤ 1099511627776) : wrap64 (i + 1) = i + 1 := by
  unfold wrap64
  omega

theorem bt_get (s : ByteArray) (i : Nat) (h : i < s.size) : bt s (i : Int) = ((s[i]'h).toNat : Int) := by
  unfold bt; rw [dif_pos (by simpa using h)]; simp

theorem l0_step (k : Nat) (s t q : ByteArray) (m : Bool) (i : Int) (h0 : 0 ≤ i) (h : i < (s.size : Int)) (hn : s.size ≤ 1099511627776) :
    wharflaw05_TagMarks.l0 (k + 1) s t q m i = wharflaw05_TagMarks.l0 k s t q (m || mkI (bt s i)) (i + 1) := by
  rw [wharflaw05_TagMarks.l0, if_pos h, if_pos h0, wrap_next h0 h hn]
  generalize bt s i = c
  cases m with
  | true => simp
  | false =>
    unfold mkI
    by_cases e1 : c = 38
    · simp [e1]
    by_cases e2 : c = 60
    · simp [e2]
    by_cases e3 : c = 62
    · simp [e3]
    by_cases e4 : c = 39
    · simp [e4]
    by_cases e5 : c = 34
    · simp [e5]
    by_cases e6 : c = 9
    · simp [e6]
    by_cases e7 : c = 10
    · simp [e7]
    simp only [e1, e2, e3, e4, e5, e6, e7, if_false, decide_false, Bool.false_or, Bool.false_eq_true]
    rfl

theorem l0_all (s t q : ByteArray) (hn : s.size ≤ 1099511627776) (d : Nat) : ∀ (i : Nat) (m : Bool) (k : Nat), i + d = s.size →
    wharflaw05_TagMarks.l0 (k + d + 1) s t q m i = wharflaw05_TagMarks.l1 k s t q (m || ((bl s).drop i).any fun c => mkI (c.toNat : Int)) 0 := by
  induction d with
  | zero =>
    intro i m k hi
    rw [Nat.add_zero, wharflaw05_TagMarks.l0, if_neg (by omega), List.drop_of_length_le (by rw [bl_size]; omega)]
    simp
  | succ d ih =>
    intro i m k hi
    rw [show k + (d + 1) + 1 = (k + d + 1) + 1 by omega, l0_step _ _ _ _ _ _ (by omega) (by omega) hn, show (i : Int) + 1 = ((i + 1 : Nat) : Int) by omega, ih (i + 1) _ k (by omega)]
    have hlt : i < (bl s).length := by rw [bl_size]; omega
    rw [List.drop_eq_getElem_cons hlt, List.any_cons, bt_get s i (by omega), Bool.or_assoc]
    rfl

theorem l1_step (k : Nat) (s t q : ByteArray) (m : Bool) (i : Int) (h0 : 0 ≤ i) (h : i < (q.size : Int)) (hn : q.size ≤ 1099511627776) (hb : badI (bt q i) = false) :
    wharflaw05_TagMarks.l1 (k + 1) s t q m i = wharflaw05_TagMarks.l1 k s t q m (i + 1) := by
  rw [wharflaw05_TagMarks.l1, if_pos h, if_pos h0, wrap_next h0 h hn]
  revert hb
  generalize bt q i = c
  unfold badI
  intro hb
  simp only [Bool.or_eq_false_iff, decide_eq_false_iff_not] at hb
  obtain ⟨⟨⟨⟨⟨⟨e1, e2⟩, e3⟩, e4⟩, e5⟩, e6⟩, e7⟩ := hb
  rw [if_neg e1, if_neg e2, if_neg e3, if_neg e4, if_neg e5, if_neg e6, if_neg e7]

theorem l1_all (s t q : ByteArray) (m : Bool) (hn : q.size ≤ 1099511627776) (hb : ∀ c ∈ bl q, badI (c.toNat : Int) = false) (d : Nat) : ∀ (i : Nat) (k : Nat), i + d = q.size →
    wharflaw05_TagMarks.l1 (k + d + 1) s t q m i = wharflaw05_TagMarks.l1 (k + 1) s t q m q.size := by
  induction d with
  | zero =>
    intro i k hi
    obtain rfl : i = q.size := by omega
    rfl
  | succ d ih =>
    intro i k hi
    have hlt : i < (bl q).length := by rw [bl_size]; omega
    rw [show k + (d + 1) + 1 = (k + d + 1) + 1 by omega, l1_step _ _ _ _ _ _ (by omega) (by omega) hn (by rw [bt_get q i (by omega)]; exact hb _ (List.getElem_mem hlt)), show (i : Int) + 1 = ((i + 1 : Nat) : Int) by omega, ih (i + 1) k (by omega)]

theorem quote1_bad (c : UInt8) : ∀ x ∈ quote1 c, badI (x.toNat : Int) = false :=
  byte_all (p := fun c => ∀ x ∈ quote1 c, badI (x.toNat : Int) = false) (by decide +kernel) c
theorem quoteL_bad (l : List UInt8) : ∀ x ∈ quoteL l, badI (x.toNat : Int) = false := by
  intro x hx
  unfold quoteL at hx
  rw [List.mem_flatMap] at hx
  obtain ⟨c, _, hc⟩ := hx
  exact quote1_bad c x hc
theorem quote1_mark (c : UInt8) : if mkI (c.toNat : Int) = true then 2 ≤ (quote1 c).length else quote1 c = [c] :=
  byte_all (p := fun c => if mkI (c.toNat : Int) = true then 2 ≤ (quote1 c).length else quote1 c = [c]) (by decide +kernel) c
theorem quoteL_append (a b : List UInt8) : quoteL (a ++ b) = quoteL a ++ quoteL b := by unfold quoteL; rw [List.flatMap_append]
theorem quoteL_same (l : List UInt8) : (quoteL l == l) = !(l.any fun c => mkI (c.toNat : Int)) := by
  induction l with
  | nil => rfl
  | cons c t ih =>
    have hc := quote1_mark c
    have hq : quoteL (c :: t) = quote1 c ++ quoteL t := by simp [quoteL]
    rw [List.any_cons, hq]
    by_cases hm : mkI (c.toNat : Int) = true
    · rw [if_pos hm] at hc
      rw [hm]
      have hg := quoteL_ge t
      simp only [Bool.true_or, Bool.not_true]
      refine beq_eq_false_iff_ne.2 (fun h => ?_)
      have := congrArg List.length h
      simp at this
      omega
    · rw [if_neg hm] at hc
      have hm' : mkI (c.toNat : Int) = false := by simpa using hm
      rw [hm', hc, Bool.false_or, ← ih]
      simp

theorem TagMarks : wharflaw05_TagMarks.Pure := by
  intro s t hs ht
  by_cases hbig : wrap64 ((s.size : Int) + (t.size : Int)) > 20000
  · exact ⟨0, by unfold wharflaw05_TagMarks.f; rw [if_pos hbig]; rfl⟩
  · have hw : wrap64 ((s.size : Int) + (t.size : Int)) = (s.size : Int) + (t.size : Int) := by unfold wrap64; omega
    have hst : s.size + t.size ≤ 20000 := by rw [hw] at hbig; omega
    obtain ⟨q, hq⟩ : ∃ q : ByteArray, (⟨(quoteL (bl s)).toArray⟩ : ByteArray) = q := ⟨_, rfl⟩
    have hqb : bl q = quoteL (bl s) := by rw [← hq]; simp [bl]
    have hqs : q.size ≤ 120000 := by
      rw [← bl_size, hqb]
      have := quoteL_size (bl s) s.size (by rw [bl_size]; exact Nat.le_refl _)
      omega
    refine ⟨(2 + q.size + 1) + s.size + 1, ?_⟩
    unfold wharflaw05_TagMarks.f
    rw [if_neg hbig]
    have e1 : Ext.tag_Quote.f s = some q := by unfold Ext.tag_Quote.f; rw [if_pos (by omega), hq]
    rw [e1]
    simp only [Option.bind_some]
    rw [show (0 : Int) = ((0 : Nat) : Int) from rfl, l0_all s t q (by omega) s.size 0 false _ (by omega), show (0 : Int) = ((0 : Nat) : Int) from rfl, l1_all s t q _ (by omega) (by rw [hqb]; exact quoteL_bad _) q.size 0 2 (by omega)]
    rw [wharflaw05_TagMarks.l1, if_neg (by omega)]
    have e2 : (q.toList == s.toList) = !((bl s).any fun c => mkI (c.toNat : Int)) := by
      rw [ByteArray.toList_eq, ByteArray.toList_eq, ← quoteL_same]
      show (bl q == bl s) = _
      rw [hqb]
    rw [if_pos (by rw [e2, List.drop_zero, Bool.false_or]; simp)]
    rw [if_pos (by omega)]
    have e3 : Ext.tag_Quote.f (s ++ t) = some ⟨(quoteL (bl (s ++ t))).toArray⟩ := by unfold Ext.tag_Quote.f; rw [if_pos (by rw [ByteArray.size_append]; omega)]
    have e4 : Ext.tag_Quote.f t = some ⟨(quoteL (bl t)).toArray⟩ := by unfold Ext.tag_Quote.f; rw [if_pos (by omega)]
    rw [e3, e4]
    simp only [Option.bind_some]
    have hts : (⟨(quoteL (bl t)).toArray⟩ : ByteArray).size ≤ 120000 := by
      rw [← bl_size]
      have := quoteL_size (bl t) t.size (by rw [bl_size]; exact Nat.le_refl _)
      simp only [bl_lit]
      omega
    rw [if_pos (by omega), if_pos]
    · rfl
    · rw [ByteArray.toList_eq, ByteArray.toList_eq]
      show bl ⟨(quoteL (bl (s ++ t))).toArray⟩ = bl (q ++ ⟨(quoteL (bl t)).toArray⟩)
      rw [bl_lit (quoteL (bl (s ++ t))), bl_append q, bl_lit (quoteL (bl t)), hqb, bl_append s, quoteL_append]

end Go.Proofs.Ytaidgkmacpiajaa.Pure

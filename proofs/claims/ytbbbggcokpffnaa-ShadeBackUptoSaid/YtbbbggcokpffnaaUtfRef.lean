/- The reference's First is the program's: both are 'gfL', for every text. Conditions: none but that the text is one that Go has. -/
import Derived.Test.YtbbbggcokpffnaaUtf
import Derived.Test.YtbbbggcokpffnaaPShadex2
namespace Go.Proofs.Ytbbbggcokpffnaa.Pure
open Go.RowKit Go.Proofs.Ytbbbggcokpffnaa.Plain Go.Proofs.Ytbbbggcokpffnaa.Utf Go.Proofs.Ytbbbggcokpffnaa.PShade Go.Proofs.YtbbbggcokpffnaaW.PrintWords Go.Proofs.YtbbbggcokpffnaaW.PrintLast

theorem bt_nat (s : ByteArray) (k : Nat) (hk : k < s.size) : bt s (k : Int) = (at_ s.data.toList k : Int) := by
  unfold bt at_
  rw [dif_pos (by simpa using hk)]
  simp only [Int.toNat_natCast]
  have : s.data.toList.getD k 0 = s[k] := by
    rw [List.getD, List.getElem?_eq_getElem (by simpa using hk)]
    rfl
  rw [this]

theorem w64 {x : Int} (h0 : -9223372036854775808 ≤ x) (h1 : x ≤ 9223372036854775807) : wrap64 x = x := by unfold wrap64; omega

theorem is_good (c : Nat) : wharfref01_Is.f (c : Int) = some (decide (good c)) := by
  unfold wharfref01_Is.f
  rw [if_pos (by omega)]
  by_cases h1 : (c : Int) ≤ 1114111
  · rw [if_pos h1]
    by_cases h2 : (c : Int) < 55296
    · rw [if_pos h2, decide_eq_true (by unfold good; omega)]
    · rw [if_neg h2]
      congr 1
      rw [Bool.eq_iff_iff]
      simp only [decide_eq_true_eq]
      unfold good; omega
  · rw [if_neg h1, decide_eq_false (by unfold good; omega)]

theorem strOfNums_toList (l : List Int) : (strOfNums l).toList = l.map (fun n => UInt8.ofNat n.toNat) := by
  rw [ByteArray.toList_eq]
  simp [strOfNums]

theorem byt {x : Int} (n : Nat) (h : x = (n : Int)) (hn : n < 256) : UInt8.ofNat (x % 256).toNat = UInt8.ofNat n := by
  congr 1; omega

theorem put_good (c : Nat) (h : good c) : ∃ r, wharfref01_Put.f (c : Int) = some (r, 0) ∧ r.toList = encL c := by
  unfold wharfref01_Put.f
  have hc : c ≤ 1114111 := by unfold good at h; omega
  rw [is_good, decide_eq_true h]
  simp only [Option.bind_some, if_true]
  have d64 : Int.tdiv (c : Int) 64 = ((c / 64 : Nat) : Int) := by rw [Int.tdiv_eq_ediv_of_nonneg (by omega)]; rfl
  have d4 : Int.tdiv (c : Int) 4096 = ((c / 4096 : Nat) : Int) := by rw [Int.tdiv_eq_ediv_of_nonneg (by omega)]; rfl
  have d2 : Int.tdiv (c : Int) 262144 = ((c / 262144 : Nat) : Int) := by rw [Int.tdiv_eq_ediv_of_nonneg (by omega)]; rfl
  have m64 : ∀ n : Nat, Int.tmod (n : Int) 64 = ((n % 64 : Nat) : Int) := fun n => by rw [Int.tmod_eq_emod_of_nonneg (by omega)]; rfl
  rw [d64, d4, d2, w64 (by omega : -9223372036854775808 ≤ ((c / 64 : Nat) : Int)) (by omega), w64 (by omega : -9223372036854775808 ≤ ((c / 4096 : Nat) : Int)) (by omega),
    w64 (by omega : -9223372036854775808 ≤ ((c / 262144 : Nat) : Int)) (by omega), m64, m64, m64]
  unfold encL
  by_cases h1 : c < 128
  · rw [if_pos (by omega), if_pos h1]
    refine ⟨_, rfl, ?_⟩
    rw [strOfNums_toList]
    simp only [List.map_cons, List.map_nil]
    rw [byt c rfl (by omega)]
  rw [if_neg (by omega), if_neg h1]
  by_cases h2 : c < 2048
  · rw [if_pos (by omega), if_pos h2]
    refine ⟨_, rfl, ?_⟩
    rw [strOfNums_toList, w64 (by omega) (by omega), w64 (by omega) (by omega)]
    simp only [List.map_cons, List.map_nil]
    rw [byt (192 + c / 64) (by omega) (by omega), byt (128 + c % 64) (by omega) (by omega)]
  rw [if_neg (by omega), if_neg h2]
  by_cases h3 : c < 65536
  · rw [if_pos (by omega), if_pos h3]
    refine ⟨_, rfl, ?_⟩
    rw [strOfNums_toList, w64 (by omega) (by omega), w64 (by omega) (by omega), w64 (by omega) (by omega)]
    simp only [List.map_cons, List.map_nil]
    rw [byt (224 + c / 4096) (by omega) (by omega), byt (128 + c / 64 % 64) (by omega) (by omega), byt (128 + c % 64) (by omega) (by omega)]
  rw [if_neg (by omega), if_neg h3]
  refine ⟨_, rfl, ?_⟩
  rw [strOfNums_toList, w64 (by omega) (by omega), w64 (by omega) (by omega), w64 (by omega) (by omega), w64 (by omega) (by omega)]
  simp only [List.map_cons, List.map_nil]
  rw [byt (240 + c / 262144) (by omega) (by omega), byt (128 + c / 4096 % 64) (by omega) (by omega), byt (128 + c / 64 % 64) (by omega) (by omega), byt (128 + c % 64) (by omega) (by omega)]

theorem put_bad (c : Nat) (h : ¬ good c) : wharfref01_Put.f (c : Int) = some (⟨#[]⟩, 10) := by
  unfold wharfref01_Put.f
  rw [is_good, decide_eq_false h]
  rfl


/-- The end of the reference's First: a sign that was put together, held against its one way. -/
theorem first_end (k : Nat) (s : ByteArray) (n c : Nat) (hn : n ≤ s.size) :
    wharfref01_First.l0 (k + 1) s (n : Int) (c : Int) (n : Int) = some (if good c ∧ encL c = s.data.toList.take n then ((c : Int), (n : Int), 0) else (0, 0, 10)) := by
  simp only [wharfref01_First.l0]
  rw [if_neg (by omega)]
  by_cases hg : good c
  · obtain ⟨r, hr, hrl⟩ := put_good c hg
    have he : (s.extract 0 ((n : Nat) : Int).toNat).toList = s.data.toList.take n := by
      rw [ByteArray.toList_eq, Int.toNat_natCast]
      obtain ⟨⟨l⟩⟩ := s
      rw [show (ByteArray.mk { toList := l }) = ByteArray.mk l.toArray from rfl, ByteArray.extract_mk]
      simp
    rw [hr]
    simp only [Option.bind_some, if_true]
    rw [if_pos (by omega), if_pos (by omega), hrl, he]
    by_cases e : encL c = s.data.toList.take n
    · rw [if_pos e, if_pos ⟨hg, e⟩]
    · rw [if_neg e, if_neg (fun h => e h.2)]
  · rw [put_bad c hg, if_neg (fun h => hg h.1)]
    rfl

/-- One byte more. -/
theorem first_more (k : Nat) (s : ByteArray) (n i c : Nat) (hn : n ≤ s.size) (hi : i < n) (hn4 : n ≤ 4) (hc : c < 100000000) :
    wharfref01_First.l0 (k + 1) s (n : Int) (c : Int) (i : Int) = if tail (at_ s.data.toList i) then wharfref01_First.l0 k s (n : Int) ((64 * c + (at_ s.data.toList i - 128) : Nat) : Int) ((i + 1 : Nat) : Int) else some (0, 0, 10) := by
  have hb := bt_nat s i (by omega)
  have hlt := at_lt s.data.toList i
  conv => lhs; simp only [wharfref01_First.l0]
  rw [if_pos (by omega), if_pos (by omega), if_pos (by omega), hb]
  generalize at_ s.data.toList i = b at *
  by_cases h1 : b < 128
  · rw [if_pos (by omega), if_neg (by unfold tail; omega)]
  rw [if_neg (by omega)]
  by_cases h2 : 192 ≤ b
  · rw [if_pos (by omega), if_neg (by unfold tail; omega)]
  rw [if_neg (by omega), if_pos (by unfold tail; omega)]
  rw [w64 (by omega : -9223372036854775808 ≤ (64 * (c : Int))) (by omega), w64 (by omega : -9223372036854775808 ≤ (b : Int)) (by omega), w64 (by omega : -9223372036854775808 ≤ (64 * (c : Int) + (b : Int))) (by omega), w64 (by omega) (by omega), w64 (by omega) (by omega)]
  congr 1
  · omega

theorem enc2 {l : List UInt8} {c : Nat} (h : encL c = l.take 2) (h1 : 1 < l.length) : 128 ≤ c ∧ c < 2048 := by
  have := congrArg List.length h
  rw [encL_length, List.length_take] at this
  unfold encW at this
  split at this
  · omega
  · split at this
    · omega
    · split at this <;> omega
theorem enc3 {l : List UInt8} {c : Nat} (h : encL c = l.take 3) (h1 : 2 < l.length) : 2048 ≤ c ∧ c < 65536 := by
  have := congrArg List.length h
  rw [encL_length, List.length_take] at this
  unfold encW at this
  split at this
  · omega
  · split at this
    · omega
    · split at this <;> omega
theorem enc4 {l : List UInt8} {c : Nat} (h : encL c = l.take 4) (h1 : 3 < l.length) : 65536 ≤ c := by
  have := congrArg List.length h
  rw [encL_length, List.length_take] at this
  unfold encW at this
  split at this
  · omega
  · split at this
    · omega
    · split at this <;> omega

theorem dec_none_of {l : List UInt8} (h128 : ¬ at_ l 0 < 128) (h2 : ¬ (192 ≤ at_ l 0 ∧ at_ l 0 < 224 ∧ 1 < l.length ∧ tail (at_ l 1) ∧ 128 ≤ v2 (at_ l 0) (at_ l 1)))
    (h3 : ¬ (224 ≤ at_ l 0 ∧ at_ l 0 < 240 ∧ 2 < l.length ∧ tail (at_ l 1) ∧ tail (at_ l 2) ∧ 2048 ≤ v3 (at_ l 0) (at_ l 1) (at_ l 2) ∧ good (v3 (at_ l 0) (at_ l 1) (at_ l 2))))
    (h4 : ¬ (240 ≤ at_ l 0 ∧ at_ l 0 < 248 ∧ 3 < l.length ∧ tail (at_ l 1) ∧ tail (at_ l 2) ∧ tail (at_ l 3) ∧ 65536 ≤ v4 (at_ l 0) (at_ l 1) (at_ l 2) (at_ l 3) ∧ v4 (at_ l 0) (at_ l 1) (at_ l 2) (at_ l 3) ≤ 1114111)) : dec l = none := by
  unfold dec
  by_cases h0 : l.length = 0
  · rw [if_pos h0]
  · rw [if_neg h0, if_neg h128, if_neg h2, if_neg h3, if_neg h4]

theorem gfL_none {l : List UInt8} (h : dec l = none) : gfL l = (0, 0, 10) := by unfold gfL; rw [h]
theorem gfL_some {l : List UInt8} {c n : Nat} (h : dec l = some (c, n)) : gfL l = ((c : Int), (n : Int), 0) := by unfold gfL; rw [h]

theorem first_is (k : Nat) (s : ByteArray) : wharfref01_First.f (k + 8) s = some (gfL s.data.toList) := by
  have hsz := size_list s
  have h0 : (k + 8) = (k + 7) + 1 := rfl
  have a0 := at_lt s.data.toList 0
  have a1 := at_lt s.data.toList 1
  have a2 := at_lt s.data.toList 2
  have a3 := at_lt s.data.toList 3
  unfold wharfref01_First.f
  by_cases hn : s.toList = []
  · rw [if_pos hn]
    rw [ByteArray.toList_eq] at hn
    rw [hn]; rfl
  rw [if_neg hn]
  have hpos : 0 < s.size := by
    rw [ByteArray.toList_eq] at hn
    rcases Nat.eq_zero_or_pos s.size with h | h
    · exact absurd (List.length_eq_zero_iff.1 (by omega)) hn
    · exact h
  have hb := bt_nat s 0 hpos
  rw [show ((0 : Nat) : Int) = 0 from rfl] at hb
  have j2 : ∀ m n c : Nat, wharfref01_First.j2 (m + 1) s (n : Int) (c : Int) = if s.size < n then some (0, 0, 10) else wharfref01_First.l0 m s (n : Int) (c : Int) ((1 : Nat) : Int) := by
    intro m n c
    simp only [wharfref01_First.j2]
    by_cases h : s.size < n
    · rw [if_pos (by omega), if_pos h]
    · rw [if_neg (by omega), if_neg h]; rfl
  have hl0 : s.data.toList.length ≠ 0 := by omega
  have ds := @dec_some s.data.toList
  have dn := @dec_none_of s.data.toList
  rw [if_pos (by omega), hb, w64 (by omega) (by omega)]
  by_cases c1 : at_ s.data.toList 0 < 128
  · have hd : dec s.data.toList = some (at_ s.data.toList 0, 1) := by unfold dec; rw [if_neg hl0, if_pos c1]
    obtain ⟨g, _, _, ht⟩ := dec_some hd
    rw [if_pos (by omega), gfL_some hd, show (1 : Int) = ((1 : Nat) : Int) from rfl, h0, j2, if_neg (by omega), show (k + 7) = (k + 6) + 1 from rfl, first_end _ _ _ _ (by omega), if_pos ⟨g, ht.symm⟩]
  rw [if_neg (by omega)]
  by_cases c2 : 192 ≤ at_ s.data.toList 0 ∧ at_ s.data.toList 0 < 224
  · rw [if_pos (by omega), decide_eq_true (by omega : (at_ s.data.toList 0 : Int) < 224), h0]
    simp only [wharfref01_First.j0, if_true]
    rw [w64 (by omega) (by omega), show ((at_ s.data.toList 0 : Int) - 192) = ((at_ s.data.toList 0 - 192 : Nat) : Int) by omega, show (2 : Int) = ((2 : Nat) : Int) from rfl, show k + 7 = (k + 6) + 1 from rfl, j2]
    by_cases c3 : s.size < 2
    · rw [if_pos c3, gfL_none (dn c1 (by omega) (by omega) (by omega))]
    rw [if_neg c3, show k + 6 = (k + 5) + 1 from rfl, first_more _ _ _ _ _ (by omega) (by omega) (by omega) (by omega)]
    by_cases c4 : tail (at_ s.data.toList 1)
    · rw [if_pos c4, show k + 5 = (k + 4) + 1 from rfl, show (1 + 1 : Nat) = 2 from rfl, first_end _ _ _ _ (by omega)]
      have ev : 64 * (at_ s.data.toList 0 - 192) + (at_ s.data.toList 1 - 128) = v2 (at_ s.data.toList 0) (at_ s.data.toList 1) := by unfold v2; omega
      rw [ev]
      by_cases c5 : 128 ≤ v2 (at_ s.data.toList 0) (at_ s.data.toList 1)
      · have hd : dec s.data.toList = some (v2 (at_ s.data.toList 0) (at_ s.data.toList 1), 2) := by unfold dec; rw [if_neg hl0, if_neg c1, if_pos ⟨c2.1, c2.2, by omega, c4, c5⟩]
        obtain ⟨g, _, _, ht⟩ := dec_some hd
        rw [gfL_some hd, if_pos ⟨g, ht.symm⟩]
      · rw [if_neg (fun h => c5 (enc2 h.2 (by omega)).1), gfL_none (dn c1 (fun h => c5 h.2.2.2.2) (by omega) (by omega))]
    · rw [if_neg c4, gfL_none (dn c1 (fun h => c4 h.2.2.2.1) (by omega) (by omega))]
  have j0f : (if (at_ s.data.toList 0 : Int) ≥ 192 then wharfref01_First.j0 (k + 8) s (at_ s.data.toList 0 : Int) (decide ((at_ s.data.toList 0 : Int) < 224)) else wharfref01_First.j0 (k + 8) s (at_ s.data.toList 0 : Int) false) = wharfref01_First.j0 (k + 8) s (at_ s.data.toList 0 : Int) false := by
    by_cases h : 192 ≤ at_ s.data.toList 0
    · rw [if_pos (by omega), decide_eq_false (by omega)]
    · rw [if_neg (by omega)]
  rw [j0f, h0]
  simp only [wharfref01_First.j0]
  rw [if_neg (by decide)]
  by_cases d2 : 224 ≤ at_ s.data.toList 0 ∧ at_ s.data.toList 0 < 240
  · rw [if_pos (by omega), decide_eq_true (by omega : (at_ s.data.toList 0 : Int) < 240), show k + 7 = (k + 6) + 1 from rfl]
    simp only [wharfref01_First.j1, if_true]
    rw [w64 (by omega) (by omega), show ((at_ s.data.toList 0 : Int) - 224) = ((at_ s.data.toList 0 - 224 : Nat) : Int) by omega, show (3 : Int) = ((3 : Nat) : Int) from rfl, show k + 6 = (k + 5) + 1 from rfl, j2]
    by_cases c3 : s.size < 3
    · rw [if_pos c3, gfL_none (dn c1 (by omega) (by omega) (by omega))]
    rw [if_neg c3, show k + 5 = (k + 4) + 1 from rfl, first_more _ _ _ _ _ (by omega) (by omega) (by omega) (by omega)]
    by_cases c4 : tail (at_ s.data.toList 1)
    · rw [if_pos c4, show k + 4 = (k + 3) + 1 from rfl, show (1 + 1 : Nat) = 2 from rfl, first_more _ _ _ _ _ (by omega) (by omega) (by omega) (by unfold tail at c4; omega)]
      by_cases c6 : tail (at_ s.data.toList 2)
      · rw [if_pos c6, show k + 3 = (k + 2) + 1 from rfl, show (2 + 1 : Nat) = 3 from rfl, first_end _ _ _ _ (by omega)]
        have ev : 64 * (64 * (at_ s.data.toList 0 - 224) + (at_ s.data.toList 1 - 128)) + (at_ s.data.toList 2 - 128) = v3 (at_ s.data.toList 0) (at_ s.data.toList 1) (at_ s.data.toList 2) := by unfold v3; omega
        rw [ev]
        by_cases c5 : 2048 ≤ v3 (at_ s.data.toList 0) (at_ s.data.toList 1) (at_ s.data.toList 2) ∧ good (v3 (at_ s.data.toList 0) (at_ s.data.toList 1) (at_ s.data.toList 2))
        · have hd : dec s.data.toList = some (v3 (at_ s.data.toList 0) (at_ s.data.toList 1) (at_ s.data.toList 2), 3) := by unfold dec; rw [if_neg hl0, if_neg c1, if_neg (by omega), if_pos ⟨d2.1, d2.2, by omega, c4, c6, c5.1, c5.2⟩]
          obtain ⟨g, _, _, ht⟩ := dec_some hd
          rw [gfL_some hd, if_pos ⟨g, ht.symm⟩]
        · rw [if_neg (fun h => c5 ⟨(enc3 h.2 (by omega)).1, h.1⟩), gfL_none (dn c1 (by omega) (fun h => c5 ⟨h.2.2.2.2.2.1, h.2.2.2.2.2.2⟩) (by omega))]
      · rw [if_neg c6, gfL_none (dn c1 (by omega) (fun h => c6 h.2.2.2.2.1) (by omega))]
    · rw [if_neg c4, gfL_none (dn c1 (by omega) (fun h => c4 h.2.2.2.1) (by omega))]
  have j1f : (if (at_ s.data.toList 0 : Int) ≥ 224 then wharfref01_First.j1 (k + 7) s (at_ s.data.toList 0 : Int) (decide ((at_ s.data.toList 0 : Int) < 240)) else wharfref01_First.j1 (k + 7) s (at_ s.data.toList 0 : Int) false) = wharfref01_First.j1 (k + 7) s (at_ s.data.toList 0 : Int) false := by
    by_cases h : 224 ≤ at_ s.data.toList 0
    · rw [if_pos (by omega), decide_eq_false (by omega)]
    · rw [if_neg (by omega)]
  rw [j1f, show k + 7 = (k + 6) + 1 from rfl]
  simp only [wharfref01_First.j1]
  rw [if_neg (by decide)]
  by_cases e2 : 240 ≤ at_ s.data.toList 0 ∧ at_ s.data.toList 0 < 248
  · rw [if_pos (by omega), if_pos (by omega)]
    rw [w64 (by omega) (by omega), show ((at_ s.data.toList 0 : Int) - 240) = ((at_ s.data.toList 0 - 240 : Nat) : Int) by omega, show (4 : Int) = ((4 : Nat) : Int) from rfl, show k + 6 = (k + 5) + 1 from rfl, j2]
    by_cases c3 : s.size < 4
    · rw [if_pos c3, gfL_none (dn c1 (by omega) (by omega) (by omega))]
    rw [if_neg c3, show k + 5 = (k + 4) + 1 from rfl, first_more _ _ _ _ _ (by omega) (by omega) (by omega) (by omega)]
    by_cases c4 : tail (at_ s.data.toList 1)
    · rw [if_pos c4, show k + 4 = (k + 3) + 1 from rfl, show (1 + 1 : Nat) = 2 from rfl, first_more _ _ _ _ _ (by omega) (by omega) (by omega) (by unfold tail at c4; omega)]
      by_cases c6 : tail (at_ s.data.toList 2)
      · rw [if_pos c6, show k + 3 = (k + 2) + 1 from rfl, show (2 + 1 : Nat) = 3 from rfl, first_more _ _ _ _ _ (by omega) (by omega) (by omega) (by unfold tail at c4 c6; omega)]
        by_cases c7 : tail (at_ s.data.toList 3)
        · rw [if_pos c7, show k + 2 = (k + 1) + 1 from rfl, show (3 + 1 : Nat) = 4 from rfl, first_end _ _ _ _ (by omega)]
          have ev : 64 * (64 * (64 * (at_ s.data.toList 0 - 240) + (at_ s.data.toList 1 - 128)) + (at_ s.data.toList 2 - 128)) + (at_ s.data.toList 3 - 128) = v4 (at_ s.data.toList 0) (at_ s.data.toList 1) (at_ s.data.toList 2) (at_ s.data.toList 3) := by unfold v4; omega
          rw [ev]
          by_cases c5 : 65536 ≤ v4 (at_ s.data.toList 0) (at_ s.data.toList 1) (at_ s.data.toList 2) (at_ s.data.toList 3) ∧ v4 (at_ s.data.toList 0) (at_ s.data.toList 1) (at_ s.data.toList 2) (at_ s.data.toList 3) ≤ 1114111
          · have hd : dec s.data.toList = some (v4 (at_ s.data.toList 0) (at_ s.data.toList 1) (at_ s.data.toList 2) (at_ s.data.toList 3), 4) := by unfold dec; rw [if_neg hl0, if_neg c1, if_neg (by omega), if_neg (by omega), if_pos ⟨e2.1, e2.2, by omega, c4, c6, c7, c5.1, c5.2⟩]
            obtain ⟨g, _, _, ht⟩ := dec_some hd
            rw [gfL_some hd, if_pos ⟨g, ht.symm⟩]
          · rw [if_neg (fun h => c5 ⟨enc4 h.2 (by omega), by have := h.1; unfold good at this; have := enc4 h.2 (by omega); omega⟩), gfL_none (dn c1 (by omega) (by omega) (fun h => c5 ⟨h.2.2.2.2.2.2.1, h.2.2.2.2.2.2.2⟩))]
        · rw [if_neg c7, gfL_none (dn c1 (by omega) (by omega) (fun h => c7 h.2.2.2.2.2.1))]
      · rw [if_neg c6, gfL_none (dn c1 (by omega) (by omega) (fun h => c6 h.2.2.2.2.1))]
    · rw [if_neg c4, gfL_none (dn c1 (by omega) (by omega) (fun h => c4 h.2.2.2.1))]
  rw [gfL_none (dn c1 (by omega) (by omega) (by omega))]
  by_cases g : 240 ≤ at_ s.data.toList 0
  · rw [if_pos (by omega), if_neg (by omega)]
  · rw [if_neg (by omega)]

end Go.Proofs.Ytbbbggcokpffnaa.Pure

/- The program's ToHtml and FromHtml are the reference's: one function of a list of bytes each. Conditions: a text of at most 5000 bytes. -/
import Derived.Test.YtbbbggcokpffnaaUtfRef
import Derived.Test.YtbbbggcokpffnaaPShadex3
import Derived.Test.YtbbbggcokpffnaaPShadex4
namespace Go.Proofs.Ytbbbggcokpffnaa.Pure
open Go.RowKit Go.Proofs.Ytbbbggcokpffnaa.Plain Go.Proofs.Ytbbbggcokpffnaa.Utf Go.Proofs.Ytbbbggcokpffnaa.PShade Go.Proofs.YtbbbggcokpffnaaW.PrintWords Go.Proofs.YtbbbggcokpffnaaW.PrintLast

def writtenL (c : Nat) : List UInt8 := (writtenS c).data.toList

/-- ToHtml, on a list. -/
def toHtmlL (most : Int) : Nat → List UInt8 → List UInt8 → List UInt8
  | 0, _, acc => acc
  | f + 1, l, acc =>
    if l = [] then acc else
    match dec l with
    | none => toHtmlL most f (l.drop 1) acc
    | some (c, n) => if wrap64 (most - (acc.length : Int)) < ((writtenL c).length : Int) then acc else toHtmlL most f (l.drop n) (acc ++ writtenL c)

theorem gfL_ok (l : List UInt8) : (gfL l).2.2 = 0 ↔ ∃ c n, dec l = some (c, n) := by
  unfold gfL
  cases h : dec l with
  | none => simp
  | some x => obtain ⟨c, n⟩ := x; simp

theorem toHtml_list (s : ByteArray) (most : Int) : ∀ (f pos : Nat) (acc : List UInt8), toHtmlFrom s most f pos acc = toHtmlL most f (s.data.toList.drop pos) acc
  | 0, _, _ => rfl
  | f + 1, pos, acc => by
    have hsz := size_list s
    have hl : (s.data.toList.drop pos).length = s.size - pos := by rw [List.length_drop, ← hsz]
    unfold toHtmlFrom toHtmlL
    by_cases hp : pos < s.size
    · have hne : s.data.toList.drop pos ≠ [] := fun h => by rw [h] at hl; simp at hl; omega
      have hg : gf (s.extract pos s.size) = gfL (s.data.toList.drop pos) := by rw [gf_gfL, Lib.extract_to_end]
      rw [if_pos hp, if_neg hne, hg, decode_drop, decL_dec _ hne]
      cases h : dec (s.data.toList.drop pos) with
      | none =>
        rw [if_neg (fun e => by obtain ⟨c, n, e⟩ := (gfL_ok _).1 e; rw [h] at e; cases e)]
        simp only
        rw [toHtml_list s most f, List.drop_drop]
      | some x =>
        obtain ⟨c, n⟩ := x
        rw [if_pos ((gfL_ok _).2 ⟨c, n, h⟩)]
        simp only
        rw [toHtml_list s most f, List.drop_drop]
        have : ((writtenS c).size : Int) = ((writtenL c).length : Int) := by unfold writtenL; simp
        rw [this]
        rfl
    · have he : s.data.toList.drop pos = [] := List.length_eq_zero_iff.1 (by omega)
      rw [if_neg hp, if_pos he]

theorem toHtml_L (s : ByteArray) (most : Int) : toHtml s most = toHtmlL most s.size s.data.toList [] := by
  unfold toHtml
  rw [toHtml_list, List.drop_zero]

/-- A list of bytes as numbers. -/
def ints (l : List UInt8) : List Int := l.map fun b => (b.toNat : Int)
theorem ints_length (l : List UInt8) : (ints l).length = l.length := by simp [ints]
theorem str_ints (l : List UInt8) : strOfNums (ints l) = ⟨l.toArray⟩ := by
  have : (strOfNums (ints l)).data.toList = l := by
    rw [← ByteArray.toList_eq, strOfNums_toList]
    unfold ints
    rw [List.map_map]
    have e : ((fun n : Int => UInt8.ofNat n.toNat) ∘ fun b : UInt8 => (b.toNat : Int)) = id := by funext b; simp
    rw [e, List.map_id]
  cases hs : strOfNums (ints l) with
  | mk d => rw [hs] at this; simp only at this; rw [← this]
theorem bytesOf_ints (s : ByteArray) : bytesOf s = ints s.data.toList := rfl
theorem ints_append (a b : List UInt8) : ints (a ++ b) = ints a ++ ints b := by simp [ints]

theorem ext_data (s : ByteArray) (a : Nat) : (s.extract a s.size).data.toList = s.data.toList.drop a := Lib.extract_to_end s a
theorem take_data (s : ByteArray) (n : Nat) : (s.extract 0 n).data.toList = s.data.toList.take n := by
  obtain ⟨⟨l⟩⟩ := s
  rw [show (ByteArray.mk { toList := l }) = ByteArray.mk l.toArray from rfl, ByteArray.extract_mk]
  simp

theorem encL_one {c x : Nat} (hg : good c) (hx : x < 128) (h : encL c = [UInt8.ofNat x]) : c = x := by
  have h1 := dec_encL c [] hg
  rw [List.append_nil, h] at h1
  have h2 := dec_encL x [] (by unfold good; omega)
  rw [List.append_nil, show encL x = [UInt8.ofNat x] by unfold encL; rw [if_pos hx], h1] at h2
  exact (Prod.mk.inj (Option.some.inj h2)).1

theorem mark_is (t : ByteArray) (c : Nat) (hg : good c) (h : t.data.toList = encL c) : ∃ r, wharfref16_mark.f t = some r ∧ r.data.toList = writtenL c := by
  have ne : ∀ x, x < 128 → ¬ c = x → ¬ t.toList = [UInt8.ofNat x] := fun x hx hc e => hc (encL_one hg hx (by rw [← h, ← e, ByteArray.toList_eq]))
  have eq : ∀ x, x < 128 → c = x → t.toList = [UInt8.ofNat x] := fun x hx hc => by rw [ByteArray.toList_eq, h, hc]; unfold encL; rw [if_pos hx]
  unfold wharfref16_mark.f writtenL writtenS
  by_cases h1 : c = 38
  · rw [if_pos (show t.toList = ([38] : List UInt8) from eq 38 (by decide) h1), if_pos h1]; exact ⟨_, rfl, rfl⟩
  rw [if_neg (show ¬ t.toList = ([38] : List UInt8) from ne 38 (by decide) h1), if_neg h1]
  by_cases h2 : c = 60
  · rw [if_pos (show t.toList = ([60] : List UInt8) from eq 60 (by decide) h2), if_pos h2]; exact ⟨_, rfl, rfl⟩
  rw [if_neg (show ¬ t.toList = ([60] : List UInt8) from ne 60 (by decide) h2), if_neg h2]
  by_cases h3 : c = 62
  · rw [if_pos (show t.toList = ([62] : List UInt8) from eq 62 (by decide) h3), if_pos h3]; exact ⟨_, rfl, rfl⟩
  rw [if_neg (show ¬ t.toList = ([62] : List UInt8) from ne 62 (by decide) h3), if_neg h3]
  by_cases h4 : c = 34
  · rw [if_pos (show t.toList = ([34] : List UInt8) from eq 34 (by decide) h4), if_pos h4]; exact ⟨_, rfl, rfl⟩
  rw [if_neg (show ¬ t.toList = ([34] : List UInt8) from ne 34 (by decide) h4), if_neg h4]
  by_cases h5 : c = 10
  · rw [if_pos (show t.toList = ([10] : List UInt8) from eq 10 (by decide) h5), if_pos h5]; exact ⟨_, rfl, rfl⟩
  rw [if_neg (show ¬ t.toList = ([10] : List UInt8) from ne 10 (by decide) h5), if_neg h5]
  exact ⟨_, rfl, by rw [h, encode_encL c hg]⟩

theorem writtenL_le (c : Nat) : 1 ≤ (writtenL c).length ∧ (writtenL c).length ≤ 6 := by
  have := writtenS_size c
  unfold writtenL
  simpa using this

theorem toHtml_ref (most : Int) : ∀ (f k : Nat) (s : ByteArray) (acc : List UInt8), s.size ≤ f → f + 10 ≤ k → acc.length + 6 * s.size < 1000000 →
    wharfref16_ToHtml.l0 k s most (ints acc) = some ⟨(toHtmlL most f s.data.toList acc).toArray⟩ := by
  intro f
  induction f with
  | zero =>
    intro k s acc hs hk ha
    obtain ⟨k, rfl⟩ : ∃ m, k = m + 1 := ⟨k - 1, by omega⟩
    have : s.data.toList = [] := List.length_eq_zero_iff.1 (by have := size_list s; omega)
    simp only [wharfref16_ToHtml.l0]
    rw [if_pos (by rw [ByteArray.toList_eq]; exact this), str_ints]
    rfl
  | succ f ih =>
    intro k s acc hs hk ha
    obtain ⟨k, rfl⟩ : ∃ m, k = m + 1 := ⟨k - 1, by omega⟩
    simp only [wharfref16_ToHtml.l0]
    unfold toHtmlL
    have hsz := size_list s
    by_cases hn : s.data.toList = []
    · rw [if_pos (by rw [ByteArray.toList_eq]; exact hn), if_pos hn, str_ints]
    have hpos : 0 < s.size := by
      rcases Nat.eq_zero_or_pos s.size with h | h
      · exact absurd (List.length_eq_zero_iff.1 (by omega)) hn
      · exact h
    rw [if_neg (by rw [ByteArray.toList_eq]; exact hn), if_neg hn]
    obtain ⟨j, rfl⟩ : ∃ j, k = j + 8 := ⟨k - 8, by omega⟩
    rw [first_is]
    simp only [Option.bind_some]
    cases hd : dec s.data.toList with
    | none =>
      rw [gfL_none hd]
      simp only
      rw [if_neg (by decide), if_pos (by omega), ih _ _ _ _ (by omega) _]
      · rw [ext_data]
      · have := size_list (s.extract 1 s.size); rw [ext_data, List.length_drop] at this; omega
      · have := size_list (s.extract 1 s.size); rw [ext_data, List.length_drop] at this; omega
    | some x =>
      obtain ⟨c, n⟩ := x
      obtain ⟨hg, hn2, hle, ht⟩ := dec_some hd
      have hw := encW_pos c
      have hwl := writtenL_le c
      rw [gfL_some hd]
      simp only [if_true]
      rw [if_pos (by omega), if_pos (by omega), Int.toNat_natCast]
      obtain ⟨r, hr, hrl⟩ := mark_is (s.extract 0 n) c hg (by rw [take_data, ht])
      rw [hr]
      simp only [Option.bind_some]
      have hrs : (r.size : Int) = ((writtenL c).length : Int) := by rw [← hrl, size_list r]
      rw [ints_length, hrs]
      by_cases hc : wrap64 (most - (acc.length : Int)) < ((writtenL c).length : Int)
      · rw [if_pos hc, if_pos hc, str_ints]
      · have hx := size_list (s.extract n s.size)
        rw [ext_data, List.length_drop] at hx
        rw [if_neg hc, if_neg hc, if_pos (by omega), bytesOf_ints, hrl, ← ints_append, ih _ _ _ (by omega) (by omega) (by rw [List.length_append]; omega), ext_data]

theorem toHtml_same (s : ByteArray) (most : Int) (hs : s.size ≤ 5000) (k : Nat) (hk : s.size + 10 ≤ k) : wharfref16_ToHtml.f k s most = some ⟨(toHtml s most).toArray⟩ := by
  unfold wharfref16_ToHtml.f
  have := toHtml_ref most s.size k s [] (Nat.le_refl _) hk (by simp; omega)
  rw [toHtml_L]
  exact this


theorem byte_eq {c : UInt8} {n : Nat} (h : (c.toNat : Int) = ((n : Nat) : Int)) (hn : n < 256) : c = UInt8.ofNat n := by
  apply UInt8.toNat_inj.1
  rw [UInt8.toNat_ofNat']
  omega

theorem low_special (c : UInt8) : low c = 62 ↔ c = 62 := byte_all (p := fun c => low c = 62 ↔ c = 62) (by decide +kernel) c

/-- Where the reference finds a tag's end. -/
theorem tag_loop : ∀ (n k i : Nat) (s : ByteArray), s.size - i = n → i ≤ s.size → s.size < 100000 → n + 1 ≤ k →
    wharfref16_tag.l0 k s (i : Int) = some (if 0 ≤ Lib.indexByte (s.data.toList.drop i) 62 then (i : Int) + Lib.indexByte (s.data.toList.drop i) 62 + 1 else 0) := by
  intro n
  induction n with
  | zero =>
    intro k i s hn hi hb hk
    obtain ⟨k, rfl⟩ : ∃ m, k = m + 1 := ⟨k - 1, by omega⟩
    have hl : s.data.toList.drop i = [] := List.length_eq_zero_iff.1 (by rw [List.length_drop, ← size_list]; omega)
    simp only [wharfref16_tag.l0]
    rw [if_neg (by omega), hl, if_neg (by decide)]
  | succ n ih =>
    intro k i s hn hi hb hk
    obtain ⟨k, rfl⟩ : ∃ m, k = m + 1 := ⟨k - 1, by omega⟩
    have hsz := size_list s
    have hlt : i < s.data.toList.length := by omega
    have hdr : s.data.toList.drop i = s.data.toList[i] :: s.data.toList.drop (i + 1) := List.drop_eq_getElem_cons hlt
    have hbt : bt s (i : Int) = ((s.data.toList[i]).toNat : Int) := by
      rw [bt_nat s i (by omega)]
      unfold at_
      rw [List.getD, List.getElem?_eq_getElem hlt]
      rfl
    simp only [wharfref16_tag.l0]
    rw [if_pos (by omega), if_pos (by omega), hbt, hdr]
    generalize s.data.toList[i] = c
    have hge := Lib.indexByte_ge (s.data.toList.drop (i + 1)) 62
    by_cases hc : c = 62
    · subst hc
      rw [if_pos (by decide), w64 (by omega) (by omega)]
      rw [show Lib.indexByte (62 :: s.data.toList.drop (i + 1)) 62 = 0 from rfl, if_pos (by decide), Int.add_zero]
    · have hcn : ¬ ((c.toNat : Int) = 62) := fun e => hc (byte_eq (n := 62) e (by decide))
      rw [if_neg hcn, w64 (by omega) (by omega), show ((i : Int) + 1) = ((i + 1 : Nat) : Int) by omega, ih k (i + 1) s (by omega) (by omega) hb (by omega)]
      have hb2 : (c == 62) = false := by simpa using hc
      have e : Lib.indexByte (c :: s.data.toList.drop (i + 1)) 62 = if Lib.indexByte (s.data.toList.drop (i + 1)) 62 == -1 then -1 else Lib.indexByte (s.data.toList.drop (i + 1)) 62 + 1 := by
        conv => lhs; unfold Lib.indexByte
        rw [if_neg (by rw [hb2]; decide)]
      rw [e]
      generalize Lib.indexByte (s.data.toList.drop (i + 1)) 62 = q at *
      by_cases hq : 0 ≤ q
      · have hq1 : ¬ ((q == -1) = true) := by simp; omega
        rw [if_neg hq1, if_pos hq, if_pos (by omega)]
        congr 1
        omega
      · have : q = -1 := by omega
        subst this
        rfl

theorem tag_is (k : Nat) (s : ByteArray) (c : UInt8) (r : List UInt8) (hl : s.data.toList = c :: r) (hb : s.size < 100000) (hk : s.size + 4 ≤ k) :
    wharfref16_tag.f k s = some (if c = 60 ∧ 0 ≤ Lib.indexByte r 62 then Lib.indexByte r 62 + 2 else 0) := by
  have hsz := size_list s
  have hpos : 0 < s.size := by rw [hsz, hl]; simp
  obtain ⟨k, rfl⟩ : ∃ m, k = m + 1 := ⟨k - 1, by omega⟩
  have hbt : bt s 0 = (c.toNat : Int) := by
    rw [show (0 : Int) = ((0 : Nat) : Int) from rfl, bt_nat s 0 hpos, hl]
    rfl
  unfold wharfref16_tag.f
  rw [if_neg (by rw [ByteArray.toList_eq, hl]; simp), if_pos (by omega), hbt]
  by_cases hc : c = 60
  · subst hc
    rw [show (((60 : UInt8).toNat : Int) != 60) = false from rfl]
    simp only [wharfref16_tag.j0]
    rw [if_neg (by decide), show (0 : Int) = ((0 : Nat) : Int) from rfl, tag_loop s.size k 0 s (by omega) (by omega) hb (by omega), List.drop_zero, hl]
    have hge := Lib.indexByte_ge r 62
    have e : Lib.indexByte (60 :: r) 62 = if Lib.indexByte r 62 == -1 then -1 else Lib.indexByte r 62 + 1 := by
      conv => lhs; unfold Lib.indexByte
      rw [if_neg (by decide)]
    rw [e]
    generalize Lib.indexByte r 62 = q at *
    by_cases hq : 0 ≤ q
    · have hq1 : ¬ ((q == -1) = true) := by simp; omega
      rw [if_neg hq1, if_pos (by omega), if_pos ⟨trivial, hq⟩]
      congr 1
      omega
    · have : q = -1 := by omega
      subst this
      rfl
  · have hcn : ((c.toNat : Int) != 60) = true := by
      rw [bne_iff_ne]
      exact fun e => hc (byte_eq (n := 60) e (by decide))
    rw [hcn, if_neg (fun h => hc h.1)]
    simp only [wharfref16_tag.j0, if_true]

def marks : List ByteArray := [⟨#[38, 97, 109, 112, 59]⟩, ⟨#[38, 108, 116, 59]⟩, ⟨#[38, 103, 116, 59]⟩, ⟨#[38, 113, 117, 111, 116, 59]⟩, ⟨#[38, 110, 98, 115, 112, 59]⟩]
def stands : ByteArray := ⟨#[38, 60, 62, 34, 32]⟩

theorem prefix_iff (l p : List UInt8) : Lib.hasPrefix l p = true ↔ p.length ≤ l.length ∧ l.take p.length = p := by
  unfold Lib.hasPrefix
  rw [List.isPrefixOf_iff_prefix]
  constructor
  · intro h
    exact ⟨h.length_le, (List.prefix_iff_eq_take.1 h).symm⟩
  · intro h
    exact List.prefix_iff_eq_take.2 h.2.symm

/-- One mark tried. -/
theorem mark_step (k : Nat) (s : ByteArray) (acc : List UInt8) (i : Nat) (hi : i < 5) (ha : acc.length < 100000000) :
    wharfref16_FromHtml.l1 (k + 2) s (ints acc) marks stands false (i : Int) =
      if Lib.hasPrefix s.data.toList (marks.getD i ByteArray.empty).data.toList = true
      then wharfref16_FromHtml.l1 k (s.extract (marks.getD i ByteArray.empty).size s.size) (ints (acc ++ [stands.data.toList.getD i 0])) marks stands true ((i + 1 : Nat) : Int)
      else wharfref16_FromHtml.l1 k s (ints acc) marks stands false ((i + 1 : Nat) : Int) := by
  have hsz := size_list s
  have hrd : rdOf ByteArray.empty marks (i : Int) = marks.getD i ByteArray.empty := by unfold rdOf; rw [Int.toNat_natCast]
  have hbt : bt stands (i : Int) = (((stands.data.toList.getD i 0)).toNat : Int) := bt_nat stands i hi
  have h1 : k + 2 = (k + 1) + 1 := rfl
  rw [h1]
  simp only [wharfref16_FromHtml.l1, wharfref16_FromHtml.j2]
  have hm5 : ((marks.length : Nat) : Int) = 5 := rfl
  rw [if_pos (by omega), show (!false) = true from rfl, if_pos rfl, if_pos (by omega), if_pos (by omega), hrd]
  generalize hm : marks.getD i ByteArray.empty = m
  have hms := size_list m
  by_cases hp : Lib.hasPrefix s.data.toList m.data.toList = true
  · obtain ⟨p1, p2⟩ := (prefix_iff _ _).1 hp
    rw [if_pos hp, if_pos (by omega), if_pos (by omega), if_pos (by omega), if_pos (by rw [ByteArray.toList_eq, ByteArray.toList_eq, Int.toNat_natCast, take_data, hms]; exact p2), if_pos (by show (i : Int) < 5; omega), if_pos (by rw [ints_length]; omega), hbt,
      w64 (by omega) (by omega), ints_append, Int.toNat_natCast]
    rfl
  · rw [if_neg hp]
    by_cases hle : m.size ≤ s.size
    · rw [if_pos (by omega), if_pos (by omega), if_pos (by omega), if_neg, w64 (by omega) (by omega)]
      · rfl
      · intro e
        rw [ByteArray.toList_eq, ByteArray.toList_eq, Int.toNat_natCast, take_data, hms] at e
        exact hp ((prefix_iff _ _).2 ⟨by omega, e⟩)
    · rw [if_neg (by omega), w64 (by omega) (by omega)]
      rfl

/-- Behind a mark that was found. -/
theorem mark_found (k : Nat) (s : ByteArray) (acc : List UInt8) (i : Nat) :
    wharfref16_FromHtml.l1 (k + 2) s (ints acc) marks stands true (i : Int) = wharfref16_FromHtml.l0 k s (ints acc) marks stands := by
  have h1 : k + 2 = (k + 1) + 1 := rfl
  rw [h1]
  simp only [wharfref16_FromHtml.l1, wharfref16_FromHtml.j2]
  have h2 : (!true) = false := rfl
  rw [h2]
  by_cases h : (i : Int) < ((marks.length : Nat) : Int)
  · rw [if_pos h, if_neg (by decide)]
    rfl
  · rw [if_neg h, if_neg (by decide)]
    rfl

/-- No mark was found. -/
theorem mark_none (k : Nat) (s : ByteArray) (c : UInt8) (r : List UInt8) (hl : s.data.toList = c :: r) (acc : List UInt8) (ha : acc.length < 100000000) :
    wharfref16_FromHtml.l1 (k + 2) s (ints acc) marks stands false ((5 : Nat) : Int) = wharfref16_FromHtml.l0 k (s.extract 1 s.size) (ints (acc ++ [c])) marks stands := by
  have hsz := size_list s
  have hpos : 0 < s.size := by rw [hsz, hl]; simp
  have hbt : bt s 0 = (c.toNat : Int) := by
    rw [show (0 : Int) = ((0 : Nat) : Int) from rfl, bt_nat s 0 hpos, hl]
    rfl
  have h1 : k + 2 = (k + 1) + 1 := rfl
  rw [h1]
  simp only [wharfref16_FromHtml.l1, wharfref16_FromHtml.j2]
  have hm5 : ((marks.length : Nat) : Int) = 5 := rfl
  rw [if_neg (by omega), if_neg (by decide), if_neg (by decide), if_pos (by omega), if_pos (by rw [ints_length]; omega), if_pos (by omega), hbt, ints_append]
  rfl

theorem fromHtml_ref : ∀ (f k : Nat) (s : ByteArray) (acc : List UInt8), s.size ≤ f → 20 * f + s.size + 30 ≤ k → acc.length + s.size < 90000 →
    wharfref16_FromHtml.l0 k s (ints acc) marks stands = some ⟨(acc ++ fromHtmlL f s.data.toList).toArray⟩ := by
  intro f
  induction f with
  | zero =>
    intro k s acc hs hk ha
    obtain ⟨k, rfl⟩ : ∃ m, k = m + 1 := ⟨k - 1, by omega⟩
    have : s.data.toList = [] := List.length_eq_zero_iff.1 (by have := size_list s; omega)
    simp only [wharfref16_FromHtml.l0]
    rw [if_pos (by rw [ByteArray.toList_eq]; exact this), str_ints, this]
    simp [fromHtmlL]
  | succ f ih =>
    intro k s acc hs hk ha
    have hsz := size_list s
    cases hl : s.data.toList with
    | nil =>
      obtain ⟨k, rfl⟩ : ∃ m, k = m + 1 := ⟨k - 1, by omega⟩
      simp only [wharfref16_FromHtml.l0]
      rw [if_pos (by rw [ByteArray.toList_eq]; exact hl), str_ints]
      simp [fromHtmlL]
    | cons c r =>
      obtain ⟨k, rfl⟩ : ∃ m, k = m + 1 := ⟨k - 1, by omega⟩
      have hlen : s.size = r.length + 1 := by rw [hsz, hl]; rfl
      simp only [wharfref16_FromHtml.l0]
      rw [if_neg (by rw [ByteArray.toList_eq, hl]; simp), tag_is k s c r hl (by omega) (by omega)]
      simp only [Option.bind_some]
      by_cases htag : c = 60 ∧ 0 ≤ Lib.indexByte r 62
      · obtain ⟨rfl, hix⟩ := htag
        have hlt : (Lib.indexByte r 62).toNat < r.length := by
          obtain ⟨o, ho⟩ := Int.eq_ofNat_of_zero_le hix
          rw [ho]
          exact (List.getElem?_eq_some_iff.1 (Lib.indexByte_some ho).1).1
        have hcond : (60 : UInt8) = 60 ∧ 0 ≤ Lib.indexByte r 62 := ⟨rfl, hix⟩
        rw [if_pos hcond]
        obtain ⟨q, hq⟩ := Int.eq_ofNat_of_zero_le hix
        rw [hq, Int.toNat_natCast] at hlt
        rw [hq, if_pos (by omega), if_pos (by omega), if_pos (by omega), show ((q : Int) + 2).toNat = q + 2 by omega]
        have hx : (s.extract 0 (q + 2)).size = q + 2 := by have := size_list (s.extract 0 (q + 2)); rw [take_data, List.length_take, ← hsz] at this; omega
        have hq62 : r[q]? = some 62 := (Lib.indexByte_some hq).1
        have htk : r.take (q + 1) = r.take q ++ [62] := by
          rw [List.take_add_one, hq62]; rfl
        have hfold : (foldB (s.extract 0 (q + 2))).toList = 60 :: ((r.take q).map low ++ [62]) := by
          rw [ByteArray.toList_eq]
          simp only [foldB]
          rw [take_data, hl]
          simp only [List.take_succ_cons, List.map_cons, htk, List.map_append, List.map_nil]
          rfl
        have hd : (s.extract (q + 2) s.size).data.toList = r.drop (q + 1) := by rw [ext_data, hl]; rfl
        have hds : (s.extract (q + 2) s.size).size = r.length - (q + 1) := by rw [size_list, hd, List.length_drop]
        have hstep : fromHtmlL (f + 1) (60 :: r) = (if (r.take q).map low = [98, 114] ∨ (r.take q).map low = [98, 114, 47] then [10] else []) ++ fromHtmlL f (r.drop (q + 1)) := by
          rw [fromHtmlL, if_pos ⟨rfl, hix⟩, hq, Int.toNat_natCast]
        simp only [Ext.wharfref01_Fold.f]
        rw [if_pos (by omega)]
        simp only [Option.bind_some]
        rw [hfold, hstep]
        have e1 : ((60 : UInt8) :: ((r.take q).map low ++ [62]) = ([60, 98, 114, 62] : List UInt8)) ↔ (r.take q).map low = [98, 114] := by
          constructor
          · intro h
            injection h with _ h
            exact (List.append_inj' (t₁ := [62]) (t₂ := [62]) (s₂ := [98, 114]) h rfl).1
          · intro h; rw [h]; rfl
        have e2 : ((60 : UInt8) :: ((r.take q).map low ++ [62]) = ([60, 98, 114, 47, 62] : List UInt8)) ↔ (r.take q).map low = [98, 114, 47] := by
          constructor
          · intro h
            injection h with _ h
            exact (List.append_inj' (t₁ := [62]) (t₂ := [62]) (s₂ := [98, 114, 47]) h rfl).1
          · intro h; rw [h]; rfl
        have hten : ints acc ++ [10] = ints (acc ++ [10]) := by rw [ints_append]; rfl
        by_cases b1 : (r.take q).map low = [98, 114]
        · rw [if_pos (e1.2 b1), if_pos (by rw [ints_length]; omega), if_pos (.inl b1), hten, ih _ _ _ (by omega) (by omega) (by rw [List.length_append, hds]; simp; omega), hd, List.append_assoc]
        · rw [if_neg (fun h => b1 (e1.1 h))]
          by_cases b2 : (r.take q).map low = [98, 114, 47]
          · rw [if_pos (e2.2 b2), if_pos (by rw [ints_length]; omega), if_pos (.inr b2), hten, ih _ _ _ (by omega) (by omega) (by rw [List.length_append, hds]; simp; omega), hd, List.append_assoc]
          · rw [if_neg (fun h => b2 (e2.1 h)), if_neg (fun h => h.elim b1 b2), ih _ _ _ (by omega) (by omega) (by rw [hds]; omega), hd]
            rfl
      · rw [if_neg htag, if_neg (by decide)]
        have h1s : (s.extract 1 s.size).data.toList = r := by rw [ext_data, hl]; rfl
        have h1z : (s.extract 1 s.size).size = r.length := by rw [size_list, h1s]
        obtain ⟨k, rfl⟩ : ∃ m, k = m + 12 := ⟨k - 12, by omega⟩
        have found : ∀ (j m : Nat) (K : Nat) (b : UInt8), m = (marks.getD j ByteArray.empty).size → 1 ≤ m → m ≤ s.size → 20 * f + (s.size - m) + 30 ≤ K → fromHtmlL (f + 1) (c :: r) = b :: fromHtmlL f ((c :: r).drop m) →
            wharfref16_FromHtml.l0 K (s.extract m s.size) (ints (acc ++ [b])) marks stands = some ⟨(acc ++ fromHtmlL (f + 1) (c :: r)).toArray⟩ := by
          intro j m K b hm h1 h2 h3 he
          have hd : (s.extract m s.size).data.toList = (c :: r).drop m := by rw [ext_data, hl]
          have hds : (s.extract m s.size).size = s.size - m := by rw [size_list, hd, ← hl, List.length_drop, ← hsz]
          rw [ih _ _ _ (by omega) (by omega) (by rw [List.length_append, hds]; simp; omega), hd, he, List.append_assoc]
          rfl
        have hstep : ∀ (b n : Int), entityOf (c :: r) = (b, n) → 0 < n → fromHtmlL (f + 1) (c :: r) = UInt8.ofNat b.toNat :: fromHtmlL f ((c :: r).drop n.toNat) := by
          intro b n he hn
          rw [fromHtmlL, if_neg htag, he, if_pos hn]
        have hplain : entityOf (c :: r) = (0, 0) → fromHtmlL (f + 1) (c :: r) = c :: fromHtmlL f r := by
          intro he
          rw [fromHtmlL, if_neg htag, he, if_neg (by decide)]
        have hle : ∀ p : List UInt8, Lib.hasPrefix s.data.toList p = true → p.length ≤ s.size := fun p h => by have := ((prefix_iff _ _).1 h).1; omega
        have s0 := mark_step (k + 10) s acc 0 (by omega) (by omega)
        have s1 := mark_step (k + 8) s acc 1 (by omega) (by omega)
        have s2 := mark_step (k + 6) s acc 2 (by omega) (by omega)
        have s3 := mark_step (k + 4) s acc 3 (by omega) (by omega)
        have s4 := mark_step (k + 2) s acc 4 (by omega) (by omega)
        rw [show (0 : Int) = ((0 : Nat) : Int) from rfl, show k + 12 = (k + 10) + 2 from rfl, s0]
        by_cases p0 : Lib.hasPrefix s.data.toList (marks.getD 0 ByteArray.empty).data.toList = true
        · rw [if_pos p0, show k + 10 = (k + 8) + 2 from rfl, mark_found]
          have hp : Lib.hasPrefix (c :: r) [38, 97, 109, 112, 59] = true := by rw [← hl]; exact p0
          exact found 0 5 _ 38 rfl (by decide) (hle _ p0) (by omega) (hstep 38 5 (by unfold entityOf; rw [if_pos hp]) (by decide))
        rw [if_neg p0, show (0 + 1 : Nat) = 1 from rfl, show k + 10 = (k + 8) + 2 from rfl, s1]
        have q0 : ¬ Lib.hasPrefix (c :: r) [38, 97, 109, 112, 59] = true := by rw [← hl]; exact p0
        by_cases p1 : Lib.hasPrefix s.data.toList (marks.getD 1 ByteArray.empty).data.toList = true
        · rw [if_pos p1, show k + 8 = (k + 6) + 2 from rfl, mark_found]
          have hp : Lib.hasPrefix (c :: r) [38, 108, 116, 59] = true := by rw [← hl]; exact p1
          exact found 1 4 _ 60 rfl (by decide) (hle _ p1) (by omega) (hstep 60 4 (by unfold entityOf; rw [if_neg q0, if_pos hp]) (by decide))
        rw [if_neg p1, show (1 + 1 : Nat) = 2 from rfl, show k + 8 = (k + 6) + 2 from rfl, s2]
        have q1 : ¬ Lib.hasPrefix (c :: r) [38, 108, 116, 59] = true := by rw [← hl]; exact p1
        by_cases p2 : Lib.hasPrefix s.data.toList (marks.getD 2 ByteArray.empty).data.toList = true
        · rw [if_pos p2, show k + 6 = (k + 4) + 2 from rfl, mark_found]
          have hp : Lib.hasPrefix (c :: r) [38, 103, 116, 59] = true := by rw [← hl]; exact p2
          exact found 2 4 _ 62 rfl (by decide) (hle _ p2) (by omega) (hstep 62 4 (by unfold entityOf; rw [if_neg q0, if_neg q1, if_pos hp]) (by decide))
        rw [if_neg p2, show (2 + 1 : Nat) = 3 from rfl, show k + 6 = (k + 4) + 2 from rfl, s3]
        have q2 : ¬ Lib.hasPrefix (c :: r) [38, 103, 116, 59] = true := by rw [← hl]; exact p2
        by_cases p3 : Lib.hasPrefix s.data.toList (marks.getD 3 ByteArray.empty).data.toList = true
        · rw [if_pos p3, show k + 4 = (k + 2) + 2 from rfl, mark_found]
          have hp : Lib.hasPrefix (c :: r) [38, 113, 117, 111, 116, 59] = true := by rw [← hl]; exact p3
          exact found 3 6 _ 34 rfl (by decide) (hle _ p3) (by omega) (hstep 34 6 (by unfold entityOf; rw [if_neg q0, if_neg q1, if_neg q2, if_pos hp]) (by decide))
        rw [if_neg p3, show (3 + 1 : Nat) = 4 from rfl, show k + 4 = (k + 2) + 2 from rfl, s4]
        have q3 : ¬ Lib.hasPrefix (c :: r) [38, 113, 117, 111, 116, 59] = true := by rw [← hl]; exact p3
        by_cases p4 : Lib.hasPrefix s.data.toList (marks.getD 4 ByteArray.empty).data.toList = true
        · rw [if_pos p4, mark_found]
          have hp : Lib.hasPrefix (c :: r) [38, 110, 98, 115, 112, 59] = true := by rw [← hl]; exact p4
          exact found 4 6 _ 32 rfl (by decide) (hle _ p4) (by omega) (hstep 32 6 (by unfold entityOf; rw [if_neg q0, if_neg q1, if_neg q2, if_neg q3, if_pos hp]) (by decide))
        rw [if_neg p4, show (4 + 1 : Nat) = 5 from rfl]
        have q4 : ¬ Lib.hasPrefix (c :: r) [38, 110, 98, 115, 112, 59] = true := by rw [← hl]; exact p4
        rw [mark_none k s c r hl acc (by omega), ih _ _ _ (by omega) (by omega) (by rw [List.length_append, h1z]; simp; omega), h1s, hplain (by unfold entityOf; rw [if_neg q0, if_neg q1, if_neg q2, if_neg q3, if_neg q4]), List.append_assoc]
        rfl

theorem fromHtml_same (s : ByteArray) (hs : s.size ≤ 50000) (k : Nat) (hk : 21 * s.size + 30 ≤ k) : wharfref16_FromHtml.f k s = some ⟨(fromHtml s).toArray⟩ := by
  unfold wharfref16_FromHtml.f
  have := fromHtml_ref s.size k s [] (Nat.le_refl _) (by omega) (by simp; omega)
  exact this

end Go.Proofs.Ytbbbggcokpffnaa.Pure

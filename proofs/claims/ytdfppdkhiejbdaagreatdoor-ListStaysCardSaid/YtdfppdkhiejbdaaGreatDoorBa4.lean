import Derived.Test.YtdfppdkhiejbdaaGreatDoorBa0
import Derived.Laws.Strings
import Derived.Shelf.Abstract
import Derived.Lib.Hide
import Derived.Outline
import Derived.Test.YtdfppdkhiejbdaaGreatDoorBa3
import Derived.Test.YtdfppdkhiejbdaaGreatDoorBa1
section
/- Plain laws of UTF-8 on lists of bytes: what a sign at the front is, and that it is written in one way. No program in sight. -/
namespace Go.Proofs.YtdfppdkhiejbdaaGreatDoor.Utf
open Go.RowKit Go.Proofs.YtdfppdkhiejbdaaGreatDoor.Plain

/-- A number that is a sign. -/
def good (c : Nat) : Prop := c < 55296 ∨ 57344 ≤ c ∧ c ≤ 1114111
instance (c : Nat) : Decidable (good c) := by unfold good; infer_instance

/-- A byte of a list; 0 behind its end. -/
def at_ (l : List UInt8) (k : Nat) : Nat := (l.getD k 0).toNat
theorem at_lt (l : List UInt8) (k : Nat) : at_ l k < 256 := (l.getD k 0).toNat_lt
def tail (n : Nat) : Prop := 128 ≤ n ∧ n < 192
instance (n : Nat) : Decidable (tail n) := by unfold tail; infer_instance
def v2 (a b : Nat) : Nat := (a - 192) * 64 + (b - 128)
def v3 (a b c : Nat) : Nat := (a - 224) * 4096 + (b - 128) * 64 + (c - 128)
def v4 (a b c d : Nat) : Nat := (a - 240) * 262144 + (b - 128) * 4096 + (c - 128) * 64 + (d - 128)

/-- The sign at the front, and how many bytes it has. -/
def dec (l : List UInt8) : Option (Nat × Nat) :=
  if l.length = 0 then none
  else if at_ l 0 < 128 then some (at_ l 0, 1)
  else if 192 ≤ at_ l 0 ∧ at_ l 0 < 224 ∧ 1 < l.length ∧ tail (at_ l 1) ∧ 128 ≤ v2 (at_ l 0) (at_ l 1) then some (v2 (at_ l 0) (at_ l 1), 2)
  else if 224 ≤ at_ l 0 ∧ at_ l 0 < 240 ∧ 2 < l.length ∧ tail (at_ l 1) ∧ tail (at_ l 2) ∧ 2048 ≤ v3 (at_ l 0) (at_ l 1) (at_ l 2) ∧ good (v3 (at_ l 0) (at_ l 1) (at_ l 2)) then some (v3 (at_ l 0) (at_ l 1) (at_ l 2), 3)
  else if 240 ≤ at_ l 0 ∧ at_ l 0 < 248 ∧ 3 < l.length ∧ tail (at_ l 1) ∧ tail (at_ l 2) ∧ tail (at_ l 3) ∧ 65536 ≤ v4 (at_ l 0) (at_ l 1) (at_ l 2) (at_ l 3) ∧ v4 (at_ l 0) (at_ l 1) (at_ l 2) (at_ l 3) ≤ 1114111 then some (v4 (at_ l 0) (at_ l 1) (at_ l 2) (at_ l 3), 4)
  else none

/-- The model's own decoding, on a list. -/
def decL (l : List UInt8) : Nat × Nat :=
  let at' (k : Nat) : Nat := (l.getD k 0).toNat
  let cont (k : Nat) : Bool := k < l.length && at' k / 64 == 2
  let b0 := at' 0
  if b0 < 0x80 then (b0, 1)
  else if b0 / 32 == 6 && cont 1 then
    let c := (b0 % 32) * 64 + at' 1 % 64
    if c ≥ 0x80 then (c, 2) else (Utf8.runeError, 1)
  else if b0 / 16 == 14 && cont 1 && cont 2 then
    let c := (b0 % 16) * 4096 + (at' 1 % 64) * 64 + at' 2 % 64
    if c ≥ 0x800 && Utf8.valid c then (c, 3) else (Utf8.runeError, 1)
  else if b0 / 8 == 30 && cont 1 && cont 2 && cont 3 then
    let c := (b0 % 8) * 262144 + (at' 1 % 64) * 4096 + (at' 2 % 64) * 64 + at' 3 % 64
    if c ≥ 0x10000 && Utf8.valid c then (c, 4) else (Utf8.runeError, 1)
  else (Utf8.runeError, 1)

theorem get_drop (s : ByteArray) (pos k : Nat) : (s.get! (pos + k)).toNat = ((s.data.toList.drop pos).getD k 0).toNat := by
  congr 1
  show s.data[pos + k]! = _
  by_cases h : pos + k < s.data.size
  · rw [getElem!_pos s.data (pos + k) h]
    simp [List.getD, List.getElem?_drop]
    rw [Array.getElem?_eq_getElem h]; rfl
  · rw [getElem!_neg s.data (pos + k) h]
    have : s.data.toList.length ≤ pos + k := by simpa using h
    simp [List.getD, List.getElem?_drop, List.getElem?_eq_none this]
    rfl

theorem decode_drop (s : ByteArray) (pos : Nat) : Utf8.decode s pos = decL (s.data.toList.drop pos) := by
  unfold Utf8.decode decL
  have e : ∀ k, decide (pos + k < s.size) = decide (k < (s.data.toList.drop pos).length) := by
    intro k
    rw [List.length_drop, show s.data.toList.length = s.size by simp]
    congr 1
    apply propext
    omega
  simp only [get_drop, e]


theorem valid_good (c : Nat) : Utf8.valid (c : Int) = true ↔ good c := by
  unfold Utf8.valid good
  simp only [Bool.or_eq_true, Bool.and_eq_true, decide_eq_true_eq]
  omega

/-- What is read at the front: the sign and its bytes, or one byte that is none. -/
theorem decL_dec (l : List UInt8) (hl : l ≠ []) : decL l = match dec l with | some x => x | none => (65533, 1) := by
  have ha := at_lt l 0
  have hb := at_lt l 1
  have hc := at_lt l 2
  have hd := at_lt l 3
  have hn : l.length ≠ 0 := fun h => hl (List.length_eq_zero_iff.1 h)
  unfold decL dec
  simp only [show ∀ k, (l.getD k 0).toNat = at_ l k from fun _ => rfl, Utf8.runeError]
  generalize at_ l 0 = a at *
  generalize at_ l 1 = b at *
  generalize at_ l 2 = c at *
  generalize at_ l 3 = d at *
  generalize l.length = n at *
  rw [if_neg hn]
  by_cases h1 : a < 128
  · rw [if_pos h1, if_pos h1]
  rw [if_neg h1, if_neg h1]
  by_cases h2 : 192 ≤ a ∧ a < 224 ∧ 1 < n ∧ tail b ∧ 128 ≤ v2 a b
  · rw [if_pos h2, if_pos (by unfold tail at h2; simp; omega), if_pos (by unfold tail v2 at h2; omega)]
    unfold tail at h2; unfold v2; simp; omega
  rw [if_neg h2]
  by_cases g2 : (a / 32 == 6 && (decide (1 < n) && b / 64 == 2)) = true
  · have g2' : a / 32 = 6 ∧ 1 < n ∧ b / 64 = 2 := by simpa using g2
    rw [if_pos g2, if_neg (by unfold tail v2 at h2; omega), if_neg (by omega), if_neg (by omega)]
  rw [if_neg g2]
  by_cases h3 : 224 ≤ a ∧ a < 240 ∧ 2 < n ∧ tail b ∧ tail c ∧ 2048 ≤ v3 a b c ∧ good (v3 a b c)
  · have e : a % 16 * 4096 + b % 64 * 64 + c % 64 = v3 a b c := by unfold tail at h3; unfold v3; omega
    rw [if_pos h3, if_pos (by unfold tail at h3; simp; omega), e, if_pos]
    simp only [Bool.and_eq_true, decide_eq_true_eq, valid_good]
    exact ⟨by omega, h3.2.2.2.2.2.2⟩
  rw [if_neg h3]
  by_cases g3 : (a / 16 == 14 && (decide (1 < n) && b / 64 == 2) && (decide (2 < n) && c / 64 == 2)) = true
  · have g3' : (a / 16 = 14 ∧ 1 < n ∧ b / 64 = 2) ∧ 2 < n ∧ c / 64 = 2 := by simpa using g3
    have e : a % 16 * 4096 + b % 64 * 64 + c % 64 = v3 a b c := by unfold v3; omega
    rw [if_pos g3, e, if_neg, if_neg (by omega)]
    simp only [Bool.and_eq_true, decide_eq_true_eq, valid_good]
    intro hh
    exact h3 ⟨by omega, by omega, by omega, by unfold tail; omega, by unfold tail; omega, hh.1, hh.2⟩
  rw [if_neg g3]
  by_cases h4 : 240 ≤ a ∧ a < 248 ∧ 3 < n ∧ tail b ∧ tail c ∧ tail d ∧ 65536 ≤ v4 a b c d ∧ v4 a b c d ≤ 1114111
  · have e : a % 8 * 262144 + b % 64 * 4096 + c % 64 * 64 + d % 64 = v4 a b c d := by unfold tail at h4; unfold v4; omega
    rw [if_pos h4, if_pos (by unfold tail at h4; simp; omega), e, if_pos]
    simp only [Bool.and_eq_true, decide_eq_true_eq, valid_good]
    exact ⟨by omega, by unfold good; omega⟩
  rw [if_neg h4]
  by_cases g4 : (a / 8 == 30 && (decide (1 < n) && b / 64 == 2) && (decide (2 < n) && c / 64 == 2) && (decide (3 < n) && d / 64 == 2)) = true
  · have g4' : ((a / 8 = 30 ∧ 1 < n ∧ b / 64 = 2) ∧ 2 < n ∧ c / 64 = 2) ∧ 3 < n ∧ d / 64 = 2 := by simpa using g4
    have e : a % 8 * 262144 + b % 64 * 4096 + c % 64 * 64 + d % 64 = v4 a b c d := by unfold v4; omega
    rw [if_pos g4, e, if_neg]
    simp only [Bool.and_eq_true, decide_eq_true_eq, valid_good]
    intro hh
    have := hh.2
    unfold good at this
    exact h4 ⟨by omega, by omega, by omega, by unfold tail; omega, by unfold tail; omega, by unfold tail; omega, hh.1, by omega⟩
  · rw [if_neg g4]


/-- A sign's bytes. -/
def encL (c : Nat) : List UInt8 :=
  if c < 128 then [UInt8.ofNat c] else if c < 2048 then [UInt8.ofNat (192 + c / 64), UInt8.ofNat (128 + c % 64)]
  else if c < 65536 then [UInt8.ofNat (224 + c / 4096), UInt8.ofNat (128 + c / 64 % 64), UInt8.ofNat (128 + c % 64)]
  else [UInt8.ofNat (240 + c / 262144), UInt8.ofNat (128 + c / 4096 % 64), UInt8.ofNat (128 + c / 64 % 64), UInt8.ofNat (128 + c % 64)]
def encW (c : Nat) : Nat := if c < 128 then 1 else if c < 2048 then 2 else if c < 65536 then 3 else 4
theorem encL_length (c : Nat) : (encL c).length = encW c := by
  unfold encL encW; repeat' split
  all_goals rfl
theorem encW_pos (c : Nat) : 1 ≤ encW c ∧ encW c ≤ 4 := by unfold encW; repeat' split
                                                           all_goals omega
theorem encW_width (c : Nat) : (encW c : Int) = width (c : Int) := by
  unfold encW width; repeat' split
  all_goals first | rfl | omega

set_option maxRecDepth 100000 in
theorem encode_encL (c : Nat) (h : good c) : (Utf8.encode (c : Int)).data.toList = encL c := by
  have e : (if Utf8.valid (c : Int) = true then (c : Int).toNat else Utf8.runeError) = c := by rw [if_pos ((valid_good c).2 h), Int.toNat_natCast]
  unfold Utf8.encode encL
  simp only [e]
  by_cases h1 : c < 128
  · rw [if_pos h1, if_pos h1]
  rw [if_neg h1, if_neg h1]
  by_cases h2 : c < 2048
  · rw [if_pos h2, if_pos h2]
  rw [if_neg h2, if_neg h2]
  by_cases h3 : c < 65536
  · rw [if_pos h3, if_pos h3]
  rw [if_neg h3, if_neg h3]

theorem ofNat_at (l : List UInt8) (k : Nat) : UInt8.ofNat (at_ l k) = l.getD k 0 := by unfold at_; simp

theorem take1 (l : List UInt8) (h : 0 < l.length) : l.take 1 = [UInt8.ofNat (at_ l 0)] := by
  match l, h with
  | a :: r, _ => simp [at_]
theorem take2 (l : List UInt8) (h : 1 < l.length) : l.take 2 = [UInt8.ofNat (at_ l 0), UInt8.ofNat (at_ l 1)] := by
  match l, h with
  | a :: b :: r, _ => simp [at_]
theorem take3 (l : List UInt8) (h : 2 < l.length) : l.take 3 = [UInt8.ofNat (at_ l 0), UInt8.ofNat (at_ l 1), UInt8.ofNat (at_ l 2)] := by
  match l, h with
  | a :: b :: c :: r, _ => simp [at_]
theorem take4 (l : List UInt8) (h : 3 < l.length) : l.take 4 = [UInt8.ofNat (at_ l 0), UInt8.ofNat (at_ l 1), UInt8.ofNat (at_ l 2), UInt8.ofNat (at_ l 3)] := by
  match l, h with
  | a :: b :: c :: d :: r, _ => simp [at_]

/-- What was read is a sign, written in its one way. -/
theorem dec_some {l : List UInt8} {c n : Nat} (h : dec l = some (c, n)) : good c ∧ n = encW c ∧ n ≤ l.length ∧ l.take n = encL c := by
  have ha := at_lt l 0
  have t1 := take1 l
  have t2 := take2 l
  have t3 := take3 l
  have t4 := take4 l
  unfold dec at h
  generalize at_ l 0 = a at *
  generalize at_ l 1 = b at *
  generalize at_ l 2 = x at *
  generalize at_ l 3 = d at *
  by_cases h0 : l.length = 0
  · rw [if_pos h0] at h; cases h
  rw [if_neg h0] at h
  by_cases h1 : a < 128
  · rw [if_pos h1] at h
    obtain ⟨rfl, rfl⟩ := Prod.mk.inj (Option.some.inj h)
    refine ⟨by unfold good; omega, by unfold encW; rw [if_pos h1], by omega, ?_⟩
    rw [t1 (by omega)]; unfold encL; rw [if_pos h1]
  rw [if_neg h1] at h
  by_cases h2 : 192 ≤ a ∧ a < 224 ∧ 1 < l.length ∧ tail b ∧ 128 ≤ v2 a b
  · rw [if_pos h2] at h
    obtain ⟨rfl, rfl⟩ := Prod.mk.inj (Option.some.inj h)
    obtain ⟨g1, g2, g3, g4, g5⟩ := h2
    have e1 : 192 + v2 a b / 64 = a := by unfold tail at g4; unfold v2; omega
    have e2 : 128 + v2 a b % 64 = b := by unfold tail at g4; unfold v2; omega
    have hlt : v2 a b < 2048 := by unfold tail at g4; unfold v2; omega
    refine ⟨by unfold good; omega, by unfold encW; rw [if_neg (by omega), if_pos hlt], by omega, ?_⟩
    rw [t2 g3]; unfold encL; rw [if_neg (by omega), if_pos hlt, e1, e2]
  rw [if_neg h2] at h
  by_cases h3 : 224 ≤ a ∧ a < 240 ∧ 2 < l.length ∧ tail b ∧ tail x ∧ 2048 ≤ v3 a b x ∧ good (v3 a b x)
  · rw [if_pos h3] at h
    obtain ⟨rfl, rfl⟩ := Prod.mk.inj (Option.some.inj h)
    obtain ⟨g1, g2, g3, g4, g5, g6, g7⟩ := h3
    have e1 : 224 + v3 a b x / 4096 = a := by unfold tail at g4 g5; unfold v3; omega
    have e2 : 128 + v3 a b x / 64 % 64 = b := by unfold tail at g4 g5; unfold v3; omega
    have e3 : 128 + v3 a b x % 64 = x := by unfold tail at g4 g5; unfold v3; omega
    have hlt : v3 a b x < 65536 := by unfold tail at g4 g5; unfold v3; omega
    refine ⟨g7, by unfold encW; rw [if_neg (by omega), if_neg (by omega), if_pos hlt], by omega, ?_⟩
    rw [t3 g3]; unfold encL; rw [if_neg (by omega), if_neg (by omega), if_pos hlt, e1, e2, e3]
  rw [if_neg h3] at h
  by_cases h4 : 240 ≤ a ∧ a < 248 ∧ 3 < l.length ∧ tail b ∧ tail x ∧ tail d ∧ 65536 ≤ v4 a b x d ∧ v4 a b x d ≤ 1114111
  · rw [if_pos h4] at h
    obtain ⟨rfl, rfl⟩ := Prod.mk.inj (Option.some.inj h)
    obtain ⟨g1, g2, g3, g4, g5, g6, g7, g8⟩ := h4
    have e1 : 240 + v4 a b x d / 262144 = a := by unfold tail at g4 g5 g6; unfold v4; omega
    have e2 : 128 + v4 a b x d / 4096 % 64 = b := by unfold tail at g4 g5 g6; unfold v4; omega
    have e3 : 128 + v4 a b x d / 64 % 64 = x := by unfold tail at g4 g5 g6; unfold v4; omega
    have e4 : 128 + v4 a b x d % 64 = d := by unfold tail at g4 g5 g6; unfold v4; omega
    refine ⟨by unfold good; omega, by unfold encW; rw [if_neg (by omega), if_neg (by omega), if_neg (by omega)], by omega, ?_⟩
    rw [t4 g3]; unfold encL; rw [if_neg (by omega), if_neg (by omega), if_neg (by omega), e1, e2, e3, e4]
  rw [if_neg h4] at h
  cases h

theorem at_zero (n : Nat) (r : List UInt8) (h : n < 256) : at_ (UInt8.ofNat n :: r) 0 = n := by simp [at_]; omega
theorem at_succ (a : UInt8) (r : List UInt8) (k : Nat) : at_ (a :: r) (k + 1) = at_ r k := by simp [at_]

/-- A sign's bytes are read as that sign. -/
theorem dec_encL (c : Nat) (r : List UInt8) (hg : good c) : dec (encL c ++ r) = some (c, encW c) := by
  unfold good at hg
  unfold encL encW
  by_cases h1 : c < 128
  · rw [if_pos h1, if_pos h1]
    unfold dec
    rw [if_neg (by simp), List.cons_append, at_zero c _ (by omega), if_pos h1]
  rw [if_neg h1, if_neg h1]
  by_cases h2 : c < 2048
  · rw [if_pos h2, if_pos h2]
    unfold dec
    rw [if_neg (by simp), List.cons_append, List.cons_append, at_zero _ _ (by omega), at_succ _ _ 0, at_zero _ _ (by omega), if_neg (by omega)]
    have e : v2 (192 + c / 64) (128 + c % 64) = c := by unfold v2; omega
    rw [e, if_pos ⟨by omega, by omega, by simp, by unfold tail; omega, by omega⟩]
  rw [if_neg h2, if_neg h2]
  by_cases h3 : c < 65536
  · rw [if_pos h3, if_pos h3]
    unfold dec
    simp only [List.cons_append]
    rw [if_neg (by simp), at_zero _ _ (by omega), at_succ _ _ 0, at_zero _ _ (by omega), at_succ _ _ 1, at_succ _ _ 0, at_zero _ _ (by omega), if_neg (by omega), if_neg (by omega)]
    have e : v3 (224 + c / 4096) (128 + c / 64 % 64) (128 + c % 64) = c := by unfold v3; omega
    rw [e, if_pos ⟨by omega, by omega, by simp, by unfold tail; omega, by unfold tail; omega, by omega, by unfold good; omega⟩]
  rw [if_neg h3, if_neg h3]
  unfold dec
  simp only [List.cons_append]
  rw [if_neg (by simp), at_zero _ _ (by omega), at_succ _ _ 0, at_zero _ _ (by omega), at_succ _ _ 1, at_succ _ _ 0, at_zero _ _ (by omega), at_succ _ _ 2, at_succ _ _ 1, at_succ _ _ 0, at_zero _ _ (by omega),
    if_neg (by omega), if_neg (by omega), if_neg (by omega)]
  have e : v4 (240 + c / 262144) (128 + c / 4096 % 64) (128 + c / 64 % 64) (128 + c % 64) = c := by unfold v4; omega
  rw [e, if_pos ⟨by omega, by omega, by simp, by unfold tail; omega, by unfold tail; omega, by unfold tail; omega, by omega, by omega⟩]

/-- What the program's First answers, by 'dec'. -/
def gfL (l : List UInt8) : Int × Int × Int := match dec l with | some (c, n) => ((c : Int), (n : Int), 0) | none => (0, 0, 10)

theorem size_list (s : ByteArray) : s.size = s.data.toList.length := by simp

theorem gf_gfL (s : ByteArray) : gf s = gfL s.data.toList := by
  have hd := decode_drop s 0
  rw [List.drop_zero] at hd
  have hsz := size_list s
  have he : (s.extract 0 3).toList = s.data.toList.take 3 := by
    rw [ByteArray.toList_eq]
    obtain ⟨⟨l⟩⟩ := s
    rw [show (ByteArray.mk { toList := l }) = ByteArray.mk l.toArray from rfl, ByteArray.extract_mk]
    simp
  unfold gf gfL
  by_cases h0 : s.size = 0
  · rw [if_pos h0]
    have : s.data.toList = [] := List.length_eq_zero_iff.1 (by omega)
    rw [this]; rfl
  rw [if_neg h0, hd, decL_dec _ (fun h => h0 (by rw [hsz, h]; rfl)), he]
  cases hx : dec s.data.toList with
  | none =>
    simp only
    rw [if_pos]
    refine ⟨trivial, ?_⟩
    rcases Nat.lt_or_ge s.size 3 with h | h
    · exact .inl h
    · right
      intro e
      have : s.data.toList = encL 65533 ++ s.data.toList.drop 3 := by
        conv => lhs; rw [← List.take_append_drop 3 s.data.toList, e]
        rfl
      rw [this, dec_encL _ _ (by decide)] at hx
      cases hx
  | some x =>
    obtain ⟨c, n⟩ := x
    obtain ⟨g, hn, hle, ht⟩ := dec_some hx
    simp only
    rw [if_neg, hn, encW_width]
    rintro ⟨rfl, h⟩
    have hw : n = 3 := by rw [hn]; rfl
    subst hw
    rcases h with h | h
    · omega
    · exact h (by rw [ht]; rfl)

end Go.Proofs.YtdfppdkhiejbdaaGreatDoor.Utf
end

section
/- Package list over plain items: slices.IndexFunc, ContainsFunc, list.find. -/
set_option linter.unusedVariables false
set_option linter.unusedSimpArgs false
namespace Go.Proofs.YtdfppdkhiejbdaaGreatDoor.Li
open Go.RowKit Go.Proofs.YtdfppdkhiejbdaaGreatDoor.PList Go.Proofs.YtdfppdkhiejbdaaGreatDoorW.PrintWords

theorem cells6 {w : World} {g : Nat} {t : TypeId} {a b c d e f : Value} (h : w.heap[g]? = some (.cells #[a, b, c, d, e, f] t (0, 0))) :
    w.cell? ⟨g, 0, none⟩ = some a ∧ w.cell? ⟨g, 1, none⟩ = some b ∧ w.cell? ⟨g, 2, none⟩ = some c ∧ w.cell? ⟨g, 3, none⟩ = some d ∧ w.cell? ⟨g, 4, none⟩ = some e ∧ w.cell? ⟨g, 5, none⟩ = some f ∧
    w.frozen? ⟨g, 0, none⟩ = false ∧ w.frozen? ⟨g, 1, none⟩ = false ∧ w.frozen? ⟨g, 2, none⟩ = false ∧ w.frozen? ⟨g, 3, none⟩ = false ∧ w.frozen? ⟨g, 4, none⟩ = false ∧ w.frozen? ⟨g, 5, none⟩ = false :=
  ⟨blk_cell h 0, blk_cell h 1, blk_cell h 2, blk_cell h 3, blk_cell h 4, blk_cell h 5, blk_frozen h 0, blk_frozen h 1, blk_frozen h 2, blk_frozen h 3, blk_frozen h 4, blk_frozen h 5⟩

theorem six {n : Nat} {w w1 : World} (e : w.heap.size = n) (h : Below n w w1) {a b c d k f : Value} :
    Below w.heap.size w ((((((w1.setCell ⟨n, 0, none⟩ a).setCell ⟨n, 1, none⟩ b).setCell ⟨n, 2, none⟩ c).setCell ⟨n, 3, none⟩ d).setCell ⟨n, 4, none⟩ k).setCell ⟨n, 5, none⟩ f) := by
  subst e
  exact (((((h.setCell (p := ⟨w.heap.size, 0, none⟩) (Nat.le_refl _) _).setCell (p := ⟨w.heap.size, 1, none⟩) (Nat.le_refl _) _).setCell (p := ⟨w.heap.size, 2, none⟩) (Nat.le_refl _) _).setCell (p := ⟨w.heap.size, 3, none⟩) (Nat.le_refl _) _).setCell (p := ⟨w.heap.size, 4, none⟩) (Nat.le_refl _) _).setCell (p := ⟨w.heap.size, 5, none⟩) (Nat.le_refl _) _

/-- An item as a value. -/
@[reducible] def iv (x : S26) : Value := .agg #[.string x.f0, .int .i64 x.f1, .int .i64 x.f2, .int .i64 x.f3, .string x.f4, .bool x.f5]

def idxB (p : S26 → Bool) (xs : List S26) : Int := match xs.findIdx? p with | some i => (i : Int) | none => -1
def findB (p : S26 → Bool) (xs : List S26) : S26 × Bool := match xs.find? p with | some x => (x, true) | none => (z26, false)

theorem idx_any (p : S26 → Bool) (hs : List S26) : decide (0 ≤ idxB p hs) = hs.any p := by
  unfold idxB
  cases h : hs.findIdx? p with
  | none =>
    rw [List.findIdx?_eq_none_iff] at h
    simp only [show ¬ (0 ≤ (-1 : Int)) by omega, decide_false]
    symm
    rw [List.any_eq_false]
    intro x hx
    rw [h x hx]; exact Bool.false_ne_true
  | some k =>
    rw [List.findIdx?_eq_some_iff_getElem] at h
    obtain ⟨hk, hq, _⟩ := h
    simp only [show 0 ≤ (k : Int) by omega, decide_true]
    symm
    rw [List.any_eq_true]
    exact ⟨_, List.getElem_mem hk, hq⟩

theorem idx_cases (p : S26 → Bool) (xs : List S26) : (idxB p xs = -1 ∧ findB p xs = (z26, false)) ∨ ∃ k, ∃ h : k < xs.length, idxB p xs = (k : Int) ∧ findB p xs = (xs[k], true) := by
  unfold idxB findB
  cases h : xs.findIdx? p with
  | none =>
    left
    rw [List.findIdx?_eq_none_iff] at h
    refine ⟨rfl, ?_⟩
    rw [List.find?_eq_none.mpr (fun x hx => by rw [h x hx]; exact Bool.false_ne_true)]
  | some k =>
    right
    rw [List.findIdx?_eq_some_iff_getElem] at h
    obtain ⟨hk, hq, hno⟩ := h
    refine ⟨k, hk, rfl, ?_⟩
    rw [List.find?_eq_some_iff_getElem.mpr ⟨hq, k, hk, rfl, fun j hj => by have := hno j hj; simpa using this⟩]

/-- What is known of a predicate over items (a function value that holds no cells), from w on. -/
def Pred0 (fc : Nat) (p : S26 → Bool) (xs : List S26) (w : World) : Prop :=
  ∀ (W : World) (x : S26), x ∈ xs → Below w.heap.size w W → Calls Tryz.prog fc #[iv x] W fun e w' => e = .returned (.bool (p x)) ∧ Below W.heap.size W w'

/-- The same of a function value that holds 1 cell. -/
def Pred1 (fc kb0 : Nat) (p : S26 → Bool) (xs : List S26) (w : World) : Prop :=
  ∀ (W : World) (x : S26), x ∈ xs → Below w.heap.size w W → Calls Tryz.prog fc #[iv x, .pointer (some ⟨kb0, 0, none⟩)] W fun e w' => e = .returned (.bool (p x)) ∧ Below W.heap.size W w'

theorem up {a b c : World} (h : Below a.heap.size a b) (k : Below b.heap.size b c) : Below a.heap.size a c := h.trans (k.mono h.size)
theorem Pred1.up {fc kb0 : Nat} {p : S26 → Bool} {xs : List S26} {w w' : World} (h : Pred1 fc kb0 p xs w) (hb : Below w.heap.size w w') : Pred1 fc kb0 p xs w' := fun W x hx hW => h W x hx (Li.up hb hW)

set_option maxHeartbeats 4000000 in
set_option maxRecDepth 1000000 in
theorem Index0_calls (fc : Nat) (p : S26 → Bool) (eg : ∀ args w, (callFunc fc args).run Tryz.prog w = .ok (.enter fc args) w) (A : Option Addr) (c : Nat) (xs : List S26) (w : World) (hC : Kd.C k26 w A xs.length xs) (hl : xs.length ≤ 1099511627776) (hp : Pred0 fc p xs w) :
    Calls Tryz.prog 47 #[.slice A xs.length c, .func (.func fc) #[] #[]] w fun e w' => e = .returned (.int .i64 (idxB p xs)) ∧ Below w.heap.size w w' := by
  have HC := Lib.hid hC
  have HP := Lib.hid hp
  clear hC hp
  go_enter Tryz.func47, Tryz.ntmps47
  go_wp2
  go_loopw [8] (fun x wr => ∃ k : Nat, k ≤ xs.length ∧ x = .int .i64 k ∧ Hid (Below w.heap.size w wr) ∧ Hid (∀ j, j < k → ∀ h : j < xs.length, p xs[j] = false)) (fun x _ => xs.length - (intOf x).toNat)
  case atStart => exact ⟨0, Nat.zero_le _, rfl, Below.refl _ _, fun j hj => absurd hj (Nat.not_lt_zero _)⟩
  case round =>
    obtain ⟨k, hk, rfl, hb, hno⟩ := hrel
    by_cases hlt : k < xs.length
    · have hCr := Kd.C_below HC.out hb.out
      obtain ⟨ad, hA, q0, q1, q2, q3, q4, q5⟩ := at_T26 hCr (k : Int) (by omega) (by omega)
      have hrd : rd_T26 xs (k : Int) = xs[k] := by simp [rd_T26, hlt]
      rw [hrd] at q0 q1 q2 q3 q4 q5
      subst hA
      simp only [Int.toNat_natCast] at q0 q1 q2 q3 q4 q5
      have hcall := HP.out wr xs[k] (List.getElem_mem hlt) hb.out
      clear hrd hCr
      cases hq : p xs[k] with
      | true =>
        rw [hq] at hcall
        have HQ := Lib.hid hq
        have HCALL := Lib.hid hcall
        clear hq hcall
        go_wp2_with (go_at_fn fc; refine Calls.mono HCALL.out ?_; rintro e w' ⟨rfl, hb'⟩)
        go_ret
        refine ⟨?_, up hb.out hb'⟩
        unfold idxB
        rw [show xs.findIdx? p = some k from ?_]
        · rfl
        · rw [List.findIdx?_eq_some_iff_getElem]
          exact ⟨hlt, HQ.out, fun j hj => by rw [hno.out j hj (by omega)]; exact Bool.false_ne_true⟩
      | false =>
        rw [hq] at hcall
        have HQ := Lib.hid hq
        have HCALL := Lib.hid hcall
        clear hq hcall
        go_wp2_with (go_at_fn fc; refine Calls.mono HCALL.out ?_; rintro e w' ⟨rfl, hb'⟩)
        refine ⟨⟨k + 1, by omega, by go_num, up hb.out hb', ?_⟩, by simp [intOf]; omega⟩
        show ∀ j, j < k + 1 → _
        intro j hj h
        by_cases e : j = k
        · subst e; exact HQ.out
        · exact hno.out j (by omega) h
    · obtain rfl : k = xs.length := by omega
      go_wp2
      go_ret
      refine ⟨?_, hb.out⟩
      unfold idxB
      rw [show xs.findIdx? p = none from ?_]
      · rfl
      · rw [List.findIdx?_eq_none_iff]
        intro x hx
        obtain ⟨j, hj, rfl⟩ := List.getElem_of_mem hx
        exact hno.out j hj hj

set_option maxHeartbeats 1000000 in
theorem Contains0_calls (fc : Nat) (p : S26 → Bool) (eg : ∀ args w, (callFunc fc args).run Tryz.prog w = .ok (.enter fc args) w) (A : Option Addr) (c : Nat) (xs : List S26) (w : World) (hC : Kd.C k26 w A xs.length xs) (hl : xs.length ≤ 1099511627776) (hp : Pred0 fc p xs w) :
    Calls Tryz.prog 30 #[.slice A xs.length c, .func (.func fc) #[] #[]] w fun e w' => e = .returned (.bool (xs.any p)) ∧ Below w.heap.size w w' := by
  have HI := Lib.hid (Index0_calls fc p eg A c xs w hC hl hp)
  rw [← idx_any]
  generalize idxB p xs = k at *
  clear hC hp
  go_enter Tryz.func30, Tryz.ntmps30
  go_wp2_with (go_at_call 47; refine Calls.mono HI.out ?_; rintro e w' ⟨rfl, hb'⟩)
  go_ret
  exact ⟨rfl, hb'⟩

set_option maxHeartbeats 4000000 in
set_option maxRecDepth 1000000 in
theorem Index1_calls (fc kb0 : Nat) (p : S26 → Bool) (eg : ∀ args w, (callFunc fc args).run Tryz.prog w = .ok (.enter fc args) w) (A : Option Addr) (c : Nat) (xs : List S26) (w : World) (hC : Kd.C k26 w A xs.length xs) (hl : xs.length ≤ 1099511627776) (hp : Pred1 fc kb0 p xs w) :
    Calls Tryz.prog 47 #[.slice A xs.length c, .func (.func fc) #[] #[.pointer (some ⟨kb0, 0, none⟩)]] w fun e w' => e = .returned (.int .i64 (idxB p xs)) ∧ Below w.heap.size w w' := by
  have HC := Lib.hid hC
  have HP := Lib.hid hp
  clear hC hp
  go_enter Tryz.func47, Tryz.ntmps47
  go_wp2
  go_loopw [8] (fun x wr => ∃ k : Nat, k ≤ xs.length ∧ x = .int .i64 k ∧ Hid (Below w.heap.size w wr) ∧ Hid (∀ j, j < k → ∀ h : j < xs.length, p xs[j] = false)) (fun x _ => xs.length - (intOf x).toNat)
  case atStart => exact ⟨0, Nat.zero_le _, rfl, Below.refl _ _, fun j hj => absurd hj (Nat.not_lt_zero _)⟩
  case round =>
    obtain ⟨k, hk, rfl, hb, hno⟩ := hrel
    by_cases hlt : k < xs.length
    · have hCr := Kd.C_below HC.out hb.out
      obtain ⟨ad, hA, q0, q1, q2, q3, q4, q5⟩ := at_T26 hCr (k : Int) (by omega) (by omega)
      have hrd : rd_T26 xs (k : Int) = xs[k] := by simp [rd_T26, hlt]
      rw [hrd] at q0 q1 q2 q3 q4 q5
      subst hA
      simp only [Int.toNat_natCast] at q0 q1 q2 q3 q4 q5
      have hcall := HP.out wr xs[k] (List.getElem_mem hlt) hb.out
      clear hrd hCr
      cases hq : p xs[k] with
      | true =>
        rw [hq] at hcall
        have HQ := Lib.hid hq
        have HCALL := Lib.hid hcall
        clear hq hcall
        go_wp2_with (go_at_fn fc; refine Calls.mono HCALL.out ?_; rintro e w' ⟨rfl, hb'⟩)
        go_ret
        refine ⟨?_, up hb.out hb'⟩
        unfold idxB
        rw [show xs.findIdx? p = some k from ?_]
        · rfl
        · rw [List.findIdx?_eq_some_iff_getElem]
          exact ⟨hlt, HQ.out, fun j hj => by rw [hno.out j hj (by omega)]; exact Bool.false_ne_true⟩
      | false =>
        rw [hq] at hcall
        have HQ := Lib.hid hq
        have HCALL := Lib.hid hcall
        clear hq hcall
        go_wp2_with (go_at_fn fc; refine Calls.mono HCALL.out ?_; rintro e w' ⟨rfl, hb'⟩)
        refine ⟨⟨k + 1, by omega, by go_num, up hb.out hb', ?_⟩, by simp [intOf]; omega⟩
        show ∀ j, j < k + 1 → _
        intro j hj h
        by_cases e : j = k
        · subst e; exact HQ.out
        · exact hno.out j (by omega) h
    · obtain rfl : k = xs.length := by omega
      go_wp2
      go_ret
      refine ⟨?_, hb.out⟩
      unfold idxB
      rw [show xs.findIdx? p = none from ?_]
      · rfl
      · rw [List.findIdx?_eq_none_iff]
        intro x hx
        obtain ⟨j, hj, rfl⟩ := List.getElem_of_mem hx
        exact hno.out j hj hj

set_option maxHeartbeats 1000000 in
theorem Contains1_calls (fc kb0 : Nat) (p : S26 → Bool) (eg : ∀ args w, (callFunc fc args).run Tryz.prog w = .ok (.enter fc args) w) (A : Option Addr) (c : Nat) (xs : List S26) (w : World) (hC : Kd.C k26 w A xs.length xs) (hl : xs.length ≤ 1099511627776) (hp : Pred1 fc kb0 p xs w) :
    Calls Tryz.prog 30 #[.slice A xs.length c, .func (.func fc) #[] #[.pointer (some ⟨kb0, 0, none⟩)]] w fun e w' => e = .returned (.bool (xs.any p)) ∧ Below w.heap.size w w' := by
  have HI := Lib.hid (Index1_calls fc kb0 p eg A c xs w hC hl hp)
  rw [← idx_any]
  generalize idxB p xs = k at *
  clear hC hp
  go_enter Tryz.func30, Tryz.ntmps30
  go_wp2_with (go_at_call 47; refine Calls.mono HI.out ?_; rintro e w' ⟨rfl, hb'⟩)
  go_ret
  exact ⟨rfl, hb'⟩

set_option maxHeartbeats 4000000 in
theorem find_calls (fc kb0 : Nat) (p : S26 → Bool) (eg : ∀ args w, (callFunc fc args).run Tryz.prog w = .ok (.enter fc args) w) (A : Option Addr) (c : Nat) (xs : List S26) (w : World) (hC : Kd.C k26 w A xs.length xs) (hl : xs.length ≤ 1099511627776) (hp : Pred1 fc kb0 p xs w) :
    Calls Tryz.prog 34 #[.slice A xs.length c, .func (.func fc) #[] #[.pointer (some ⟨kb0, 0, none⟩)]] w fun e w' => e = .returned (.tuple #[iv (findB p xs).1, .bool (findB p xs).2]) ∧ Below w.heap.size w w' := by
  have hb0 : Below w.heap.size w (w.alloc (.cells #[.string ⟨#[]⟩, .int .i64 0, .int .i64 0, .int .i64 0, .string ⟨#[]⟩, .bool false] 26)) := (Below.refl _ _).alloc (Nat.le_refl _) _
  have HI := Lib.hid (Index1_calls fc kb0 p eg A c xs _ (Kd.C_below hC hb0) hl (hp.up hb0))
  have HC := Lib.hid hC
  have HB0 := Lib.hid hb0
  have ei := idx_cases p xs
  clear hp hC hb0
  rcases ei with ⟨e1, e2⟩ | ⟨k, hk, e1, e2⟩
  · rw [e1] at HI
    rw [e2]
    clear e1 e2
    go_enter Tryz.func34, Tryz.ntmps34
    go_wp2_with fail
    refine Calls.mono HI.out ?_
    rintro en w1 ⟨rfl, hb1⟩
    have hB := blk_below (blk_new w (.cells #[.string ⟨#[]⟩, .int .i64 0, .int .i64 0, .int .i64 0, .string ⟨#[]⟩, .bool false] 26)) hb1
    obtain ⟨z0, z1, z2, z3, z4, z5, f0, f1, f2, f3, f4, f5⟩ := cells6 hB
    have hC1 := Kd.C_below HC.out (up HB0.out hb1)
    have hb2 := up HB0.out hb1
    clear hb1 hB HB0 HC HI
    generalize hn : w.heap.size = n at *
    have HB2 := Lib.hid hb2
    have HN := Lib.hid hn
    clear hb2 hn
    clear hC1
    go_wp2_with fail
    refine bodyPost_ret (v := .tuple #[iv z26, .bool false]) (by simp [results, Tryz.results34, go_sem, z0, z1, z2, z3, z4, z5, z26]) rfl ⟨rfl, ?_⟩
    exact six HN.out HB2.out
  · rw [e1] at HI
    rw [e2]
    clear e1 e2
    go_enter Tryz.func34, Tryz.ntmps34
    go_wp2_with fail
    refine Calls.mono HI.out ?_
    rintro en w1 ⟨rfl, hb1⟩
    have hB := blk_below (blk_new w (.cells #[.string ⟨#[]⟩, .int .i64 0, .int .i64 0, .int .i64 0, .string ⟨#[]⟩, .bool false] 26)) hb1
    obtain ⟨z0, z1, z2, z3, z4, z5, f0, f1, f2, f3, f4, f5⟩ := cells6 hB
    have hC1 := Kd.C_below HC.out (up HB0.out hb1)
    have hb2 := up HB0.out hb1
    clear hb1 hB HB0 HC HI
    generalize hn : w.heap.size = n at *
    have HB2 := Lib.hid hb2
    have HN := Lib.hid hn
    clear hb2 hn
    obtain ⟨ad, hA, q0, q1, q2, q3, q4, q5⟩ := at_T26 hC1 (k : Int) (by omega) (by omega)
    have hrd : rd_T26 xs (k : Int) = xs[k] := by simp [rd_T26, hk]
    rw [hrd] at q0 q1 q2 q3 q4 q5
    subst hA
    simp only [Int.toNat_natCast] at q0 q1 q2 q3 q4 q5
    clear hC1 hrd
    go_wp2_with fail
    refine bodyPost_ret (v := .tuple #[iv xs[k], .bool true]) (by simp [results, Tryz.results34, go_sem, z0, z1, z2, z3, z4, z5]) rfl ⟨rfl, ?_⟩
    exact six HN.out HB2.out
end Go.Proofs.YtdfppdkhiejbdaaGreatDoor.Li
end

section
/- Package list: the predicates, hasGroup, fits, Buddy, Group, Title. -/
set_option linter.unusedVariables false
set_option linter.unusedSimpArgs false
namespace Go.Proofs.YtdfppdkhiejbdaaGreatDoor.Li
open Go.RowKit Go.Proofs.YtdfppdkhiejbdaaGreatDoor.PList Go.Proofs.YtdfppdkhiejbdaaGreatDoorW.PrintWords

def isG (x : S26) : Bool := x.f3 == 1
def inG (g : Int) (x : S26) : Bool := isG x && x.f1 == g
def called (s : ByteArray) (x : S26) : Bool := isG x && x.f0.toList == s.toList
def sameB (a b : ByteArray) : Bool := (Lg.normB a).toList == (Lg.normB b).toList
def alike (s : ByteArray) (x : S26) : Bool := !isG x && sameB x.f0 s

@[reducible] def ib (x : S26) : Obj := .cells #[.string x.f0, .int .i64 x.f1, .int .i64 x.f2, .int .i64 x.f3, .string x.f4, .bool x.f5] 26

theorem isG_calls (x : S26) (w : World) : Calls Tryz.prog 32 #[iv x] w fun e w' => e = .returned (.bool (isG x)) ∧ Below w.heap.size w w' :=
  list_isGroup.calls x.f0 x.f1 x.f2 x.f3 x.f4 x.f5 (isG x) w rfl

theorem same_calls (a b : ByteArray) (w : World) (ha : a.size ≤ 17592186044416) (hb : b.size ≤ 17592186044416) : Calls Tryz.prog 36 #[.string a, .string b] w fun e w' => e = .returned (.bool (sameB a b)) ∧ Below w.heap.size w w' :=
  handle_Same.calls a b (sameB a b) w (by unfold handle_Same.f Ext.handle_Norm.f; rw [if_pos ha, if_pos hb]; rfl)

set_option maxHeartbeats 2000000 in
theorem has1_calls (x : S26) (g : Int) (kb0 : Nat) (w : World) (hc : w.cell? ⟨kb0, 0, none⟩ = some (.int .i64 g)) :
    Calls Tryz.prog 54 #[iv x, .pointer (some ⟨kb0, 0, none⟩)] w fun e w' => e = .returned (.bool (inG g x)) ∧ Below w.heap.size w w' := by
  have hk : kb0 < w.heap.size := World.block_lt_of_cell? w _ hc
  have HB0 := Lib.hid ((Below.refl _ _).alloc (Nat.le_refl _) _ : Below w.heap.size w (w.alloc (ib x)))
  have HI := Lib.hid (isG_calls x (w.alloc (ib x)))
  have HC := Lib.hid hc
  clear hc
  unfold inG
  generalize isG x = b at *
  cases b
  · go_enter Tryz.func54, Tryz.ntmps54
    go_wp2_with fail
    refine Calls.mono HI.out ?_
    rintro en w1 ⟨rfl, hb1⟩
    obtain ⟨z0, z1, z2, z3, z4, z5, f0, f1, f2, f3, f4, f5⟩ := cells6 (blk_below (blk_new w _) hb1)
    have hb2 := up HB0.out hb1
    have hg : w1.cell? ⟨kb0, 0, none⟩ = some (.int .i64 g) := (hb2.cell (p := ⟨kb0, 0, none⟩) hk).trans HC.out
    have HB2 := Lib.hid hb2
    clear hb1 hb2
    go_wp2_with fail
    go_ret
    exact ⟨by simp, HB2.out⟩
  · go_enter Tryz.func54, Tryz.ntmps54
    go_wp2_with fail
    refine Calls.mono HI.out ?_
    rintro en w1 ⟨rfl, hb1⟩
    obtain ⟨z0, z1, z2, z3, z4, z5, f0, f1, f2, f3, f4, f5⟩ := cells6 (blk_below (blk_new w _) hb1)
    have hb2 := up HB0.out hb1
    have hg : w1.cell? ⟨kb0, 0, none⟩ = some (.int .i64 g) := (hb2.cell (p := ⟨kb0, 0, none⟩) hk).trans HC.out
    have HB2 := Lib.hid hb2
    clear hb1 hb2
    go_wp2_with fail
    go_ret
    exact ⟨by simp, HB2.out⟩

set_option maxHeartbeats 2000000 in
theorem title1_calls (x : S26) (g : Int) (kb0 : Nat) (w : World) (hc : w.cell? ⟨kb0, 0, none⟩ = some (.int .i64 g)) :
    Calls Tryz.prog 37 #[iv x, .pointer (some ⟨kb0, 0, none⟩)] w fun e w' => e = .returned (.bool (inG g x)) ∧ Below w.heap.size w w' := by
  have hk : kb0 < w.heap.size := World.block_lt_of_cell? w _ hc
  have HB0 := Lib.hid ((Below.refl _ _).alloc (Nat.le_refl _) _ : Below w.heap.size w (w.alloc (ib x)))
  have HI := Lib.hid (isG_calls x (w.alloc (ib x)))
  have HC := Lib.hid hc
  clear hc
  unfold inG
  generalize isG x = b at *
  cases b
  · go_enter Tryz.func37, Tryz.ntmps37
    go_wp2_with fail
    refine Calls.mono HI.out ?_
    rintro en w1 ⟨rfl, hb1⟩
    obtain ⟨z0, z1, z2, z3, z4, z5, f0, f1, f2, f3, f4, f5⟩ := cells6 (blk_below (blk_new w _) hb1)
    have hb2 := up HB0.out hb1
    have hg : w1.cell? ⟨kb0, 0, none⟩ = some (.int .i64 g) := (hb2.cell (p := ⟨kb0, 0, none⟩) hk).trans HC.out
    have HB2 := Lib.hid hb2
    clear hb1 hb2
    go_wp2_with fail
    go_ret
    exact ⟨by simp, HB2.out⟩
  · go_enter Tryz.func37, Tryz.ntmps37
    go_wp2_with fail
    refine Calls.mono HI.out ?_
    rintro en w1 ⟨rfl, hb1⟩
    obtain ⟨z0, z1, z2, z3, z4, z5, f0, f1, f2, f3, f4, f5⟩ := cells6 (blk_below (blk_new w _) hb1)
    have hb2 := up HB0.out hb1
    have hg : w1.cell? ⟨kb0, 0, none⟩ = some (.int .i64 g) := (hb2.cell (p := ⟨kb0, 0, none⟩) hk).trans HC.out
    have HB2 := Lib.hid hb2
    clear hb1 hb2
    go_wp2_with fail
    go_ret
    exact ⟨by simp, HB2.out⟩

set_option maxHeartbeats 2000000 in
theorem group1_calls (x : S26) (s : ByteArray) (kb0 : Nat) (w : World) (hc : w.cell? ⟨kb0, 0, none⟩ = some (.string s)) (hx : x.f0.size ≤ 17592186044416) (hs : s.size ≤ 17592186044416) :
    Calls Tryz.prog 38 #[iv x, .pointer (some ⟨kb0, 0, none⟩)] w fun e w' => e = .returned (.bool (called s x)) ∧ Below w.heap.size w w' := by
  have hk : kb0 < w.heap.size := World.block_lt_of_cell? w _ hc
  have HB0 := Lib.hid ((Below.refl _ _).alloc (Nat.le_refl _) _ : Below w.heap.size w (w.alloc (ib x)))
  have HI := Lib.hid (isG_calls x (w.alloc (ib x)))
  have HC := Lib.hid hc
  clear hc
  unfold called
  generalize isG x = b at *
  cases b
  · go_enter Tryz.func38, Tryz.ntmps38
    go_wp2_with fail
    refine Calls.mono HI.out ?_
    rintro en w1 ⟨rfl, hb1⟩
    obtain ⟨z0, z1, z2, z3, z4, z5, f0, f1, f2, f3, f4, f5⟩ := cells6 (blk_below (blk_new w _) hb1)
    have hb2 := up HB0.out hb1
    have hg : w1.cell? ⟨kb0, 0, none⟩ = some (.string s) := (hb2.cell (p := ⟨kb0, 0, none⟩) hk).trans HC.out
    have HB2 := Lib.hid hb2
    clear hb1 hb2
    go_wp2_with fail
    go_ret
    exact ⟨by simp, HB2.out⟩
  · go_enter Tryz.func38, Tryz.ntmps38
    go_wp2_with fail
    refine Calls.mono HI.out ?_
    rintro en w1 ⟨rfl, hb1⟩
    obtain ⟨z0, z1, z2, z3, z4, z5, f0, f1, f2, f3, f4, f5⟩ := cells6 (blk_below (blk_new w _) hb1)
    have hb2 := up HB0.out hb1
    have hg : w1.cell? ⟨kb0, 0, none⟩ = some (.string s) := (hb2.cell (p := ⟨kb0, 0, none⟩) hk).trans HC.out
    have HB2 := Lib.hid hb2
    clear hb1 hb2
    go_wp2_with fail
    go_ret
    exact ⟨by simp, HB2.out⟩

set_option maxHeartbeats 2000000 in
theorem buddy1_calls (x : S26) (s : ByteArray) (kb0 : Nat) (w : World) (hc : w.cell? ⟨kb0, 0, none⟩ = some (.string s)) (hx : x.f0.size ≤ 17592186044416) (hs : s.size ≤ 17592186044416) :
    Calls Tryz.prog 35 #[iv x, .pointer (some ⟨kb0, 0, none⟩)] w fun e w' => e = .returned (.bool (alike s x)) ∧ Below w.heap.size w w' := by
  have hk : kb0 < w.heap.size := World.block_lt_of_cell? w _ hc
  have HB0 := Lib.hid ((Below.refl _ _).alloc (Nat.le_refl _) _ : Below w.heap.size w (w.alloc (ib x)))
  have HI := Lib.hid (isG_calls x (w.alloc (ib x)))
  have HC := Lib.hid hc
  clear hc
  unfold alike
  generalize isG x = b at *
  cases b
  · go_enter Tryz.func35, Tryz.ntmps35
    go_wp2_with fail
    refine Calls.mono HI.out ?_
    rintro en w1 ⟨rfl, hb1⟩
    obtain ⟨z0, z1, z2, z3, z4, z5, f0, f1, f2, f3, f4, f5⟩ := cells6 (blk_below (blk_new w _) hb1)
    have hb2 := up HB0.out hb1
    have hg : w1.cell? ⟨kb0, 0, none⟩ = some (.string s) := (hb2.cell (p := ⟨kb0, 0, none⟩) hk).trans HC.out
    have HB2 := Lib.hid hb2
    clear hb1 hb2
    go_wp2_with fail
    refine Calls.mono (same_calls x.f0 s w1 hx hs) ?_
    rintro en w2 ⟨rfl, hb3⟩
    have HB3 := Lib.hid (up HB2.out hb3)
    clear hb3
    go_wp2_with fail
    go_ret
    exact ⟨by simp, HB3.out⟩
  · go_enter Tryz.func35, Tryz.ntmps35
    go_wp2_with fail
    refine Calls.mono HI.out ?_
    rintro en w1 ⟨rfl, hb1⟩
    obtain ⟨z0, z1, z2, z3, z4, z5, f0, f1, f2, f3, f4, f5⟩ := cells6 (blk_below (blk_new w _) hb1)
    have hb2 := up HB0.out hb1
    have hg : w1.cell? ⟨kb0, 0, none⟩ = some (.string s) := (hb2.cell (p := ⟨kb0, 0, none⟩) hk).trans HC.out
    have HB2 := Lib.hid hb2
    clear hb1 hb2
    go_wp2_with fail
    go_ret
    exact ⟨by simp, HB2.out⟩

end Go.Proofs.YtdfppdkhiejbdaaGreatDoor.Li
end

section
/- Package list: hasGroup, fits, Buddy, Group, Title. -/
set_option linter.unusedVariables false
set_option linter.unusedSimpArgs false
namespace Go.Proofs.YtdfppdkhiejbdaaGreatDoor.Li
open Go.RowKit Go.Proofs.YtdfppdkhiejbdaaGreatDoor.PList Go.Proofs.YtdfppdkhiejbdaaGreatDoorW.PrintWords

/-- There are not too many items, and their texts are not too long. -/
def Sm (xs : List S26) : Prop := xs.length ≤ 1099511627776 ∧ ∀ x ∈ xs, x.f0.size ≤ 17592186044416 ∧ x.f4.size ≤ 17592186044416

theorem find_any (p : S26 → Bool) (xs : List S26) : (findB p xs).2 = xs.any p := by
  unfold findB
  cases h : xs.find? p with
  | none =>
    rw [List.find?_eq_none] at h
    symm
    rw [List.any_eq_false]
    exact h
  | some x =>
    symm
    rw [List.any_eq_true]
    exact ⟨x, List.mem_of_find?_eq_some h, List.find?_some h⟩

theorem has_pred (g : Int) (xs : List S26) (w : World) (kb : Nat) (hc : w.cell? ⟨kb, 0, none⟩ = some (.int .i64 g)) : Pred1 54 kb (inG g) xs w :=
  fun W x _ hb => has1_calls x g kb W ((hb.cell (p := ⟨kb, 0, none⟩) (World.block_lt_of_cell? w _ hc)).trans hc)
theorem title_pred (g : Int) (xs : List S26) (w : World) (kb : Nat) (hc : w.cell? ⟨kb, 0, none⟩ = some (.int .i64 g)) : Pred1 37 kb (inG g) xs w :=
  fun W x _ hb => title1_calls x g kb W ((hb.cell (p := ⟨kb, 0, none⟩) (World.block_lt_of_cell? w _ hc)).trans hc)
theorem group_pred (s : ByteArray) (hs : s.size ≤ 17592186044416) (xs : List S26) (h : Sm xs) (w : World) (kb : Nat) (hc : w.cell? ⟨kb, 0, none⟩ = some (.string s)) : Pred1 38 kb (called s) xs w :=
  fun W x hx hb => group1_calls x s kb W ((hb.cell (p := ⟨kb, 0, none⟩) (World.block_lt_of_cell? w _ hc)).trans hc) (h.2 x hx).1 hs
theorem buddy_pred (s : ByteArray) (hs : s.size ≤ 17592186044416) (xs : List S26) (h : Sm xs) (w : World) (kb : Nat) (hc : w.cell? ⟨kb, 0, none⟩ = some (.string s)) : Pred1 35 kb (alike s) xs w :=
  fun W x hx hb => buddy1_calls x s kb W ((hb.cell (p := ⟨kb, 0, none⟩) (World.block_lt_of_cell? w _ hc)).trans hc) (h.2 x hx).1 hs

theorem new1 (w : World) (v : Value) (t : TypeId) : (w.alloc (.cells #[v] t)).cell? ⟨w.heap.size, 0, none⟩ = some v := blk_cell (blk_new w _) 0
theorem bel1 (w : World) (o : Obj) : Below w.heap.size w (w.alloc o) := (Below.refl _ _).alloc (Nat.le_refl _) _

theorem sixth {n : Nat} {w w1 : World} (h : Below w.heap.size w w1) (e : w.heap.size ≤ n) {a b c d k f : Value} :
    Below w.heap.size w ((((((w1.setCell ⟨n, 0, none⟩ a).setCell ⟨n, 1, none⟩ b).setCell ⟨n, 2, none⟩ c).setCell ⟨n, 3, none⟩ d).setCell ⟨n, 4, none⟩ k).setCell ⟨n, 5, none⟩ f) :=
  (((((h.setCell (p := ⟨n, 0, none⟩) e _).setCell (p := ⟨n, 1, none⟩) e _).setCell (p := ⟨n, 2, none⟩) e _).setCell (p := ⟨n, 3, none⟩) e _).setCell (p := ⟨n, 4, none⟩) e _).setCell (p := ⟨n, 5, none⟩) e _

set_option maxHeartbeats 2000000 in
theorem hasGroup_calls (g : Int) (A : Option Addr) (c : Nat) (xs : List S26) (w : World) (hC : Kd.C k26 w A xs.length xs) (hs : Sm xs) :
    Calls Tryz.prog 41 #[.slice A xs.length c, .int .i64 g] w fun e w' => e = .returned (.bool (xs.any (inG g))) ∧ Below w.heap.size w w' := by
  have HI := Lib.hid (find_calls 54 w.heap.size (inG g) (enters_of Tryz.func54 (by kernel_rfl) rfl) A c xs (w.alloc (.cells #[.int .i64 g] 3)) (Kd.C_below hC (bel1 w _)) hs.1 (has_pred g xs _ _ (new1 _ _ _)))
  have HB0 := Lib.hid (bel1 w (.cells #[.int .i64 g] 3))
  rw [← find_any]
  generalize findB (inG g) xs = r at *
  clear hC hs
  go_enter Tryz.func41, Tryz.ntmps41
  go_wp2_with fail
  refine Calls.mono HI.out ?_
  rintro en w1 ⟨rfl, hb1⟩
  have HB1 := Lib.hid (up HB0.out hb1)
  clear hb1 HI HB0
  go_wp2_with fail
  go_ret
  exact ⟨rfl, up HB1.out (bel1 _ _)⟩

def fitsB (xs : List S26) (x : S26) : Bool :=
  if isG x then decide (0 < x.f1) && x.f2 == 0 && !(x.f0.toList == [])
  else decide (0 < x.f2) && xs.any (inG x.f1)

set_option maxHeartbeats 4000000 in
set_option maxRecDepth 100000 in
theorem fits_calls (x : S26) (A : Option Addr) (c : Nat) (xs : List S26) (w : World) (hC : Kd.C k26 w A xs.length xs) (hs : Sm xs) :
    Calls Tryz.prog 19 #[.slice A xs.length c, iv x] w fun e w' => e = .returned (.bool (fitsB xs x)) ∧ Below w.heap.size w w' := by
  have HB0 := Lib.hid (bel1 w (ib x))
  have HI := Lib.hid (isG_calls x (w.alloc (ib x)))
  have HG := Lib.hid (fun w1 (h : Below w.heap.size w w1) => hasGroup_calls x.f1 A c xs w1 (Kd.C_below hC h) hs)
  clear hC hs
  unfold fitsB
  generalize isG x = b at *
  generalize xs.any (inG x.f1) = hg at *
  cases b
  · by_cases h2 : 0 < x.f2
    · go_enter Tryz.func19, Tryz.ntmps19
      go_wp2_with fail
      refine Calls.mono HI.out ?_
      rintro en w1 ⟨rfl, hb1⟩
      obtain ⟨z0, z1, z2, z3, z4, z5, f0, f1, f2, f3, f4, f5⟩ := cells6 (blk_below (blk_new w _) hb1)
      have HB1 := Lib.hid (up HB0.out hb1)
      clear hb1
      go_wp2_with fail
      refine Calls.mono (HG.out w1 HB1.out) ?_
      rintro en w2 ⟨rfl, hb2⟩
      have HB2 := Lib.hid (up HB1.out hb2)
      clear hb2
      go_wp2_with fail
      go_ret
      exact ⟨by simp [h2], HB2.out⟩
    · go_enter Tryz.func19, Tryz.ntmps19
      go_wp2_with fail
      refine Calls.mono HI.out ?_
      rintro en w1 ⟨rfl, hb1⟩
      obtain ⟨z0, z1, z2, z3, z4, z5, f0, f1, f2, f3, f4, f5⟩ := cells6 (blk_below (blk_new w _) hb1)
      have HB1 := Lib.hid (up HB0.out hb1)
      clear hb1
      go_wp2_with fail
      go_ret
      exact ⟨by simp [show ¬ 0 < x.f2 by omega], HB1.out⟩
  · by_cases h1 : 0 < x.f1
    all_goals
      go_enter Tryz.func19, Tryz.ntmps19
      go_wp2_with fail
      refine Calls.mono HI.out ?_
      rintro en w1 ⟨rfl, hb1⟩
      obtain ⟨z0, z1, z2, z3, z4, z5, f0, f1, f2, f3, f4, f5⟩ := cells6 (blk_below (blk_new w _) hb1)
      have HB1 := Lib.hid (up HB0.out hb1)
      clear hb1
      by_cases h2 : x.f2 = 0
      all_goals
        go_wp2_with fail
        go_ret
        exact ⟨by by_cases h3 : 0 < x.f1 <;> first | (exfalso; omega) | simp [h3, h2], HB1.out⟩

set_option maxHeartbeats 2000000 in
theorem Title_calls (g t : Int) (A : Option Addr) (c : Nat) (xs : List S26) (w : World) (hC : Kd.C k26 w A xs.length xs) (hs : Sm xs) :
    Calls Tryz.prog 14 #[.agg #[.slice A xs.length c, .int .i64 t], .int .i64 g] w fun e w' => e = .returned (.string (findB (inG g) xs).1.f0) ∧ Below w.heap.size w w' := by
  have HB1 := Lib.hid (up (bel1 w (.cells #[.slice A xs.length c, .int .i64 t] 24)) (bel1 _ (.cells #[.int .i64 g] 3)))
  have HI := Lib.hid (find_calls 37 _ (inG g) (enters_of Tryz.func37 (by kernel_rfl) rfl) A c xs ((w.alloc (.cells #[.slice A xs.length c, .int .i64 t] 24)).alloc (.cells #[.int .i64 g] 3)) (Kd.C_below hC HB1.out) hs.1 (title_pred g xs _ _ (new1 _ _ _)))
  generalize findB (inG g) xs = r at *
  clear hC hs
  go_enter Tryz.func14, Tryz.ntmps14
  go_wp2_with fail
  rw [World.size_alloc] at HI
  refine Calls.mono HI.out ?_
  rintro en w2 ⟨rfl, hb2⟩
  have HB2 := Lib.hid (up HB1.out hb2)
  clear hb2 HI HB1
  go_wp2_with fail
  go_ret
  exact ⟨rfl, up HB2.out (bel1 _ _)⟩

set_option maxHeartbeats 4000000 in
theorem Group_calls (s : ByteArray) (t : Int) (A : Option Addr) (c : Nat) (xs : List S26) (w : World) (hC : Kd.C k26 w A xs.length xs) (hs : Sm xs) (hS : s.size ≤ 17592186044416) :
    Calls Tryz.prog 16 #[.agg #[.slice A xs.length c, .int .i64 t], .string s] w fun e w' => e = .returned (.tuple #[iv (findB (called s) xs).1, .bool (findB (called s) xs).2]) ∧ Below w.heap.size w w' := by
  have HB1 := Lib.hid (up (up (bel1 w (.cells #[.slice A xs.length c, .int .i64 t] 24)) (bel1 _ (.cells #[.string s] 9))) (bel1 _ (.cells #[.string ⟨#[]⟩, .int .i64 0, .int .i64 0, .int .i64 0, .string ⟨#[]⟩, .bool false] 26)))
  have hn : (((w.alloc (.cells #[.slice A xs.length c, .int .i64 t] 24)).alloc (.cells #[.string s] 9)).alloc (.cells #[.string ⟨#[]⟩, .int .i64 0, .int .i64 0, .int .i64 0, .string ⟨#[]⟩, .bool false] 26)).heap[w.heap.size + 1 + 1]? = some (.cells #[.string ⟨#[]⟩, .int .i64 0, .int .i64 0, .int .i64 0, .string ⟨#[]⟩, .bool false] 26 (0, 0)) := by
    have := blk_new ((w.alloc (.cells #[.slice A xs.length c, .int .i64 t] 24)).alloc (.cells #[.string s] 9)) (.cells #[.string ⟨#[]⟩, .int .i64 0, .int .i64 0, .int .i64 0, .string ⟨#[]⟩, .bool false] 26)
    rwa [World.size_alloc, World.size_alloc] at this
  have hs0 : (((w.alloc (.cells #[.slice A xs.length c, .int .i64 t] 24)).alloc (.cells #[.string s] 9)).alloc (.cells #[.string ⟨#[]⟩, .int .i64 0, .int .i64 0, .int .i64 0, .string ⟨#[]⟩, .bool false] 26)).cell? ⟨w.heap.size + 1, 0, none⟩ = some (.string s) := by
    have := blk_cell (blk_alloc (blk_new (w.alloc (.cells #[.slice A xs.length c, .int .i64 t] 24)) (.cells #[.string s] 9)) (.cells #[.string ⟨#[]⟩, .int .i64 0, .int .i64 0, .int .i64 0, .string ⟨#[]⟩, .bool false] 26)) 0
    rwa [World.size_alloc] at this
  have HI := Lib.hid (find_calls 38 _ (called s) (enters_of Tryz.func38 (by kernel_rfl) rfl) A c xs _ (Kd.C_below hC HB1.out) hs.1 (group_pred s hS xs hs _ _ hs0))
  have HN := Lib.hid hn
  generalize findB (called s) xs = r at *
  clear hC hs hn hs0
  go_enter Tryz.func16, Tryz.ntmps16
  go_wp2_with fail
  refine Calls.mono HI.out ?_
  rintro en w2 ⟨rfl, hb2⟩
  obtain ⟨z0, z1, z2, z3, z4, z5, f0, f1, f2, f3, f4, f5⟩ := cells6 (blk_below HN.out hb2)
  have HB2 := Lib.hid (up HB1.out hb2)
  clear hb2 HI HB1 HN
  go_wp2_with fail
  refine bodyPost_ret (v := .tuple #[iv r.1, .bool r.2]) (by simp [results, Tryz.results16, go_sem, z0, z1, z2, z3, z4, z5]) rfl ⟨rfl, ?_⟩
  exact sixth HB2.out (by omega)

set_option maxHeartbeats 4000000 in
theorem Buddy_calls (s : ByteArray) (t : Int) (A : Option Addr) (c : Nat) (xs : List S26) (w : World) (hC : Kd.C k26 w A xs.length xs) (hs : Sm xs) (hS : s.size ≤ 17592186044416) :
    Calls Tryz.prog 13 #[.agg #[.slice A xs.length c, .int .i64 t], .string s] w fun e w' => e = .returned (.tuple #[iv (findB (alike s) xs).1, .bool (findB (alike s) xs).2]) ∧ Below w.heap.size w w' := by
  have HB1 := Lib.hid (up (up (bel1 w (.cells #[.slice A xs.length c, .int .i64 t] 24)) (bel1 _ (.cells #[.string s] 9))) (bel1 _ (.cells #[.string ⟨#[]⟩, .int .i64 0, .int .i64 0, .int .i64 0, .string ⟨#[]⟩, .bool false] 26)))
  have hn : (((w.alloc (.cells #[.slice A xs.length c, .int .i64 t] 24)).alloc (.cells #[.string s] 9)).alloc (.cells #[.string ⟨#[]⟩, .int .i64 0, .int .i64 0, .int .i64 0, .string ⟨#[]⟩, .bool false] 26)).heap[w.heap.size + 1 + 1]? = some (.cells #[.string ⟨#[]⟩, .int .i64 0, .int .i64 0, .int .i64 0, .string ⟨#[]⟩, .bool false] 26 (0, 0)) := by
    have := blk_new ((w.alloc (.cells #[.slice A xs.length c, .int .i64 t] 24)).alloc (.cells #[.string s] 9)) (.cells #[.string ⟨#[]⟩, .int .i64 0, .int .i64 0, .int .i64 0, .string ⟨#[]⟩, .bool false] 26)
    rwa [World.size_alloc, World.size_alloc] at this
  have hs0 : (((w.alloc (.cells #[.slice A xs.length c, .int .i64 t] 24)).alloc (.cells #[.string s] 9)).alloc (.cells #[.string ⟨#[]⟩, .int .i64 0, .int .i64 0, .int .i64 0, .string ⟨#[]⟩, .bool false] 26)).cell? ⟨w.heap.size + 1, 0, none⟩ = some (.string s) := by
    have := blk_cell (blk_alloc (blk_new (w.alloc (.cells #[.slice A xs.length c, .int .i64 t] 24)) (.cells #[.string s] 9)) (.cells #[.string ⟨#[]⟩, .int .i64 0, .int .i64 0, .int .i64 0, .string ⟨#[]⟩, .bool false] 26)) 0
    rwa [World.size_alloc] at this
  have HI := Lib.hid (find_calls 35 _ (alike s) (enters_of Tryz.func35 (by kernel_rfl) rfl) A c xs _ (Kd.C_below hC HB1.out) hs.1 (buddy_pred s hS xs hs _ _ hs0))
  have HN := Lib.hid hn
  generalize findB (alike s) xs = r at *
  clear hC hs hn hs0
  go_enter Tryz.func13, Tryz.ntmps13
  go_wp2_with fail
  refine Calls.mono HI.out ?_
  rintro en w2 ⟨rfl, hb2⟩
  obtain ⟨z0, z1, z2, z3, z4, z5, f0, f1, f2, f3, f4, f5⟩ := cells6 (blk_below HN.out hb2)
  have HB2 := Lib.hid (up HB1.out hb2)
  clear hb2 HI HB1 HN
  go_wp2_with fail
  refine bodyPost_ret (v := .tuple #[iv r.1, .bool r.2]) (by simp [results, Tryz.results13, go_sem, z0, z1, z2, z3, z4, z5]) rfl ⟨rfl, ?_⟩
  exact sixth HB2.out (by omega)

end Go.Proofs.YtdfppdkhiejbdaaGreatDoor.Li
end

section
/- Package list: whether an item may be, asked of any item, has an answer. -/
set_option linter.unusedVariables false
set_option linter.unusedSimpArgs false
namespace Go.Proofs.YtdfppdkhiejbdaaGreatDoor.Li
open Go.RowKit Go.Proofs.YtdfppdkhiejbdaaGreatDoor.Plain Go.Proofs.YtdfppdkhiejbdaaGreatDoor.PList Go.Proofs.YtdfppdkhiejbdaaGreatDoorW.PrintWords Go.Proofs.YtdfppdkhiejbdaaGreatDoor.Utf

theorem lift {α : Type} {f : Nat → Option α} (hm : ∀ k, LeO (f k) (f (k + 1))) {k : Nat} {r : α} (h : f k = some r) : ∀ d, f (k + d) = some r
  | 0 => h
  | d + 1 => hm _ _ (lift hm h d)

theorem same_ {α : Type} {f : Nat → Option α} (hm : ∀ k, LeO (f k) (f (k + 1))) {k j : Nat} {r s : α} (h : f k = some r) (h' : f j = some s) : r = s := by
  have h1 := lift hm h j
  have h2 := lift hm h' k
  rw [Nat.add_comm] at h2
  exact Option.some.inj (h1.symm.trans h2)

theorem wrap_up {i : Int} {n : Nat} (h0 : 0 ≤ i) (h : i < (n : Int)) (hn : n ≤ 17592186044416) : wrap64 (i + 1) = i + 1 := by
  unfold wrap64
  omega

theorem digit_total (c : Int) : ∃ b, handle_isDigit.f c = some b := by
  unfold handle_isDigit.f
  split <;> exact ⟨_, rfl⟩
theorem letter_total (c : Int) : ∃ b, handle_isLetter.f c = some b := by
  unfold handle_isLetter.f
  split <;> exact ⟨_, rfl⟩

theorem number_total (s : ByteArray) (hn : s.size ≤ 17592186044416) (d : Nat) : ∀ (i : Int) (k : Nat), 0 ≤ i → i ≤ s.size → (s.size : Int) - i = d → d < k →
    ∃ b, handle_isNumber.l0 k s s.size i = some b := by
  induction d with
  | zero =>
    intro i k h0 h1 hd hk
    obtain ⟨m, rfl⟩ : ∃ m, k = m + 1 := ⟨k - 1, by omega⟩
    simp only [handle_isNumber.l0]
    rw [if_neg (by omega)]
    split <;> exact ⟨_, rfl⟩
  | succ d ih =>
    intro i k h0 h1 hd hk
    obtain ⟨m, rfl⟩ : ∃ m, k = m + 1 := ⟨k - 1, by omega⟩
    have hlt : i < (s.size : Int) := by omega
    obtain ⟨b, hb⟩ := ih (i + 1) m (by omega) (by omega) (by omega) (by omega)
    obtain ⟨t, ht⟩ := digit_total (bt s i)
    simp only [handle_isNumber.l0]
    rw [if_pos hlt, if_pos h0, if_pos hlt, ht, wrap_up h0 hlt hn]
    simp only [Option.bind_some]
    rw [if_pos (show (0 : Int) < (s.size : Int) by omega), hb]
    repeat' split
    all_goals exact ⟨_, rfl⟩

theorem screen_total (s : ByteArray) (hn : s.size ≤ 17592186044416) (d : Nat) : ∀ (i n : Int) (k : Nat), 0 ≤ i → i ≤ s.size → (s.size : Int) - i = d → d < k →
    ∃ b, handle_isScreenName.l0 k s n s.size i = some b := by
  induction d with
  | zero =>
    intro i n k h0 h1 hd hk
    obtain ⟨m, rfl⟩ : ∃ m, k = m + 1 := ⟨k - 1, by omega⟩
    simp only [handle_isScreenName.l0]
    rw [if_neg (by omega)]
    exact ⟨_, rfl⟩
  | succ d ih =>
    intro i n k h0 h1 hd hk
    obtain ⟨m, rfl⟩ : ∃ m, k = m + 1 := ⟨k - 1, by omega⟩
    have hlt : i < (s.size : Int) := by omega
    obtain ⟨b, hb⟩ := ih (i + 1) n m (by omega) (by omega) (by omega) (by omega)
    obtain ⟨b', hb'⟩ := ih (i + 1) (wrap64 (n + 1)) m (by omega) (by omega) (by omega) (by omega)
    obtain ⟨t, ht⟩ := digit_total (bt s i)
    obtain ⟨u, hu⟩ := letter_total (bt s i)
    simp only [handle_isScreenName.l0]
    rw [if_pos hlt, if_pos h0, if_pos hlt, ht, hu, wrap_up h0 hlt hn, hb, hb']
    simp only [Option.bind_some]
    repeat' split
    all_goals exact ⟨_, rfl⟩

theorem name_total (s : ByteArray) (hn : s.size ≤ 17592186044416) (k : Nat) (hk : s.size + 1 < k) : ∃ b, legacy_isName.f k s = some b := by
  obtain ⟨m, rfl⟩ : ∃ m, k = m + 1 := ⟨k - 1, by omega⟩
  obtain ⟨a, ha⟩ := number_total s hn s.size 0 (m + 1) (by omega) (by omega) (by omega) (by omega)
  obtain ⟨b, hb⟩ := screen_total s hn s.size 0 0 m (by omega) (by omega) (by omega) (by omega)
  have hj : ∀ t, ∃ b, handle_isScreenName.j0 (m + 1) s t = some b := fun t => by
    simp only [handle_isScreenName.j0]
    rw [hb]
    split <;> exact ⟨_, rfl⟩
  have hs : ∃ b, handle_isScreenName.f (m + 1) s = some b := by
    unfold handle_isScreenName.f Ext.handle_Norm.f
    rw [if_pos hn]
    simp only [Option.bind_some]
    by_cases h3 : ((Lg.normB s).size : Int) < 3
    · rw [if_pos h3]; exact hj _
    · rw [if_neg h3]
      by_cases h16 : (s.size : Int) > 16
      · rw [if_pos h16]; exact hj _
      · rw [if_neg h16]
        have h1 : 0 < (s.size : Int) := by
          rcases Nat.eq_zero_or_pos s.size with e | e
          · have hz : (Lg.normB s).size ≤ s.size := by
              have h1 : (Lg.normB s).size = (Lg.noB ((Lg.bl s).map low)).length := by simp [Lg.normB, ByteArray.size]
              have h2 := List.length_filter_le (fun c : UInt8 => c != 32) ((Lg.bl s).map low)
              rw [List.length_map, Lg.bl_size] at h2
              unfold Lg.noB at h1
              omega
            omega
          · omega
        obtain ⟨u, hu⟩ := letter_total (bt s 0)
        rw [if_pos h1, hu]
        exact hj _
  obtain ⟨c, hc⟩ := hs
  unfold legacy_isName.f handle_Check.f handle_isNumber.f
  rw [ha, hc]
  simp only [Option.bind_some]
  cases a <;> cases c <;> exact ⟨_, rfl⟩

theorem gf_fine (s : ByteArray) (h : (gf s).2.2 = 0) : 1 ≤ (gf s).2.1 ∧ (gf s).2.1 ≤ s.size := by
  rw [gf_gfL] at h ⊢
  unfold gfL at h ⊢
  cases hx : dec s.data.toList with
  | none => rw [hx] at h; simp at h
  | some x =>
    obtain ⟨c, n⟩ := x
    obtain ⟨g, hn, hle, ht⟩ := dec_some hx
    have := encW_pos c
    have hsz := size_list s
    simp only
    have := encW_width c
    first | omega | (constructor <;> omega)

theorem plain_total (c : Int) (k : Nat) (hk : 0 < k) : ∃ b, glyph_plain.f k c = some b := by
  obtain ⟨m, rfl⟩ : ∃ m, k = m + 1 := ⟨k - 1, by omega⟩
  unfold glyph_plain.f
  simp only [glyph_plain.j0]
  repeat' split
  all_goals exact ⟨_, rfl⟩

theorem len_total : ∀ (d : Nat) (s : ByteArray) (n : Int), s.size ≤ d → ∀ k, d < k → ∃ r, glyph_Len.l0 (k + 1) s n = some r
  | d, s, n, hd, k, hk => by
    rw [glyph_Len.l0]
    by_cases h0 : s.toList = []
    · exact ⟨(n, 0), by rw [if_pos h0]⟩
    · rw [if_neg h0]
      simp only [Ext.glyph_First.f, Option.bind_some]
      by_cases hg : (gf s).2.2 = 0
      · rw [if_pos hg]
        obtain ⟨b, hb⟩ := plain_total (gf s).1 k (by omega)
        rw [hb]
        cases b with
        | false => exact ⟨(0, 10), by simp⟩
        | true =>
          obtain ⟨h1, h2⟩ := gf_fine s hg
          have hsz : (s.extract ((gf s).2.1).toNat s.size).size = s.size - ((gf s).2.1).toNat := by simp
          match d, hd, hk with
          | 0, hd, hk => omega
          | d + 1, hd, hk =>
            obtain ⟨m, rfl⟩ : ∃ m, k = m + 1 := ⟨k - 1, by omega⟩
            obtain ⟨r, hr⟩ := len_total d (s.extract ((gf s).2.1).toNat s.size) (wrap64 (n + 1)) (by omega) m (by omega)
            refine ⟨r, ?_⟩
            simp only [Option.bind_some, if_true]
            rw [if_pos (by omega), if_pos h2]
            exact hr
      · exact ⟨(0, 10), by rw [if_neg hg]⟩

theorem text_total (s : ByteArray) (n : Int) (k : Nat) (hk : s.size + 1 < k) : ∃ b, legacy_isText.f k s n = some b := by
  obtain ⟨m, rfl⟩ : ∃ m, k = m + 1 := ⟨k - 1, by omega⟩
  obtain ⟨r, hr⟩ := len_total s.size s 0 (Nat.le_refl _) m (by omega)
  unfold legacy_isText.f glyph_Check.f glyph_Len.f
  rw [hr]
  split <;> exact ⟨_, rfl⟩

theorem two_total (n : Int) : ∃ b, legacy_isTwo.f n = some b := by
  unfold legacy_isTwo.f legacy_within.f
  split <;> exact ⟨_, rfl⟩

theorem item_total (x : S26) (h0 : x.f0.size ≤ 17592186044416) : ∃ b, legacy_isItem.f (x.f0.size + x.f4.size + 3) x.f0 x.f1 x.f2 x.f3 x.f4 x.f5 = some b := by
  obtain ⟨a, ha⟩ := name_total x.f0 h0 (x.f0.size + x.f4.size + 2) (by omega)
  obtain ⟨b, hb⟩ := text_total x.f4 64 (x.f0.size + x.f4.size + 2) (by omega)
  obtain ⟨c, hc⟩ := text_total x.f0 64 (x.f0.size + x.f4.size + 2) (by omega)
  have hj : ∀ t, ∃ b, legacy_isItem.j0 (x.f0.size + x.f4.size + 3) t x.f0 x.f1 x.f2 x.f3 x.f4 x.f5 = some b := fun t => by
    simp only [legacy_isItem.j0]
    rw [ha, hb, hc]
    simp only [Option.bind_some]
    repeat' split
    all_goals exact ⟨_, rfl⟩
  obtain ⟨p, hp⟩ := two_total x.f1
  obtain ⟨q, hq⟩ := two_total x.f2
  unfold legacy_isItem.f
  rw [hp, hq]
  simp only [Option.bind_some]
  split <;> exact hj _

/-- Whether an item may be. -/
def itemB (x : S26) : Bool := (legacy_isItem.f (x.f0.size + x.f4.size + 3) x.f0 x.f1 x.f2 x.f3 x.f4 x.f5).getD false

theorem item_calls (x : S26) (w : World) (h0 : x.f0.size ≤ 17592186044416) : Calls Tryz.prog 90 #[iv x] w fun e w' => e = .returned (.bool (itemB x)) ∧ Below w.heap.size w w' := by
  obtain ⟨b, hb⟩ := item_total x h0
  have : itemB x = b := by unfold itemB; rw [hb]; rfl
  rw [this]
  exact legacy_isItem.calls _ _ _ _ _ _ _ b w hb

end Go.Proofs.YtdfppdkhiejbdaaGreatDoor.Li
end

/- Plain laws of UTF-8 on lists of bytes: what a sign at the front is, and that it is written in one way. No program in sight. -/
import Derived.Test.YtaidgkmacpiajaaPlain
import Derived.Laws.Strings
namespace Go.Proofs.Ytaidgkmacpiajaa.Utf
open Go.RowKit Go.Proofs.Ytaidgkmacpiajaa.Plain

/-- A number that is a sign. -/
def good (c : Nat) : Prop := c < 55296 ∨ 57344 ≤ c ∧ c ≤ 1114111
instance (c : Nat) : Decidable (good c) := by unfold good; infer_instance

/-- A byte of a list; 0 behind its end. -/
def at_ (l : List UInt8) (k : Nat) : Nat := (l.getD k 0).toNat
theorem at_lt (l : List UInt8) (k : Nat) : at_ l k < 256 := (l.getD k 0).toNat_lt
def tail (n : Nat) : Prop := 128 ≤ n ∧ n < 192
instance (n : Nat) : Decidable (tail n) := by unfold tail; infer_instance
def v2 (a b : Nat) : Nat := (a - 192) * 64 + (b - 128)
def v3 (a b c : Nat) : Nat := (a - 224) * 4096 + (b - 128) * 64 + (c - 128)
def v4 (a b c d : Nat) : Nat := (a - 240) * 262144 + (b - 128) * 4096 + (c - 128) * 64 + (d - 128)

/-- The sign at the front, and how many bytes it has. -/
def dec (l : List UInt8) : Option (Nat × Nat) :=
  if l.length = 0 then none
  else if at_ l 0 < 128 then some (at_ l 0, 1)
  else if 192 ≤ at_ l 0 ∧ at_ l 0 < 224 ∧ 1 < l.length ∧ tail (at_ l 1) ∧ 128 ≤ v2 (at_ l 0) (at_ l 1) then some (v2 (at_ l 0) (at_ l 1), 2)
  else if 224 ≤ at_ l 0 ∧ at_ l 0 < 240 ∧ 2 < l.length ∧ tail (at_ l 1) ∧ tail (at_ l 2) ∧ 2048 ≤ v3 (at_ l 0) (at_ l 1) (at_ l 2) ∧ good (v3 (at_ l 0) (at_ l 1) (at_ l 2)) then some (v3 (at_ l 0) (at_ l 1) (at_ l 2), 3)
  else if 240 ≤ at_ l 0 ∧ at_ l 0 < 248 ∧ 3 < l.length ∧ tail (at_ l 1) ∧ tail (at_ l 2) ∧ tail (at_ l 3) ∧ 65536 ≤ v4 (at_ l 0) (at_ l 1) (at_ l 2) (at_ l 3) ∧ v4 (at_ l 0) (at_ l 1) (at_ l 2) (at_ l 3) ≤ 1114111 then some (v4 (at_ l 0) (at_ l 1) (at_ l 2) (at_ l 3), 4)
  else none

/-- The model's own decoding, on a list. -/
def decL (l : List UInt8) : Nat × Nat :=
  let at' (k : Nat) : Nat := (l.getD k 0).toNat
  let cont (k : Nat) : Bool := k < l.length && at' k / 64 == 2
  let b0 := at' 0
  if b0 < 0x80 then (b0, 1)
  else if b0 / 32 == 6 && cont 1 then
    let c := (b0 % 32) * 64 + at' 1 % 64
    if c ≥ 0x80 then (c, 2) else (Utf8.runeError, 1)
  else if b0 / 16 == 14 && cont 1 && cont 2 then
    let c := (b0 % 16) * 4096 + (at' 1 % 64) * 64 + at' 2 % 64
    if c ≥ 0x800 && Utf8.valid c then (c, 3) else (Utf8.runeError, 1)
  else if b0 / 8 == 30 && cont 1 && cont 2 && cont 3 then
    let c := (b0 % 8) * 262144 + (at' 1 % 64) * 4096 + (at' 2 % 64) * 64 + at' 3 % 64
    if c ≥ 0x10000 && Utf8.valid c then (c, 4) else (Utf8.runeError, 1)
  else (Utf8.runeError, 1)

theorem get_drop (s : ByteArray) (pos k : Nat) : (s.get! (pos + k)).toNat = ((s.data.toList.drop pos).getD k 0).toNat := by
  congr 1
  show s.data[pos + k]! = _
  by_cases h : pos + k < s.data.size
  · rw [getElem!_pos s.data (pos + k) h]
    simp [List.getD, List.getElem?_drop]
    rw [Array.getElem?_eq_getElem h]; rfl
  · rw [getElem!_neg s.data (pos + k) h]
    have : s.data.toList.length ≤ pos + k := by simpa using h
    simp [List.getD, List.getElem?_drop, List.getElem?_eq_none this]
    rfl

theorem decode_drop (s : ByteArray) (pos : Nat) : Utf8.decode s pos = decL (s.data.toList.drop pos) := by
  unfold Utf8.decode decL
  have e : ∀ k, decide (pos + k < s.size) = decide (k < (s.data.toList.drop pos).length) := by
    intro k
    rw [List.length_drop, show s.data.toList.length = s.size by simp]
    congr 1
    apply propext
    omega
  simp only [get_drop, e]


theorem valid_good (c : Nat) : Utf8.valid (c : Int) = true ↔ good c := by
  unfold Utf8.valid good
  simp only [Bool.or_eq_true, Bool.and_eq_true, decide_eq_true_eq]
  omega

/-- What is read at the front: the sign and its bytes, or one byte that is none. -/
theorem decL_dec (l : List UInt8) (hl : l ≠ []) : decL l = match dec l with | some x => x | none => (65533, 1) := by
  have ha := at_lt l 0
  have hb := at_lt l 1
  have hc := at_lt l 2
  have hd := at_lt l 3
  have hn : l.length ≠ 0 := fun h => hl (List.length_eq_zero_iff.1 h)
  unfold decL dec
  simp only [show ∀ k, (l.getD k 0).toNat = at_ l k from fun _ => rfl, Utf8.runeError]
  generalize at_ l 0 = a at *
  generalize at_ l 1 = b at *
  generalize at_ l 2 = c at *
  generalize at_ l 3 = d at *
  generalize l.length = n at *
  rw [if_neg hn]
  by_cases h1 : a < 128
  · rw [if_pos h1, if_pos h1]
  rw [if_neg h1, if_neg h1]
  by_cases h2 : 192 ≤ a ∧ a < 224 ∧ 1 < n ∧ tail b ∧ 128 ≤ v2 a b
  · rw [if_pos h2, if_pos (by unfold tail at h2; simp; omega), if_pos (by unfold tail v2 at h2; omega)]
    unfold tail at h2; unfold v2; simp; omega
  rw [if_neg h2]
  by_cases g2 : (a / 32 == 6 && (decide (1 < n) && b / 64 == 2)) = true
  · have g2' : a / 32 = 6 ∧ 1 < n ∧ b / 64 = 2 := by simpa using g2
    rw [if_pos g2, if_neg (by unfold tail v2 at h2; omega), if_neg (by omega), if_neg (by omega)]
  rw [if_neg g2]
  by_cases h3 : 224 ≤ a ∧ a < 240 ∧ 2 < n ∧ tail b ∧ tail c ∧ 2048 ≤ v3 a b c ∧ good (v3 a b c)
  · have e : a % 16 * 4096 + b % 64 * 64 + c % 64 = v3 a b c := by unfold tail at h3; unfold v3; omega
    rw [if_pos h3, if_pos (by unfold tail at h3; simp; omega), e, if_pos]
    simp only [Bool.and_eq_true, decide_eq_true_eq, valid_good]
    exact ⟨by omega, h3.2.2.2.2.2.2⟩
  rw [if_neg h3]
  by_cases g3 : (a / 16 == 14 && (decide (1 < n) && b / 64 == 2) && (decide (2 < n) && c / 64 == 2)) = true
  · have g3' : (a / 16 = 14 ∧ 1 < n ∧ b / 64 = 2) ∧ 2 < n ∧ c / 64 = 2 := by simpa using g3
    have e : a % 16 * 4096 + b % 64 * 64 + c % 64 = v3 a b c := by unfold v3; omega
    rw [if_pos g3, e, if_neg, if_neg (by omega)]
    simp only [Bool.and_eq_true, decide_eq_true_eq, valid_good]
    intro hh
    exact h3 ⟨by omega, by omega, by omega, by unfold tail; omega, by unfold tail; omega, hh.1, hh.2⟩
  rw [if_neg g3]
  by_cases h4 : 240 ≤ a ∧ a < 248 ∧ 3 < n ∧ tail b ∧ tail c ∧ tail d ∧ 65536 ≤ v4 a b c d ∧ v4 a b c d ≤ 1114111
  · have e : a % 8 * 262144 + b % 64 * 4096 + c % 64 * 64 + d % 64 = v4 a b c d := by unfold tail at h4; unfold v4; omega
    rw [if_pos h4, if_pos (by unfold tail at h4; simp; omega), e, if_pos]
    simp only [Bool.and_eq_true, decide_eq_true_eq, valid_good]
    exact ⟨by omega, by unfold good; omega⟩
  rw [if_neg h4]
  by_cases g4 : (a / 8 == 30 && (decide (1 < n) && b / 64 == 2) && (decide (2 < n) && c / 64 == 2) && (decide (3 < n) && d / 64 == 2)) = true
  · have g4' : ((a / 8 = 30 ∧ 1 < n ∧ b / 64 = 2) ∧ 2 < n ∧ c / 64 = 2) ∧ 3 < n ∧ d / 64 = 2 := by simpa using g4
    have e : a % 8 * 262144 + b % 64 * 4096 + c % 64 * 64 + d % 64 = v4 a b c d := by unfold v4; omega
    rw [if_pos g4, e, if_neg]
    simp only [Bool.and_eq_true, decide_eq_true_eq, valid_good]
    intro hh
    have := hh.2
    unfold good at this
    exact h4 ⟨by omega, by omega, by omega, by unfold tail; omega, by unfold tail; omega, by unfold tail; omega, hh.1, by omega⟩
  · rw [if_neg g4]


/-- A sign's bytes. -/
def encL (c : Nat) : List UInt8 :=
  if c < 128 then [UInt8.ofNat c] else if c < 2048 then [UInt8.ofNat (192 + c / 64), UInt8.ofNat (128 + c % 64)]
  else if c < 65536 then [UInt8.ofNat (224 + c / 4096), UInt8.ofNat (128 + c / 64 % 64), UInt8.ofNat (128 + c % 64)]
  else [UInt8.ofNat (240 + c / 262144), UInt8.ofNat (128 + c / 4096 % 64), UInt8.ofNat (128 + c / 64 % 64), UInt8.ofNat (128 + c % 64)]
def encW (c : Nat) : Nat := if c < 128 then 1 else if c < 2048 then 2 else if c < 65536 then 3 else 4
theorem encL_length (c : Nat) : (encL c).length = encW c := by
  unfold encL encW; repeat' split
  all_goals rfl
theorem encW_pos (c : Nat) : 1 ≤ encW c ∧ encW c ≤ 4 := by unfold encW; repeat' split
                                                           all_goals omega
theorem encW_width (c : Nat) : (encW c : Int) = width (c : Int) := by
  unfold encW width; repeat' split
  all_goals first | rfl | omega

set_option maxRecDepth 100000 in
theorem encode_encL (c : Nat) (h : good c) : (Utf8.encode (c : Int)).data.toList = encL c := by
  have e : (if Utf8.valid (c : Int) = true then (c : Int).toNat else Utf8.runeError) = c := by rw [if_pos ((valid_good c).2 h), Int.toNat_natCast]
  unfold Utf8.encode encL
  simp only [e]
  by_cases h1 : c < 128
  · rw [if_pos h1, if_pos h1]
  rw [if_neg h1, if_neg h1]
  by_cases h2 : c < 2048
  · rw [if_pos h2, if_pos h2]
  rw [if_neg h2, if_neg h2]
  by_cases h3 : c < 65536
  · rw [if_pos h3, if_pos h3]
  rw [if_neg h3, if_neg h3]

theorem ofNat_at (l : List UInt8) (k : Nat) : UInt8.ofNat (at_ l k) = l.getD k 0 := by unfold at_; simp

theorem take1 (l : List UInt8) (h : 0 < l.length) : l.take 1 = [UInt8.ofNat (at_ l 0)] := by
  match l, h with
  | a :: r, _ => simp [at_]
theorem take2 (l : List UInt8) (h : 1 < l.length) : l.take 2 = [UInt8.ofNat (at_ l 0), UInt8.ofNat (at_ l 1)] := by
  match l, h with
  | a :: b :: r, _ => simp [at_]
theorem take3 (l : List UInt8) (h : 2 < l.length) : l.take 3 = [UInt8.ofNat (at_ l 0), UInt8.ofNat (at_ l 1), UInt8.ofNat (at_ l 2)] := by
  match l, h with
  | a :: b :: c :: r, _ => simp [at_]
theorem take4 (l : List UInt8) (h : 3 < l.length) : l.take 4 = [UInt8.ofNat (at_ l 0), UInt8.ofNat (at_ l 1), UInt8.ofNat (at_ l 2), UInt8.ofNat (at_ l 3)] := by
  match l, h with
  | a :: b :: c :: d :: r, _ => simp [at_]

/-- What was read is a sign, written in its one way. -/
theorem dec_some {l : List UInt8} {c n : Nat} (h : dec l = some (c, n)) : good c ∧ n = encW c ∧ n ≤ l.length ∧ l.take n = encL c := by
  have ha := at_lt l 0
  have t1 := take1 l
  have t2 := take2 l
  have t3 := take3 l
  have t4 := take4 l
  unfold dec at h
  generalize at_ l 0 = a at *
  generalize at_ l 1 = b at *
  generalize at_ l 2 = x at *
  generalize at_ l 3 = d at *
  by_cases h0 : l.length = 0
  · rw [if_pos h0] at h; cases h
  rw [if_neg h0] at h
  by_cases h1 : a < 128
  · rw [if_pos h1] at h
    obtain ⟨rfl, rfl⟩ := Prod.mk.inj (Option.some.inj h)
    refine ⟨by unfold good; omega, by unfold encW; rw [if_pos h1], by omega, ?_⟩
    rw [t1 (by omega)]; unfold encL; rw [if_pos h1]
  rw [if_neg h1] at h
  by_cases h2 : 192 ≤ a ∧ a < 224 ∧ 1 < l.length ∧ tail b ∧ 128 ≤ v2 a b
  · rw [if_pos h2] at h
    obtain ⟨rfl, rfl⟩ := Prod.mk.inj (Option.some.inj h)
    obtain ⟨g1, g2, g3, g4, g5⟩ := h2
    have e1 : 192 + v2 a b / 64 = a := by unfold tail at g4; unfold v2; omega
    have e2 : 128 + v2 a b % 64 = b := by unfold tail at g4; unfold v2; omega
    have hlt : v2 a b < 2048 := by unfold tail at g4; unfold v2; omega
    refine ⟨by unfold good; omega, by unfold encW; rw [if_neg (by omega), if_pos hlt], by omega, ?_⟩
    rw [t2 g3]; unfold encL; rw [if_neg (by omega), if_pos hlt, e1, e2]
  rw [if_neg h2] at h
  by_cases h3 : 224 ≤ a ∧ a < 240 ∧ 2 < l.length ∧ tail b ∧ tail x ∧ 2048 ≤ v3 a b x ∧ good (v3 a b x)
  · rw [if_pos h3] at h
    obtain ⟨rfl, rfl⟩ := Prod.mk.inj (Option.some.inj h)
    obtain ⟨g1, g2, g3, g4, g5, g6, g7⟩ := h3
    have e1 : 224 + v3 a b x / 4096 = a := by unfold tail at g4 g5; unfold v3; omega
    have e2 : 128 + v3 a b x / 64 % 64 = b := by unfold tail at g4 g5; unfold v3; omega
    have e3 : 128 + v3 a b x % 64 = x := by unfold tail at g4 g5; unfold v3; omega
    have hlt : v3 a b x < 65536 := by unfold tail at g4 g5; unfold v3; omega
    refine ⟨g7, by unfold encW; rw [if_neg (by omega), if_neg (by omega), if_pos hlt], by omega, ?_⟩
    rw [t3 g3]; unfold encL; rw [if_neg (by omega), if_neg (by omega), if_pos hlt, e1, e2, e3]
  rw [if_neg h3] at h
  by_cases h4 : 240 ≤ a ∧ a < 248 ∧ 3 < l.length ∧ tail b ∧ tail x ∧ tail d ∧ 65536 ≤ v4 a b x d ∧ v4 a b x d ≤ 1114111
  · rw [if_pos h4] at h
    obtain ⟨rfl, rfl⟩ := Prod.mk.inj (Option.some.inj h)
    obtain ⟨g1, g2, g3, g4, g5, g6, g7, g8⟩ := h4
    have e1 : 240 + v4 a b x d / 262144 = a := by unfold tail at g4 g5 g6; unfold v4; omega
    have e2 : 128 + v4 a b x d / 4096 % 64 = b := by unfold tail at g4 g5 g6; unfold v4; omega
    have e3 : 128 + v4 a b x d / 64 % 64 = x := by unfold tail at g4 g5 g6; unfold v4; omega
    have e4 : 128 + v4 a b x d % 64 = d := by unfold tail at g4 g5 g6; unfold v4; omega
    refine ⟨by unfold good; omega, by unfold encW; rw [if_neg (by omega), if_neg (by omega), if_neg (by omega)], by omega, ?_⟩
    rw [t4 g3]; unfold encL; rw [if_neg (by omega), if_neg (by omega), if_neg (by omega), e1, e2, e3, e4]
  rw [if_neg h4] at h
  cases h

theorem at_zero (n : Nat) (r : List UInt8) (h : n < 256) : at_ (UInt8.ofNat n :: r) 0 = n := by simp [at_]; omega
theorem at_succ (a : UInt8) (r : List UInt8) (k : Nat) : at_ (a :: r) (k + 1) = at_ r k := by simp [at_]

/-- A sign's bytes are read as that sign. -/
theorem dec_encL (c : Nat) (r : List UInt8) (hg : good c) : dec (encL c ++ r) = some (c, encW c) := by
  unfold good at hg
  unfold encL encW
  by_cases h1 : c < 128
  · rw [if_pos h1, if_pos h1]
    unfold dec
    rw [if_neg (by simp), List.cons_append, at_zero c _ (by omega), if_pos h1]
  rw [if_neg h1, if_neg h1]
  by_cases h2 : c < 2048
  · rw [if_pos h2, if_pos h2]
    unfold dec
    rw [if_neg (by simp), List.cons_append, List.cons_append, at_zero _ _ (by omega), at_succ _ _ 0, at_zero _ _ (by omega), if_neg (by omega)]
    have e : v2 (192 + c / 64) (128 + c % 64) = c := by unfold v2; omega
    rw [e, if_pos ⟨by omega, by omega, by simp, by unfold tail; omega, by omega⟩]
  rw [if_neg h2, if_neg h2]
  by_cases h3 : c < 65536
  · rw [if_pos h3, if_pos h3]
    unfold dec
    simp only [List.cons_append]
    rw [if_neg (by simp), at_zero _ _ (by omega), at_succ _ _ 0, at_zero _ _ (by omega), at_succ _ _ 1, at_succ _ _ 0, at_zero _ _ (by omega), if_neg (by omega), if_neg (by omega)]
    have e : v3 (224 + c / 4096) (128 + c / 64 % 64) (128 + c % 64) = c := by unfold v3; omega
    rw [e, if_pos ⟨by omega, by omega, by simp, by unfold tail; omega, by unfold tail; omega, by omega, by unfold good; omega⟩]
  rw [if_neg h3, if_neg h3]
  unfold dec
  simp only [List.cons_append]
  rw [if_neg (by simp), at_zero _ _ (by omega), at_succ _ _ 0, at_zero _ _ (by omega), at_succ _ _ 1, at_succ _ _ 0, at_zero _ _ (by omega), at_succ _ _ 2, at_succ _ _ 1, at_succ _ _ 0, at_zero _ _ (by omega),
    if_neg (by omega), if_neg (by omega), if_neg (by omega)]
  have e : v4 (240 + c / 262144) (128 + c / 4096 % 64) (128 + c / 64 % 64) (128 + c % 64) = c := by unfold v4; omega
  rw [e, if_pos ⟨by omega, by omega, by simp, by unfold tail; omega, by unfold tail; omega, by unfold tail; omega, by omega, by omega⟩]

/-- What the program's First answers, by 'dec'. -/
def gfL (l : List UInt8) : Int × Int × Int := match dec l with | some (c, n) => ((c : Int), (n : Int), 0) | none => (0, 0, 10)

theorem size_list (s : ByteArray) : s.size = s.data.toList.length := by simp

theorem gf_gfL (s : ByteArray) : gf s = gfL s.data.toList := by
  have hd := decode_drop s 0
  rw [List.drop_zero] at hd
  have hsz := size_list s
  have he : (s.extract 0 3).toList = s.data.toList.take 3 := by
    rw [ByteArray.toList_eq]
    obtain ⟨⟨l⟩⟩ := s
    rw [show (ByteArray.mk { toList := l }) = ByteArray.mk l.toArray from rfl, ByteArray.extract_mk]
    simp
  unfold gf gfL
  by_cases h0 : s.size = 0
  · rw [if_pos h0]
    have : s.data.toList = [] := List.length_eq_zero_iff.1 (by omega)
    rw [this]; rfl
  rw [if_neg h0, hd, decL_dec _ (fun h => h0 (by rw [hsz, h]; rfl)), he]
  cases hx : dec s.data.toList with
  | none =>
    simp only
    rw [if_pos]
    refine ⟨trivial, ?_⟩
    rcases Nat.lt_or_ge s.size 3 with h | h
    · exact .inl h
    · right
      intro e
      have : s.data.toList = encL 65533 ++ s.data.toList.drop 3 := by
        conv => lhs; rw [← List.take_append_drop 3 s.data.toList, e]
        rfl
      rw [this, dec_encL _ _ (by decide)] at hx
      cases hx
  | some x =>
    obtain ⟨c, n⟩ := x
    obtain ⟨g, hn, hle, ht⟩ := dec_some hx
    simp only
    rw [if_neg, hn, encW_width]
    rintro ⟨rfl, h⟩
    have hw : n = 3 := by rw [hn]; rfl
    subst hw
    rcases h with h | h
    · omega
    · exact h (by rw [ht]; rfl)

end Go.Proofs.Ytaidgkmacpiajaa.Utf

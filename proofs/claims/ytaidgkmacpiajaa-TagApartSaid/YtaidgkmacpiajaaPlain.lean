/- Plain functions over bytes: what the program's text functions answer. No program in sight. -/
import GoSem.Core.Utf8
import Derived.Lib.Bytealg
import Derived.Lib.IndexLaws
import Derived.Lib.Strings
import Derived.Laws.RangeAny
import Derived.RowKit
namespace Go.Proofs.Ytaidgkmacpiajaa.Plain
open Go.RowKit

/-- How many bytes a sign has. -/
def width (c : Int) : Int := if c < 128 then 1 else if c < 2048 then 2 else if c < 65536 then 3 else 4

/-- The sign at the front, its width, the error's number. -/
def gf (s : ByteArray) : Int × Int × Int :=
  if s.size = 0 then (0, 0, 10)
  else if (Utf8.decode s 0).1 = 65533 ∧ (s.size < 3 ∨ (s.extract 0 3).toList ≠ [239, 191, 189]) then (0, 0, 10)
  else (((Utf8.decode s 0).1 : Int), width (Utf8.decode s 0).1, 0)

theorem gf_nil {s : ByteArray} (h : s.size = 0) : gf s = (0, 0, 10) := by unfold gf; rw [if_pos h]
theorem gf_bad {s : ByteArray} (h : 0 < s.size) (hb : (Utf8.decode s 0).1 = 65533 ∧ (s.size < 3 ∨ (s.extract 0 3).toList ≠ [239, 191, 189])) : gf s = (0, 0, 10) := by
  unfold gf; rw [if_neg (by omega), if_pos hb]
theorem gf_good {s : ByteArray} (h : 0 < s.size) (hb : ¬ ((Utf8.decode s 0).1 = 65533 ∧ (s.size < 3 ∨ (s.extract 0 3).toList ≠ [239, 191, 189]))) : gf s = (((Utf8.decode s 0).1 : Int), width (Utf8.decode s 0).1, 0) := by
  unfold gf; rw [if_neg (by omega), if_neg hb]

/-- A great letter's small one. -/
def low (c : UInt8) : UInt8 := if 65 ≤ c ∧ c ≤ 90 then c + 32 else c
/-- Bytes of which the first k have gone small. -/
def foldTo (l : List UInt8) (k : Nat) : List UInt8 := l.mapIdx fun j c => if j < k then low c else c
def foldB (s : ByteArray) : ByteArray := ⟨(s.data.toList.map low).toArray⟩
theorem foldTo_length (l : List UInt8) (k : Nat) : (foldTo l k).length = l.length := by simp [foldTo]
theorem foldTo_at (l : List UInt8) (k : Nat) (h : k < l.length) : (foldTo l k)[k]'(by rw [foldTo_length]; exact h) = l[k] := by
  simp [foldTo]
theorem foldTo_zero (l : List UInt8) : foldTo l 0 = l := by
  apply List.ext_getElem
  · simp [foldTo_length]
  · intro i h1 h2; simp [foldTo]
theorem foldTo_succ (l : List UInt8) (k : Nat) (h : k < l.length) : foldTo l (k + 1) = (foldTo l k).set k (low l[k]) := by
  apply List.ext_getElem
  · simp [foldTo_length]
  · intro i h1 h2
    simp only [foldTo, List.getElem_mapIdx, List.getElem_set]
    by_cases e : k = i
    · subst e; simp
    · rw [if_neg e]
      by_cases e2 : i < k
      · rw [if_pos (by omega), if_pos e2]
      · rw [if_neg (by omega), if_neg e2]
theorem foldTo_same (l : List UInt8) (k : Nat) (h : k < l.length) (e : low l[k] = l[k]) : foldTo l (k + 1) = foldTo l k := by
  rw [foldTo_succ l k h, e]
  conv => lhs; rw [← foldTo_at l k h]
  simp
theorem foldTo_all (l : List UInt8) : foldTo l l.length = l.map low := by
  apply List.ext_getElem
  · simp [foldTo_length]
  · intro i h1 h2
    have : i < l.length := by simpa [foldTo_length] using h1
    simp [foldTo, this]
theorem byte_all {p : UInt8 → Prop} (h : ∀ n : Fin 256, p (UInt8.ofNat n.val)) (c : UInt8) : p c := by
  have := h ⟨c.toNat, c.toNat_lt⟩
  simpa using this


/-- What stands for a sign in the legacy network's words. -/
def writtenS (c : Nat) : ByteArray :=
  if c = 38 then ⟨#[38, 97, 109, 112, 59]⟩ else if c = 60 then ⟨#[38, 108, 116, 59]⟩ else if c = 62 then ⟨#[38, 103, 116, 59]⟩
  else if c = 34 then ⟨#[38, 113, 117, 111, 116, 59]⟩ else if c = 10 then ⟨#[60, 66, 82, 62]⟩ else Utf8.encode c
theorem encode_size (c : Int) : 1 ≤ (Utf8.encode c).size ∧ (Utf8.encode c).size ≤ 4 := by
  unfold Utf8.encode
  dsimp only
  repeat' split
  all_goals exact ⟨by simp [ByteArray.size], by simp [ByteArray.size]⟩
theorem writtenS_size (c : Nat) : 1 ≤ (writtenS c).size ∧ (writtenS c).size ≤ 6 := by
  unfold writtenS
  repeat' split
  all_goals first | (have := encode_size c; omega) | exact ⟨by simp [ByteArray.size], by simp [ByteArray.size]⟩

theorem width_pos (s : ByteArray) (pos : Nat) (h : pos < s.size) : 1 ≤ (Utf8.decode s pos).2 := by
  by_cases ha : (s[pos]'h).toNat < 128
  · rw [decode_ascii s pos h ha]
    exact Nat.le_refl _
  · exact (decode_high s pos h (by omega)).2

/-- A text's signs, writtenS, while there is room. -/
def toHtmlFrom (s : ByteArray) (most : Int) : Nat → Nat → List UInt8 → List UInt8
  | 0, _, acc => acc
  | f + 1, pos, acc =>
    if pos < s.size then
      (if (gf (s.extract pos s.size)).2.2 = 0 then
        (if wrap64 (most - (acc.length : Int)) < (writtenS (Utf8.decode s pos).1).size then acc else toHtmlFrom s most f (pos + (Utf8.decode s pos).2) (acc ++ (writtenS (Utf8.decode s pos).1).data.toList))
       else toHtmlFrom s most f (pos + (Utf8.decode s pos).2) acc)
    else acc
def toHtml (s : ByteArray) (most : Int) : List UInt8 := toHtmlFrom s most s.size 0 []
theorem toHtmlFrom_end (s : ByteArray) (most : Int) (f pos : Nat) (acc : List UInt8) (h : ¬ pos < s.size) : toHtmlFrom s most f pos acc = acc := by
  cases f with
  | zero => rfl
  | succ f => simp [toHtmlFrom, h]

/-- The sign that stands at the front of a text, writtenS, and how many bytes it has there. -/
def entityOf (l : List UInt8) : Int × Int :=
  if Lib.hasPrefix l [38, 97, 109, 112, 59] = true then (38, 5) else if Lib.hasPrefix l [38, 108, 116, 59] = true then (60, 4) else if Lib.hasPrefix l [38, 103, 116, 59] = true then (62, 4)
  else if Lib.hasPrefix l [38, 113, 117, 111, 116, 59] = true then (34, 6) else if Lib.hasPrefix l [38, 110, 98, 115, 112, 59] = true then (32, 6) else (0, 0)

/-- A text that the legacy network has writtenS. -/
def fromHtmlL : Nat → List UInt8 → List UInt8
  | 0, _ => []
  | _ + 1, [] => []
  | f + 1, c :: r =>
    if c = 60 ∧ 0 ≤ Lib.indexByte r 62 then
      (if (r.take (Lib.indexByte r 62).toNat).map low = [98, 114] ∨ (r.take (Lib.indexByte r 62).toNat).map low = [98, 114, 47] then [10] else []) ++ fromHtmlL f (r.drop ((Lib.indexByte r 62).toNat + 1))
    else if 0 < (entityOf (c :: r)).2 then UInt8.ofNat (entityOf (c :: r)).1.toNat :: fromHtmlL f ((c :: r).drop (entityOf (c :: r)).2.toNat)
    else c :: fromHtmlL f r
def fromHtml (s : ByteArray) : List UInt8 := fromHtmlL s.size s.data.toList

end Go.Proofs.Ytaidgkmacpiajaa.Plain

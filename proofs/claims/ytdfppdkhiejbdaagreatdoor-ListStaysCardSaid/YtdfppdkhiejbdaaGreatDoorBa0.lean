import Derived.Test.YtdfppdkhiejbdaaGreatDoorProg
import Derived.Below
import Derived.Deep.Draws
import Derived.Deep.AppendLies
import Derived.Maps.AppendAt
import Derived.OwnWalk
import Derived.Laws.BytesArg
import Derived.Laws.MakeOwn
import Derived.Laws.OwnMore
import Derived.Deep.OwnRows
import Derived.Tactics
import Derived.Lib.ConvBytes
import Derived.Laws.Slices
import Derived.WalkKit
import Derived.KernelRfl
import Derived.RowKit3
import Derived.Deep.LoopGhost
import Derived.Deep.QuietTactic
import Derived.BigQuiet
import Derived.WideLaws
import Derived.Deep.DeepCutAuto
import Derived.Deep.CutBlock
import Derived.Deep.RegionHeld3
import Derived.Laws.Rows
import Derived.Lib.AppendStr
import Derived.ArgAppend
import Derived.Laws.IdiomCopy
import Derived.OrdersHeld
import Derived.Laws.BitsLemmas
import Derived.RowKit
import Derived.Test.YtdfppdkhiejbdaaGreatDoorWWords
import Derived.Test.YtdfppdkhiejbdaaGreatDoorWLast
import Derived.Test.YtdfppdkhiejbdaaGreatDoorWTab
import Derived.Test.YtdfppdkhiejbdaaGreatDoorWFour
import Derived.Test.YtdfppdkhiejbdaaGreatDoorWQPut
import Derived.Test.YtdfppdkhiejbdaaGreatDoorWApart
import Derived.Test.YtdfppdkhiejbdaaGreatDoorWArr
import Derived.Test.YtdfppdkhiejbdaaGreatDoorWZeros
import Derived.Test.YtdfppdkhiejbdaaGreatDoorWFoot
import Derived.Test.YtdfppdkhiejbdaaGreatDoorWKept
import Derived.Test.YtdfppdkhiejbdaaGreatDoorWShare
import Derived.Test.YtdfppdkhiejbdaaGreatDoorWN
import Derived.Test.YtdfppdkhiejbdaaGreatDoorWFootNe
import Derived.Test.YtdfppdkhiejbdaaGreatDoorWAt
import Derived.Test.YtdfppdkhiejbdaaGreatDoorWEqStruct
import Derived.Test.YtdfppdkhiejbdaaGreatDoorWRepsOne
import Derived.Test.YtdfppdkhiejbdaaGreatDoorWInv
import Derived.Test.YtdfppdkhiejbdaaGreatDoorWInvWords
import Derived.Test.YtdfppdkhiejbdaaGreatDoorWGuard
import Derived.Test.YtdfppdkhiejbdaaGreatDoorWNEv
import Derived.Test.YtdfppdkhiejbdaaGreatDoorWMore
import GoSem.Core.Utf8
import Derived.Lib.Bytealg
import Derived.Lib.IndexLaws
import Derived.Lib.Strings
import Derived.Laws.RangeAny
import Derived.Laws.RangeString
import Derived.Lib.OthersKept
import Derived.Lib.Hide
import Derived.Laws.IdiomStrings
import Derived.Shelf.Strings.BuilderK
section
/- For each Go function named below: a Lean function with the same answers, and the proof that the call gives them. Conditions: those that each theorem states. (Written for this claim by a program of this session, wip/printx.py, over the kit's printer.) -/
namespace Go.Proofs.YtdfppdkhiejbdaaGreatDoor.PList
open Go.RowKit Go.Proofs.YtdfppdkhiejbdaaGreatDoorW.PrintWords Go.Proofs.YtdfppdkhiejbdaaGreatDoorW.PrintLast Go.Proofs.YtdfppdkhiejbdaaGreatDoorW.PrintMore
attribute [local go_sem] max2_int min2_int max_two min_two max_three min_three max_four min_four   -- for this text's walks alone
set_option linter.unusedVariables false
set_option linter.unusedSimpArgs false



def errW : Option Int → Value
  | none => .nilIface
  | some c => .iface 0 (.int .i64 c)
theorem errW_none : errW none = .nilIface := rfl
theorem errW_some (c : Int) : errW (some c) = .iface 0 (.int .i64 c) := rfl

theorem info26 : (Tryz.prog.info? 26).map (fun i => (i.zero, i.size, i.bytes)) = some (some (.agg #[(.string ⟨#[]⟩), (.int .i64 0), (.int .i64 0), (.int .i64 0), (.string ⟨#[]⟩), (.bool false)]), 6, 64) := by kernel_rfl
-- the values' own types
/-! #### struct type 26 -/
structure S26 where
  f0 : ByteArray
  f1 : Int
  f2 : Int
  f3 : Int
  f4 : ByteArray
  f5 : Bool
def z26 : S26 := ⟨(⟨#[]⟩ : ByteArray), (0 : Int), (0 : Int), (0 : Int), (⟨#[]⟩ : ByteArray), false⟩
def k26 : Kd S26 := Kd.iso (Kd.pair Kd.string (Kd.pair (Kd.int .i64) (Kd.pair (Kd.int .i64) (Kd.pair (Kd.int .i64) (Kd.pair Kd.string Kd.bool))))) (fun x : S26 => (x.f0, x.f1, x.f2, x.f3, x.f4, x.f5))
theorem k26_open {w : World} {x : S26} {cs : List Value} (h : k26.K w x cs) : cs = [.string x.f0, .int .i64 x.f1, .int .i64 x.f2, .int .i64 x.f3, .string x.f4, .bool x.f5] := by
  obtain ⟨_, _, rfl, rfl, ⟨_, _, rfl, rfl, ⟨_, _, rfl, rfl, ⟨_, _, rfl, rfl, ⟨_, _, rfl, rfl, rfl⟩⟩⟩⟩⟩ := h
  exact rfl
theorem k26_openM {w : World} {base : Nat} {ok : Nat → Prop} {x : S26} {cs : List Value} (h : k26.M w base ok x cs) : cs = [.string x.f0, .int .i64 x.f1, .int .i64 x.f2, .int .i64 x.f3, .string x.f4, .bool x.f5] := by
  obtain ⟨_, _, rfl, rfl, ⟨_, _, rfl, rfl, ⟨_, _, rfl, rfl, ⟨_, _, rfl, rfl, ⟨_, _, rfl, rfl, rfl⟩⟩⟩⟩⟩ := h
  exact rfl
theorem k26_mk (w : World) (x : S26)  : k26.K w x [.string x.f0, .int .i64 x.f1, .int .i64 x.f2, .int .i64 x.f3, .string x.f4, .bool x.f5] := ⟨[.string x.f0], [.int .i64 x.f1, .int .i64 x.f2, .int .i64 x.f3, .string x.f4, .bool x.f5], rfl, rfl, ⟨[.int .i64 x.f1], [.int .i64 x.f2, .int .i64 x.f3, .string x.f4, .bool x.f5], rfl, rfl, ⟨[.int .i64 x.f2], [.int .i64 x.f3, .string x.f4, .bool x.f5], rfl, rfl, ⟨[.int .i64 x.f3], [.string x.f4, .bool x.f5], rfl, rfl, ⟨[.string x.f4], [.bool x.f5], rfl, rfl, rfl⟩⟩⟩⟩⟩
theorem k26_mkM (w : World) (base : Nat) (ok : Nat → Prop) (x : S26)  : k26.M w base ok x [.string x.f0, .int .i64 x.f1, .int .i64 x.f2, .int .i64 x.f3, .string x.f4, .bool x.f5] := ⟨[.string x.f0], [.int .i64 x.f1, .int .i64 x.f2, .int .i64 x.f3, .string x.f4, .bool x.f5], rfl, rfl, ⟨[.int .i64 x.f1], [.int .i64 x.f2, .int .i64 x.f3, .string x.f4, .bool x.f5], rfl, rfl, ⟨[.int .i64 x.f2], [.int .i64 x.f3, .string x.f4, .bool x.f5], rfl, rfl, ⟨[.int .i64 x.f3], [.string x.f4, .bool x.f5], rfl, rfl, ⟨[.string x.f4], [.bool x.f5], rfl, rfl, rfl⟩⟩⟩⟩⟩
def rd_T26 (xs : List S26) (i : Int) : S26 := xs.getD i.toNat z26
theorem at_T26 {w : World} {A : Option Addr} {n : Nat} {xs : List S26} (h : Kd.C k26 w A n xs) (i : Int) (h0 : 0 ≤ i) (h1 : i < n) : ∃ ad , A = some ad ∧ w.cell? (ad.add (i.toNat * 6)) = some (.string (rd_T26 xs i).f0) ∧ w.cell? ⟨(ad.add (i.toNat * 6)).block, (ad.add (i.toNat * 6)).off + 1, none⟩ = some (.int .i64 (rd_T26 xs i).f1) ∧ w.cell? ⟨(ad.add (i.toNat * 6)).block, (ad.add (i.toNat * 6)).off + 2, none⟩ = some (.int .i64 (rd_T26 xs i).f2) ∧ w.cell? ⟨(ad.add (i.toNat * 6)).block, (ad.add (i.toNat * 6)).off + 3, none⟩ = some (.int .i64 (rd_T26 xs i).f3) ∧ w.cell? ⟨(ad.add (i.toNat * 6)).block, (ad.add (i.toNat * 6)).off + 4, none⟩ = some (.string (rd_T26 xs i).f4) ∧ w.cell? ⟨(ad.add (i.toNat * 6)).block, (ad.add (i.toNat * 6)).off + 5, none⟩ = some (.bool (rd_T26 xs i).f5) := by
  obtain ⟨ad, c, e, _, hK, hc0⟩ := Kd.C_get h z26 i h0 h1
  have hc : ∀ j u, c[j]? = some u → w.cell? (ad.add (i.toNat * 6 + j)) = some u := hc0
  obtain rfl := k26_open hK
  exact ⟨ad, e, hc 0 _ rfl, by rw [← add_field _ _ 1 (by omega)]; exact hc 1 _ rfl, by rw [← add_field _ _ 2 (by omega)]; exact hc 2 _ rfl, by rw [← add_field _ _ 3 (by omega)]; exact hc 3 _ rfl, by rw [← add_field _ _ 4 (by omega)]; exact hc 4 _ rfl, by rw [← add_field _ _ 5 (by omega)]; exact hc 5 _ rfl⟩

def rd_L4 (xs : List (List S26)) (i : Int) : (List S26) := xs.getD i.toNat ([] : List S26)
theorem at_L4 {w : World} {A : Option Addr} {n : Nat} {xs : List (List S26)} (h : Kd.C (Kd.slice 26 k26) w A n xs) (i : Int) (h0 : 0 ≤ i) (h1 : i < n) : ∃ ad A0 c0, A = some ad ∧ w.cell? (ad.add i.toNat) = some (.slice A0 (rd_L4 xs i).length c0) ∧ (rd_L4 xs i).length ≤ c0 ∧ k26.C w A0 (rd_L4 xs i).length (rd_L4 xs i) := by
  obtain ⟨ad, c, e, _, hK, hc0⟩ := Kd.C_get h ([] : List S26) i h0 h1
  have hc : ∀ j u, c[j]? = some u → w.cell? (ad.add (i.toNat * 1 + j)) = some u := hc0
  obtain ⟨A0, c0, rfl, l0, g0⟩ := hK
  exact ⟨ad, A0, c0, e, by have hq := hc 0 _ rfl; rwa [Nat.mul_one, Nat.add_zero] at hq, l0, g0⟩

/-! #### struct type 24 -/
structure S24 where
  f0 : (List S26)
  f1 : Int
def z24 : S24 := ⟨([] : List S26), (0 : Int)⟩
def k24 : Kd S24 := Kd.iso (Kd.pair (Kd.slice 26 k26) (Kd.int .i64)) (fun x : S24 => (x.f0, x.f1))
theorem k24_open {w : World} {x : S24} {cs : List Value} (h : k24.K w x cs) : ∃ A0 c0, cs = [.slice A0 x.f0.length c0, .int .i64 x.f1] ∧ x.f0.length ≤ c0 ∧ k26.C w A0 x.f0.length x.f0 := by
  obtain ⟨_, _, rfl, ⟨A0, c0, rfl, l0, g0⟩, rfl⟩ := h
  exact ⟨A0, c0, rfl, l0, g0⟩
theorem k24_openM {w : World} {base : Nat} {ok : Nat → Prop} {x : S24} {cs : List Value} (h : k24.M w base ok x cs) : ∃ v0, cs = [v0, .int .i64 x.f1] ∧ k26.R 26 w base ok v0 x.f0 := by
  obtain ⟨_, _, rfl, ⟨v0, rfl, g0⟩, rfl⟩ := h
  exact ⟨v0, rfl, g0⟩
theorem k24_mk (w : World) (x : S24) {A0 : Option Addr} {c0 : Nat} (l0 : x.f0.length ≤ c0) (g0 : k26.C w A0 x.f0.length x.f0) : k24.K w x [.slice A0 x.f0.length c0, .int .i64 x.f1] := ⟨[.slice A0 x.f0.length c0], [.int .i64 x.f1], rfl, ⟨A0, c0, rfl, l0, g0⟩, rfl⟩
theorem k24_mkM (w : World) (base : Nat) (ok : Nat → Prop) (x : S24) {v0 : Value} (g0 : k26.R 26 w base ok v0 x.f0) : k24.M w base ok x [v0, .int .i64 x.f1] := ⟨[v0], [.int .i64 x.f1], rfl, ⟨v0, rfl, g0⟩, rfl⟩
def rd_T24 (xs : List S24) (i : Int) : S24 := xs.getD i.toNat z24
theorem at_T24 {w : World} {A : Option Addr} {n : Nat} {xs : List S24} (h : Kd.C k24 w A n xs) (i : Int) (h0 : 0 ≤ i) (h1 : i < n) : ∃ ad A0 c0, A = some ad ∧ w.cell? (ad.add (i.toNat * 2)) = some (.slice A0 (rd_T24 xs i).f0.length c0) ∧ w.cell? ⟨(ad.add (i.toNat * 2)).block, (ad.add (i.toNat * 2)).off + 1, none⟩ = some (.int .i64 (rd_T24 xs i).f1) ∧ (rd_T24 xs i).f0.length ≤ c0 ∧ k26.C w A0 (rd_T24 xs i).f0.length (rd_T24 xs i).f0 := by
  obtain ⟨ad, c, e, _, hK, hc0⟩ := Kd.C_get h z24 i h0 h1
  have hc : ∀ j u, c[j]? = some u → w.cell? (ad.add (i.toNat * 2 + j)) = some u := hc0
  obtain ⟨A0, c0, rfl, l0, g0⟩ := k24_open hK
  exact ⟨ad, A0, c0, e, hc 0 _ rfl, by rw [← add_field _ _ 1 (by omega)]; exact hc 1 _ rfl, l0, g0⟩

end Go.Proofs.YtdfppdkhiejbdaaGreatDoor.PList
end

section
/- Plain functions over bytes: what the program's text functions answer. No program in sight. -/
namespace Go.Proofs.YtdfppdkhiejbdaaGreatDoor.Plain
open Go.RowKit

/-- How many bytes a sign has. -/
def width (c : Int) : Int := if c < 128 then 1 else if c < 2048 then 2 else if c < 65536 then 3 else 4

/-- The sign at the front, its width, the error's number. -/
def gf (s : ByteArray) : Int × Int × Int :=
  if s.size = 0 then (0, 0, 10)
  else if (Utf8.decode s 0).1 = 65533 ∧ (s.size < 3 ∨ (s.extract 0 3).toList ≠ [239, 191, 189]) then (0, 0, 10)
  else (((Utf8.decode s 0).1 : Int), width (Utf8.decode s 0).1, 0)

theorem gf_nil {s : ByteArray} (h : s.size = 0) : gf s = (0, 0, 10) := by unfold gf; rw [if_pos h]
theorem gf_bad {s : ByteArray} (h : 0 < s.size) (hb : (Utf8.decode s 0).1 = 65533 ∧ (s.size < 3 ∨ (s.extract 0 3).toList ≠ [239, 191, 189])) : gf s = (0, 0, 10) := by
  unfold gf; rw [if_neg (by omega), if_pos hb]
theorem gf_good {s : ByteArray} (h : 0 < s.size) (hb : ¬ ((Utf8.decode s 0).1 = 65533 ∧ (s.size < 3 ∨ (s.extract 0 3).toList ≠ [239, 191, 189]))) : gf s = (((Utf8.decode s 0).1 : Int), width (Utf8.decode s 0).1, 0) := by
  unfold gf; rw [if_neg (by omega), if_neg hb]

/-- A great letter's small one. -/
def low (c : UInt8) : UInt8 := if 65 ≤ c ∧ c ≤ 90 then c + 32 else c
/-- Bytes of which the first k have gone small. -/
def foldTo (l : List UInt8) (k : Nat) : List UInt8 := l.mapIdx fun j c => if j < k then low c else c
def foldB (s : ByteArray) : ByteArray := ⟨(s.data.toList.map low).toArray⟩
theorem foldTo_length (l : List UInt8) (k : Nat) : (foldTo l k).length = l.length := by simp [foldTo]
theorem foldTo_at (l : List UInt8) (k : Nat) (h : k < l.length) : (foldTo l k)[k]'(by rw [foldTo_length]; exact h) = l[k] := by
  simp [foldTo]
theorem foldTo_zero (l : List UInt8) : foldTo l 0 = l := by
  apply List.ext_getElem
  · simp [foldTo_length]
  · intro i h1 h2; simp [foldTo]
theorem foldTo_succ (l : List UInt8) (k : Nat) (h : k < l.length) : foldTo l (k + 1) = (foldTo l k).set k (low l[k]) := by
  apply List.ext_getElem
  · simp [foldTo_length]
  · intro i h1 h2
    simp only [foldTo, List.getElem_mapIdx, List.getElem_set]
    by_cases e : k = i
    · subst e; simp
    · rw [if_neg e]
      by_cases e2 : i < k
      · rw [if_pos (by omega), if_pos e2]
      · rw [if_neg (by omega), if_neg e2]
theorem foldTo_same (l : List UInt8) (k : Nat) (h : k < l.length) (e : low l[k] = l[k]) : foldTo l (k + 1) = foldTo l k := by
  rw [foldTo_succ l k h, e]
  conv => lhs; rw [← foldTo_at l k h]
  simp
theorem foldTo_all (l : List UInt8) : foldTo l l.length = l.map low := by
  apply List.ext_getElem
  · simp [foldTo_length]
  · intro i h1 h2
    have : i < l.length := by simpa [foldTo_length] using h1
    simp [foldTo, this]
theorem byte_all {p : UInt8 → Prop} (h : ∀ n : Fin 256, p (UInt8.ofNat n.val)) (c : UInt8) : p c := by
  have := h ⟨c.toNat, c.toNat_lt⟩
  simpa using this


/-- What stands for a sign in the legacy network's words. -/
def writtenS (c : Nat) : ByteArray :=
  if c = 38 then ⟨#[38, 97, 109, 112, 59]⟩ else if c = 60 then ⟨#[38, 108, 116, 59]⟩ else if c = 62 then ⟨#[38, 103, 116, 59]⟩
  else if c = 34 then ⟨#[38, 113, 117, 111, 116, 59]⟩ else if c = 10 then ⟨#[60, 66, 82, 62]⟩ else Utf8.encode c
theorem encode_size (c : Int) : 1 ≤ (Utf8.encode c).size ∧ (Utf8.encode c).size ≤ 4 := by
  unfold Utf8.encode
  dsimp only
  repeat' split
  all_goals exact ⟨by simp [ByteArray.size], by simp [ByteArray.size]⟩
theorem writtenS_size (c : Nat) : 1 ≤ (writtenS c).size ∧ (writtenS c).size ≤ 6 := by
  unfold writtenS
  repeat' split
  all_goals first | (have := encode_size c; omega) | exact ⟨by simp [ByteArray.size], by simp [ByteArray.size]⟩

theorem width_pos (s : ByteArray) (pos : Nat) (h : pos < s.size) : 1 ≤ (Utf8.decode s pos).2 := by
  by_cases ha : (s[pos]'h).toNat < 128
  · rw [decode_ascii s pos h ha]
    exact Nat.le_refl _
  · exact (decode_high s pos h (by omega)).2

/-- A text's signs, writtenS, while there is room. -/
def toHtmlFrom (s : ByteArray) (most : Int) : Nat → Nat → List UInt8 → List UInt8
  | 0, _, acc => acc
  | f + 1, pos, acc =>
    if pos < s.size then
      (if (gf (s.extract pos s.size)).2.2 = 0 then
        (if wrap64 (most - (acc.length : Int)) < (writtenS (Utf8.decode s pos).1).size then acc else toHtmlFrom s most f (pos + (Utf8.decode s pos).2) (acc ++ (writtenS (Utf8.decode s pos).1).data.toList))
       else toHtmlFrom s most f (pos + (Utf8.decode s pos).2) acc)
    else acc
def toHtml (s : ByteArray) (most : Int) : List UInt8 := toHtmlFrom s most s.size 0 []
theorem toHtmlFrom_end (s : ByteArray) (most : Int) (f pos : Nat) (acc : List UInt8) (h : ¬ pos < s.size) : toHtmlFrom s most f pos acc = acc := by
  cases f with
  | zero => rfl
  | succ f => simp [toHtmlFrom, h]

/-- The sign that stands at the front of a text, writtenS, and how many bytes it has there. -/
def entityOf (l : List UInt8) : Int × Int :=
  if Lib.hasPrefix l [38, 97, 109, 112, 59] = true then (38, 5) else if Lib.hasPrefix l [38, 108, 116, 59] = true then (60, 4) else if Lib.hasPrefix l [38, 103, 116, 59] = true then (62, 4)
  else if Lib.hasPrefix l [38, 113, 117, 111, 116, 59] = true then (34, 6) else if Lib.hasPrefix l [38, 110, 98, 115, 112, 59] = true then (32, 6) else (0, 0)

/-- A text that the legacy network has writtenS. -/
def fromHtmlL : Nat → List UInt8 → List UInt8
  | 0, _ => []
  | _ + 1, [] => []
  | f + 1, c :: r =>
    if c = 60 ∧ 0 ≤ Lib.indexByte r 62 then
      (if (r.take (Lib.indexByte r 62).toNat).map low = [98, 114] ∨ (r.take (Lib.indexByte r 62).toNat).map low = [98, 114, 47] then [10] else []) ++ fromHtmlL f (r.drop ((Lib.indexByte r 62).toNat + 1))
    else if 0 < (entityOf (c :: r)).2 then UInt8.ofNat (entityOf (c :: r)).1.toNat :: fromHtmlL f ((c :: r).drop (entityOf (c :: r)).2.toNat)
    else c :: fromHtmlL f r
def fromHtml (s : ByteArray) : List UInt8 := fromHtmlL s.size s.data.toList

end Go.Proofs.YtdfppdkhiejbdaaGreatDoor.Plain
end

section
/- What glyph.First, glyph.width and glyph.Fold answer, for every input that they are called with. Conditions: none but that a text's size is one that Go has. -/
set_option linter.unusedVariables false
namespace Go.Proofs.YtdfppdkhiejbdaaGreatDoor.Glyph
open Go.RowKit Go.Proofs.YtdfppdkhiejbdaaGreatDoor.Plain

set_option maxHeartbeats 400000 in
theorem width_any (c : Int) (w : World) : Calls Tryz.prog 108 #[.int .i64 c] w fun e w' => e = .returned (.int .i64 (width c)) ∧ w = w' := by
  go_enter Tryz.func108, Tryz.ntmps108
  go_wp2
  all_goals (go_ret; refine ⟨?_, rfl⟩; unfold width; repeat (first | rfl | rw [if_pos (by omega)] | rw [if_neg (by omega)]))

theorem below_iter (s : ByteArray) (p : Nat) (w : World) : Below w.heap.size w (w.iter s p) := (Below.refl _ w).alloc (Nat.le_refl _) _

theorem ret3 {a b c a' b' c' : Int} (h : (a', b', c') = (a, b, c)) : Ending.returned (.tuple #[.int .i64 a, .int .i64 b, .int .i64 c]) = Ending.returned (.tuple #[.int .i64 a', .int .i64 b', .int .i64 c']) := by
  simp only [Prod.mk.injEq] at h
  obtain ⟨rfl, rfl, rfl⟩ := h
  rfl

set_option maxHeartbeats 400000 in
theorem First_any (s : ByteArray) (w : World) : Calls Tryz.prog 106 #[.string s] w fun e w' => e = .returned (.tuple #[.int .i64 (gf s).1, .int .i64 (gf s).2.1, .int .i64 (gf s).2.2]) ∧ Below w.heap.size w w' := by
  go_enter Tryz.func106, Tryz.ntmps106
  go_wp2
  go_loopw [] (fun w' => w' = w.iter s 0) (fun _ => 0)
  case atStart => rfl
  case round =>
    subst hrel
    by_cases hp : 0 < s.size
    · have hnx : ∀ ty, (Instr.next (.pointer (some ⟨w.heap.size, 0, none⟩)) true ty).run Tryz.prog (w.iter s 0) = _ := fun ty => run_next_any w s 0 ty hp
      have hd1 := decode_le s 0
      go_wp2_with (go_at_call 108; refine (width_any _ _).mono ?_; rintro e w' ⟨rfl, rfl⟩)
      · have h1 : ((Utf8.decode s 0).1 : Int) = 65533 := by assumption
        have h2 : ((s.size : Int) < 3 ∨ (!(s.extract 0 3).toList == [239, 191, 189]) = true) := by assumption
        go_ret3
        refine ⟨ret3 (gf_bad hp ⟨by omega, ?_⟩), below_iter _ _ _⟩
        rcases h2 with h2 | h2
        · exact .inl (by omega)
        · exact .inr (by simpa using h2)
      · have h1 : ((Utf8.decode s 0).1 : Int) = 65533 := by assumption
        have h2 : (3 ≤ (s.size : Int) ∧ (!(s.extract 0 3).toList == [239, 191, 189]) = false) := by assumption
        go_ret3
        refine ⟨ret3 ?_, below_iter _ _ _⟩
        rw [gf_good hp ?_, h1]
        rintro ⟨_, h3 | h3⟩
        · omega
        · exact h3 (by simpa using h2.2)
      · have h1 : ((Utf8.decode s 0).1 : Int) = 65533 := by assumption
        have h2 : (s.size : Int) < 3 := by assumption
        go_ret3
        exact ⟨ret3 (gf_bad hp ⟨by omega, .inl (by omega)⟩), below_iter _ _ _⟩
      · have h1 : ¬ ((Utf8.decode s 0).1 : Int) = 65533 := by assumption
        go_ret3
        exact ⟨ret3 (gf_good hp (fun h => h1 (by omega))), below_iter _ _ _⟩
    · have hnx : ∀ ty, (Instr.next (.pointer (some ⟨w.heap.size, 0, none⟩)) true ty).run Tryz.prog (w.iter s 0) = _ := fun ty => run_next_end w s 0 ty hp
      go_wp2
      go_ret3
      exact ⟨ret3 (gf_nil (by omega)), below_iter _ _ _⟩

end Go.Proofs.YtdfppdkhiejbdaaGreatDoor.Glyph
end

section
/- What glyph.Fold and the reference's Fold answer. Conditions: the text's size is one that Go has. -/
set_option linter.unusedVariables false
set_option linter.unusedSimpArgs false
namespace Go.Proofs.YtdfppdkhiejbdaaGreatDoor.Fold
open Go.RowKit Go.Proofs.YtdfppdkhiejbdaaGreatDoor.Plain

/-- Block B is a row of bytes whose first n cells are l. -/
def Row (w : World) (B : Nat) (e : TypeId) (l : List UInt8) : Prop := ∃ cur M, w.heap[B]? = some (.cells cur e (M, M + 1)) ∧ l.length ≤ M ∧ cur.size = M ∧ ∀ j (h : j < l.length), cur[j]? = some (.int .u8 (l[j].toNat : Int))

theorem Row.cell {w : World} {B : Nat} {e : TypeId} {l : List UInt8} (h : Row w B e l) (j : Nat) (hj : j < l.length) : w.cell? ⟨B, j, none⟩ = some (.int .u8 (l[j].toNat : Int)) := by
  obtain ⟨cur, M, hb, hl, hs, hc⟩ := h
  simp [World.cell?, hb, hc j hj]

theorem Row.frozen {w : World} {B : Nat} {e : TypeId} {l : List UInt8} (h : Row w B e l) (j : Nat) (hj : j < l.length) : w.frozen? ⟨B, j, none⟩ = false := by
  obtain ⟨cur, M, hb, hl, hs, hc⟩ := h
  simp [World.frozen?, hb]
  omega

theorem Row.set {w : World} {B : Nat} {e : TypeId} {l : List UInt8} (h : Row w B e l) (j : Nat) (c : UInt8) (v : Value) (hv : v = .int .u8 (c.toNat : Int)) : Row (w.setCell ⟨B, j, none⟩ v) B e (l.set j c) := by
  obtain ⟨cur, M, hb, hl, hs, hc⟩ := h
  subst hv
  refine ⟨cur.setIfInBounds j (.int .u8 (c.toNat : Int)), M, by simp [World.setCell, Array.getElem?_modify, hb], by simpa using hl, by simpa using hs, fun i hi => ?_⟩
  have hi' : i < l.length := by simpa using hi
  have hM : i < cur.size := by omega
  rw [Array.getElem?_setIfInBounds]
  by_cases hji : j = i
  · subst hji; simp [hM]
  · rw [if_neg hji, hc i hi']; simp [List.getElem_set, hji]

theorem Row.new (w : World) (e : TypeId) (s : ByteArray) : Row (Lib.bytesWorld w e s) w.heap.size e s.data.toList := by
  refine ⟨_, _, Lib.bytesWorld_at_new w e s, ?_, rfl, fun j hj => ?_⟩
  · simp [Lib.bytesCells]
  · have hj' : j < s.size := by simpa using hj
    have := Lib.bytesWorld_cell w e s j hj'
    simp [World.cell?, Lib.bytesWorld_at_new] at this
    rw [this]
    simp [List.getD, hj']

theorem Row.below {w : World} (e : TypeId) (s : ByteArray) : Below w.heap.size w (Lib.bytesWorld w e s) := by
  refine ⟨?_, ?_, ?_, by rw [Lib.bytesWorld_size]; omega, fun i hi => Lib.bytesWorld_at_old w e s i hi⟩
  all_goals (unfold Lib.bytesWorld World.freeze; rfl)

theorem low_yes (c : UInt8) : ((c.toNat : Int) - 65) % 256 < 26 → (bits BinOp.or IntKind.u8 (c.toNat : Int) 32) = ((low c).toNat : Int) := by
  refine byte_all (p := fun c => ((c.toNat : Int) - 65) % 256 < 26 → (bits BinOp.or IntKind.u8 (c.toNat : Int) 32) = ((low c).toNat : Int)) ?_ c
  decide +kernel
theorem low_no (c : UInt8) : 26 ≤ ((c.toNat : Int) - 65) % 256 → low c = c := by
  refine byte_all (p := fun c => 26 ≤ ((c.toNat : Int) - 65) % 256 → low c = c) ?_ c
  decide +kernel
theorem low_add (c : UInt8) : 65 ≤ (c.toNat : Int) → (c.toNat : Int) ≤ 90 → ((c.toNat : Int) + 32) = ((low c).toNat : Int) := by
  refine byte_all (p := fun c => 65 ≤ (c.toNat : Int) → (c.toNat : Int) ≤ 90 → ((c.toNat : Int) + 32) = ((low c).toNat : Int)) ?_ c
  decide +kernel
theorem low_not (c : UInt8) : ¬ (65 ≤ (c.toNat : Int) ∧ (c.toNat : Int) ≤ 90) → low c = c := by
  refine byte_all (p := fun c => ¬ (65 ≤ (c.toNat : Int) ∧ (c.toNat : Int) ≤ 90) → low c = c) ?_ c
  decide +kernel

theorem Row.string {P : Program} {w : World} {B cap : Nat} {e src dst : TypeId} {l : List UInt8} {n : Nat} (h : Row w B e l) (hn : l.length = n) (hs : P.underlying src = some (.slice e)) (he : P.underlying e = some (.int .u8)) (hd : P.underlying dst = some .string) :
    (convert src dst (.slice (some ⟨B, 0, none⟩) n cap)).run P w = .ok (.string ⟨l.toArray⟩) w := by
  subst hn
  refine run_convert_bytes_back w src dst e ⟨B, 0, none⟩ cap l hs he hd (fun j hj => ?_)
  have := h.cell j hj
  have e : (⟨B, 0, none⟩ : Addr).add j = ⟨B, j, none⟩ := by unfold Addr.add; split <;> simp_all
  rw [e]; exact this

set_option maxHeartbeats 400000 in
set_option maxRecDepth 100000 in
theorem Fold_any (s : ByteArray) (w : World) (hs : s.size ≤ 9223372036854775807) : Calls Tryz.prog 51 #[.string s] w fun e w' => e = .returned (.string (foldB s)) ∧ Below w.heap.size w w' := by
  have hconv := Lib.run_convert_string_bytes (P := Tryz.prog) w 9 87 5 s Tryz.underlying9 Tryz.underlying87 Tryz.underlying5
  have hR0 := Row.new w 5 s
  have hB0 := Row.below (w := w) 5 s
  generalize Lib.bytesWorld w 5 s = W0 at hconv hR0 hB0
  generalize grownCap w s.size 0 5 = cap at hconv
  go_enter Tryz.func51, Tryz.ntmps51
  go_wp2
  go_loopw [10] (fun i wr => ∃ k : Nat, k ≤ s.size ∧ i = .int .i64 k ∧ Row wr w.heap.size 5 (foldTo s.data.toList k) ∧ Below w.heap.size w wr) (fun i _ => s.size - (intOf i).toNat)
  case atStart => exact ⟨0, Nat.zero_le _, rfl, by rw [foldTo_zero]; exact hR0, hB0⟩
  case round =>
    obtain ⟨k, hk, rfl, hR, hB⟩ := hrel
    by_cases hlt : k < s.size
    · have hkl : k < s.data.toList.length := by simpa using hlt
      have hcell := hR.cell k (by rw [foldTo_length]; exact hkl)
      rw [foldTo_at _ _ hkl] at hcell
      have hfz := hR.frozen k (by rw [foldTo_length]; exact hkl)
      have HS := Lib.hid (foldTo_succ s.data.toList k hkl)
      have HM := Lib.hid (foldTo_same s.data.toList k hkl)
      have HR := Lib.hid hR
      clear hR
      generalize s.data.toList[k] = c at *
      have hc256 := c.toNat_lt
      go_wp2
      · have hc : ((c.toNat : Int) - 65) % 256 < 26 := by assumption
        refine ⟨⟨k + 1, by omega, by go_num, ?_, hB.setCell (p := ⟨w.heap.size, k, none⟩) (Nat.le_refl _) _⟩, by simp [intOf]; omega⟩
        rw [HS.out, low_yes c hc]
        exact HR.out.set k _ _ rfl
      · have hc : 26 ≤ ((c.toNat : Int) - 65) % 256 := by assumption
        refine ⟨⟨k + 1, by omega, by go_num, ?_, hB⟩, by simp [intOf]; omega⟩
        rw [HM.out (low_no c hc)]
        exact HR.out
    · obtain rfl : k = s.size := by omega
      have hall := hR
      rw [show s.size = s.data.toList.length by simp, foldTo_all] at hall
      have hback := hall.string (P := Tryz.prog) (cap := cap) (src := 87) (dst := 9) (n := s.size) (by simp) Tryz.underlying87 Tryz.underlying5 Tryz.underlying9
      clear hall hR
      go_wp2
      go_ret
      exact ⟨rfl, hB⟩


end Go.Proofs.YtdfppdkhiejbdaaGreatDoor.Fold
end

section
/- What strings.Builder's copyCheck, WriteByte and WriteString do to a builder that the call has made. Conditions: what is held and what is written together take at most 2^47 bytes. (Turned from the shelf's Builder1, BuilderK to this translation, in which copyCheck's panic is refused by the loader.) -/
set_option linter.unusedVariables false
namespace Go.Proofs.YtdfppdkhiejbdaaGreatDoor.Bldr
open Go.RowKit

theorem infoBuilder : (Tryz.prog.info? 98).map (·.size) = some 2 := by kernel_rfl
theorem liesBuilder : liesAt Tryz.prog Tryz.prog.depth 98 (2 / Tryz.prog.cellsOf 98) 0 98 1 = true := by kernel_rfl
theorem infoByte : (Tryz.prog.info? 5).map (fun i => (i.zero, i.size, i.bytes)) = some (some (.int .u8 0), 1, 1) := by kernel_rfl

set_option maxHeartbeats 1000000 in
set_option maxRecDepth 100000 in
theorem copyCheck_used (b : Nat) (w : World) (h0 : w.cell? ⟨b, 0, none⟩ = some (.pointer (some ⟨b, 0, none⟩))) :
    Calls Tryz.prog 82 #[.pointer (some ⟨b, 0, none⟩)] w fun e w' => e = .returned (.tuple #[]) ∧ w' = w := by
  obtain ⟨j, hj, _⟩ := Option.map_eq_some_iff.1 infoBuilder
  go_enter Tryz.func82, Tryz.ntmps82
  go_wp2
  rw [Lib.run_neq_ptr_same w _ Tryz.underlying96 hj]
  go_wp2
  go_end0
  exact ⟨rfl, rfl⟩

set_option maxHeartbeats 1000000 in
set_option maxRecDepth 100000 in
theorem copyCheck_fresh (b : Nat) (w : World) (h0 : w.cell? ⟨b, 0, none⟩ = some (.pointer none)) (hsh : w.shape? b = some (98, 2)) (hfz : w.frozen? ⟨b, 0, none⟩ = false) :
    Calls Tryz.prog 82 #[.pointer (some ⟨b, 0, none⟩)] w fun e w' => e = .returned (.tuple #[]) ∧ w' = w.setCell ⟨b, 0, none⟩ (.pointer (some ⟨b, 0, none⟩)) := by
  obtain ⟨j, hj, hjs⟩ := Option.map_eq_some_iff.1 infoBuilder
  go_enter Tryz.func82, Tryz.ntmps82
  go_wp2
  rw [Lib.run_to_unsafe w ⟨b, 0, none⟩ Tryz.underlying96 Tryz.underlying114 hj (by rw [hjs]; decide) hsh (Nat.zero_lt_succ 1)]
  simp only [Result.andThen]
  rw [Oper.upon_value]
  go_wp2
  rw [run_callFunc_extern Tryz.func94 (by kernel_rfl) (by kernel_rfl) (by kernel_rfl) (e := Extern.AbiNoEscape.same) (by kernel_rfl)]
  rw [Lib.run_noEscape]
  simp only [Result.andThen]
  rw [Oper.upon_value]
  go_wp2
  rw [Lib.run_from_unsafe w ⟨b, 0, none⟩ Tryz.underlying114 Tryz.underlying96 hj hsh liesBuilder]
  simp only [Result.andThen]
  rw [Oper.upon_value]
  go_wp2
  go_end0
  exact ⟨rfl, rfl⟩

theorem copyCheck_k (B b : Nat) (bs : List Value) (w : World) (h : Lib.IsBuilderF 98 5 B b bs w) :
    Calls Tryz.prog 82 #[.pointer (some ⟨b, 0, none⟩)] w fun e w' => e = .returned (.tuple #[]) ∧ (Lib.BuilderAtF 98 5 B b (.pointer (some ⟨b, 0, none⟩)) bs w' ∧ Below B w w' ∧ Lib.OthersKept 5 (some b) w w') := by
  rcases h with h | h
  · refine (copyCheck_fresh b w h.cell0 h.shape h.frozen0).mono ?_
    rintro e w' ⟨rfl, rfl⟩
    exact ⟨rfl, h.used _, (Below.refl B w).setCell (p := ⟨b, 0, none⟩) h.1 _, (Lib.OthersKept.refl _ _ w).setCell ⟨b, 0, none⟩ rfl _⟩
  · refine (copyCheck_used b w h.cell0).mono ?_
    rintro e w' ⟨rfl, rfl⟩
    exact ⟨rfl, h, Below.refl B _, Lib.OthersKept.refl _ _ _⟩


set_option maxHeartbeats 2000000 in
set_option maxRecDepth 100000 in
theorem WriteString_k (B b : Nat) (bs : List Value) (s : ByteArray) (w : World) (h : Lib.IsBuilderF 98 5 B b bs w) (hlen : bs.length + s.size ≤ 140737488355328) (hBw : B ≤ w.heap.size) :
    Calls Tryz.prog 72 #[.pointer (some ⟨b, 0, none⟩), .string s] w fun e w' => e = .returned (.tuple #[.int .i64 s.size, .nilIface]) ∧ (Lib.BuilderAtF 98 5 B b (.pointer (some ⟨b, 0, none⟩)) (bs ++ Lib.strCells s) w' ∧ Below B w w' ∧ Lib.OthersKept 5 (some b) w w') := by
  obtain ⟨i0, hi, hz0, hz1, hz2⟩ := info_parts infoByte
  go_enter Tryz.func72, Tryz.ntmps72
  go_wp2_with (go_at_call 82; refine (copyCheck_k B b bs _ h).mono ?_)
  rintro e w1 ⟨rfl, h1, hb1, hk1⟩
  obtain ⟨hB, v, hbk, hown, hne⟩ := h1
  have c0 : w1.cell? ⟨b, 0, none⟩ = some (.pointer (some ⟨b, 0, none⟩)) := by rw [Lib.cell_of_heap hbk]; rfl
  have c1 : w1.cell? ⟨b, 1, none⟩ = some v := by rw [Lib.cell_of_heap hbk]; rfl
  go_wp2_with (at_builtin; refine Lib.wpList_append_own_stringF _ rfl _ _ 87 9 rfl B 5 i0 Tryz.underlying87 Tryz.underlying9 hi hz0 hz1 hz2 _ _ _ rfl hown s rfl ?c3 ?c4 ?c5 ?_)
  case c3 => unfold maxLen; omega
  case c4 => omega
  case c5 => have := hb1.size; omega
  intro v' w2 hown' hgrow _
  have hlt : b < w1.heap.size := by
    rcases Nat.lt_or_ge b w1.heap.size with h' | h'
    · exact h'
    · simp [Array.getElem?_eq_none h'] at hbk
  have hb2 : w2.heap[b]? = some (.cells #[.pointer (some ⟨b, 0, none⟩), v] 98 (0, 0)) := by
    rw [hgrow.block b hlt (fun e => hne e.symm)]
    exact hbk
  have d0 : w2.cell? ⟨b, 0, none⟩ = some (.pointer (some ⟨b, 0, none⟩)) := by rw [Lib.cell_of_heap hb2]; rfl
  have d1 : w2.cell? ⟨b, 1, none⟩ = some v := by rw [Lib.cell_of_heap hb2]; rfl
  have f1 : w2.frozen? ⟨b, 1, none⟩ = false := Lib.frozen_of_heap hb2 1
  obtain ⟨ao, n', cap, rfl⟩ : ∃ ao n' cap, v' = .slice ao n' cap := by
    rcases hown'.2 with ⟨hv, _⟩ | ⟨g, cap, cur, fz, hv, _⟩
    · exact ⟨_, _, _, hv⟩
    · exact ⟨_, _, _, hv⟩
  go_wp2
  go_ret2
  refine ⟨rfl, ?_, ?_, (hk1.grown hgrow (Lib.ownsRowF_kind hown)).setCell ⟨b, 1, none⟩ rfl _⟩
  · exact Lib.BuilderAtF.put (T := 98) (e := 5) hB hb2 (bs' := bs ++ Lib.strCells s) (by simpa [Lib.strCells_length] using hown') (by decide)
  · exact (hb1.grown hgrow (by have := hb1.size; omega) (fun k hk => (hown.lt k hk).1)).setCell (p := ⟨b, 1, none⟩) hB _

end Go.Proofs.YtdfppdkhiejbdaaGreatDoor.Bldr
end

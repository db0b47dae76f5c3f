/- What shade.ToHtml, shade.FromHtml, glyph.First, glyph.Fold and the reference's Fold answer, in the form in which the printed texts ask for it. Conditions: a text of at most 2^44 bytes. -/
import Derived.Test.YtbbbggcokpffnaaProg
import Derived.Test.YtbbbggcokpffnaaPlain
import Derived.Test.YtbbbggcokpffnaaGlyph
import Derived.Test.YtbbbggcokpffnaaFold
import Derived.Test.YtbbbggcokpffnaaBldr
import Derived.Test.YtbbbggcokpffnaaShelf
import Derived.WalkKit
import Derived.KernelRfl
import Derived.BigCall
import Derived.Lib.Hide
set_option linter.unusedVariables false
set_option linter.unusedSimpArgs false
namespace Go.Proofs.Ytbbbggcokpffnaa.Ext
open Go.RowKit Go.Proofs.Ytbbbggcokpffnaa.Plain

theorem builder_below {T e : TypeId} {B b : Nat} {bs : List Value} {w w' : World} (h : Lib.IsBuilderF T e B b bs w) (hb : Below w.heap.size w w') : Lib.IsBuilderF T e B b bs w' := by
  have one : ∀ p, Lib.BuilderAtF T e B b p bs w → Lib.BuilderAtF T e B b p bs w' := by
    rintro p ⟨hB, v, hbk, hown, hne⟩
    refine ⟨hB, v, (hb.block b (Array.getElem?_eq_some_iff.1 hbk).1).trans hbk, ⟨hown.1, ?_⟩, hne⟩
    rcases hown.2 with hn | ⟨g, cap, cur, fz, hv, hbg, hg, rest⟩
    · exact .inl hn
    · exact .inr ⟨g, cap, cur, fz, hv, hbg, (hb.block g (Array.getElem?_eq_some_iff.1 hg).1).trans hg, rest⟩
  exact h.elim (fun x => .inl (one _ x)) (fun x => .inr (one _ x))

theorem builder_drewN {T e : TypeId} {B b : Nat} {bs : List Value} {w : World} (h : Lib.IsBuilderF T e B b bs w) (n : Nat) : Lib.IsBuilderF T e B b bs (w.drewN n) := h

set_option maxHeartbeats 400000 in
theorem written_any (c : Nat) (w : World) : Calls Try.prog 24 #[.int .i32 c] w fun e w' => e = .returned (.string (writtenS c)) ∧ w = w' := by
  by_cases h1 : c = 38
  · subst h1
    go_enter Try.func24, Try.ntmps24
    go_wp2
    go_ret
    exact ⟨rfl, rfl⟩
  by_cases h2 : c = 60
  · subst h2
    go_enter Try.func24, Try.ntmps24
    go_wp2
    go_ret
    exact ⟨rfl, rfl⟩
  by_cases h3 : c = 62
  · subst h3
    go_enter Try.func24, Try.ntmps24
    go_wp2
    go_ret
    exact ⟨rfl, rfl⟩
  by_cases h4 : c = 34
  · subst h4
    go_enter Try.func24, Try.ntmps24
    go_wp2
    go_ret
    exact ⟨rfl, rfl⟩
  by_cases h5 : c = 10
  · subst h5
    go_enter Try.func24, Try.ntmps24
    go_wp2
    go_ret
    exact ⟨rfl, rfl⟩
  have e : writtenS c = Utf8.encode c := by unfold writtenS; rw [if_neg h1, if_neg h2, if_neg h3, if_neg h4, if_neg h5]
  have k1 : ((c : Int) == 38) = false := by simp; omega
  have k2 : ((c : Int) == 60) = false := by simp; omega
  have k3 : ((c : Int) == 62) = false := by simp; omega
  have k4 : ((c : Int) == 34) = false := by simp; omega
  have k5 : ((c : Int) == 10) = false := by simp; omega
  have He := Lib.hid e
  clear e h1 h2 h3 h4 h5
  go_enter Try.func24, Try.ntmps24
  go_wp2
  go_ret
  exact ⟨by rw [He.out]; rfl, rfl⟩


/-- strings.Cut at a sep of one byte. -/
def cutAt (s : ByteArray) (c : UInt8) : ByteArray × ByteArray × Bool :=
  if 0 ≤ Lib.indexByte s.data.toList c then (s.extract 0 (Lib.indexByte s.data.toList c).toNat, s.extract ((Lib.indexByte s.data.toList c).toNat + 1) s.size, true) else (s, ⟨#[]⟩, false)

theorem indexByte_lt {l : List UInt8} {c : UInt8} (h : 0 ≤ Lib.indexByte l c) : (Lib.indexByte l c).toNat < l.length := by
  obtain ⟨o, ho⟩ := Int.eq_ofNat_of_zero_le h
  have := (Lib.indexByte_some ho).1
  rw [ho]
  exact (List.getElem?_eq_some_iff.1 this).1

set_option maxHeartbeats 400000 in
theorem sCut_any (s : ByteArray) (c : UInt8) (w : World) (hs : s.size < 9223372036854775807) : Calls Try.prog 40 #[.string s, .string ⟨#[c]⟩] w fun e w' => e = .returned (.tuple #[.string (cutAt s c).1, .string (cutAt s c).2.1, .bool (cutAt s c).2.2]) ∧ ∃ n, w' = w.drewN n := by
  by_cases h : 0 ≤ Lib.indexByte s.data.toList c
  · have e : cutAt s c = (s.extract 0 (Lib.indexByte s.data.toList c).toNat, s.extract ((Lib.indexByte s.data.toList c).toNat + 1) s.size, true) := by unfold cutAt; rw [if_pos h]
    have hlt := indexByte_lt h
    simp only [Array.length_toList] at hlt
    obtain ⟨i, hi⟩ := Int.eq_ofNat_of_zero_le h
    rw [hi, Int.toNat_natCast] at hlt e
    have hlt' : i < s.size := hlt
    rw [e]
    have c1 : (0 : Int) ≤ ↑i := by omega
    have c2 : (↑i : Int) ≤ ↑s.size := by omega
    have c3 : (0 : Int) ≤ ↑i + 1 := by omega
    have c4 : (↑i + 1 : Int) ≤ ↑s.size := by omega
    have Hi := Lib.hid hi
    clear hi h e
    go_enter Try.func40, Try.ntmps40
    go_wp2_with (go_at_call 44; refine (Try.stringslite_Index_one s c _).mono ?_; rintro e w' ⟨rfl, rfl⟩; rw [Hi.out])
    go_region
    go_wp2
    go_ret3
    exact ⟨rfl, 1, rfl⟩
  · have e : cutAt s c = (s, ⟨#[]⟩, false) := by unfold cutAt; rw [if_neg h]
    have hm : Lib.indexByte s.data.toList c = -1 := by have := Lib.indexByte_ge s.data.toList c; omega
    rw [e]
    have Hi := Lib.hid hm
    clear hm h e
    go_enter Try.func40, Try.ntmps40
    go_wp2_with (go_at_call 44; refine (Try.stringslite_Index_one s c _).mono ?_; rintro e w' ⟨rfl, rfl⟩; rw [Hi.out])
    go_ret3
    exact ⟨rfl, 0, rfl⟩

set_option maxHeartbeats 400000 in
theorem Cut_any (s : ByteArray) (c : UInt8) (w : World) (hs : s.size < 9223372036854775807) : Calls Try.prog 30 #[.string s, .string ⟨#[c]⟩] w fun e w' => e = .returned (.tuple #[.string (cutAt s c).1, .string (cutAt s c).2.1, .bool (cutAt s c).2.2]) ∧ ∃ n, w' = w.drewN n := by
  go_enter Try.func30, Try.ntmps30
  go_wp2_with (go_at_call 40; refine (sCut_any s c _ hs).mono ?_; rintro e w' ⟨rfl, n, rfl⟩)
  go_ret3
  exact ⟨rfl, n, rfl⟩

/-- What entity still comes to when k marks have been passed. -/
def entFrom (k : Nat) (l : List UInt8) : Int × Int :=
  if k ≤ 0 ∧ Lib.hasPrefix l [38, 97, 109, 112, 59] = true then (38, 5) else
  if k ≤ 1 ∧ Lib.hasPrefix l [38, 108, 116, 59] = true then (60, 4) else
  if k ≤ 2 ∧ Lib.hasPrefix l [38, 103, 116, 59] = true then (62, 4) else
  if k ≤ 3 ∧ Lib.hasPrefix l [38, 113, 117, 111, 116, 59] = true then (34, 6) else
  if k ≤ 4 ∧ Lib.hasPrefix l [38, 110, 98, 115, 112, 59] = true then (32, 6) else
  (0, 0)

theorem entFrom_zero (l : List UInt8) : entFrom 0 l = entityOf l := by simp [entFrom, entityOf]
theorem entFrom_yes0 (l : List UInt8) (h : Lib.hasPrefix l [38, 97, 109, 112, 59] = true) : entFrom 0 l = (38, 5) := by simp [entFrom, h]
theorem entFrom_no0 (l : List UInt8) (h : Lib.hasPrefix l [38, 97, 109, 112, 59] = false) : entFrom 0 l = entFrom 1 l := by simp [entFrom, h]
theorem entFrom_yes1 (l : List UInt8) (h : Lib.hasPrefix l [38, 108, 116, 59] = true) : entFrom 1 l = (60, 4) := by simp [entFrom, h]
theorem entFrom_no1 (l : List UInt8) (h : Lib.hasPrefix l [38, 108, 116, 59] = false) : entFrom 1 l = entFrom 2 l := by simp [entFrom, h]
theorem entFrom_yes2 (l : List UInt8) (h : Lib.hasPrefix l [38, 103, 116, 59] = true) : entFrom 2 l = (62, 4) := by simp [entFrom, h]
theorem entFrom_no2 (l : List UInt8) (h : Lib.hasPrefix l [38, 103, 116, 59] = false) : entFrom 2 l = entFrom 3 l := by simp [entFrom, h]
theorem entFrom_yes3 (l : List UInt8) (h : Lib.hasPrefix l [38, 113, 117, 111, 116, 59] = true) : entFrom 3 l = (34, 6) := by simp [entFrom, h]
theorem entFrom_no3 (l : List UInt8) (h : Lib.hasPrefix l [38, 113, 117, 111, 116, 59] = false) : entFrom 3 l = entFrom 4 l := by simp [entFrom, h]
theorem entFrom_yes4 (l : List UInt8) (h : Lib.hasPrefix l [38, 110, 98, 115, 112, 59] = true) : entFrom 4 l = (32, 6) := by simp [entFrom, h]
theorem entFrom_no4 (l : List UInt8) (h : Lib.hasPrefix l [38, 110, 98, 115, 112, 59] = false) : entFrom 4 l = entFrom 5 l := by simp [entFrom, h]
theorem entFrom_end (l : List UInt8) : entFrom 5 l = (0, 0) := by simp [entFrom]
theorem ret2 {k : IntKind} {x a b : Int × Int} (h : x = a) (h' : b = x) : Ending.returned (.tuple #[.int k a.1, .int .i64 a.2]) = Ending.returned (.tuple #[.int k b.1, .int .i64 b.2]) := by rw [← h, h']

set_option maxHeartbeats 1000000 in
theorem entity_any (s : ByteArray) (w : World) : Calls Try.prog 33 #[.string s] w fun e w' => e = .returned (.tuple #[.int .u8 (entityOf s.data.toList).1, .int .i64 (entityOf s.data.toList).2]) ∧ w = w' := by
  have i0 : ∀ w, (Instr.index 64 (.agg #[.string ⟨#[38, 97, 109, 112, 59]⟩, .string ⟨#[38, 108, 116, 59]⟩, .string ⟨#[38, 103, 116, 59]⟩, .string ⟨#[38, 113, 117, 111, 116, 59]⟩, .string ⟨#[38, 110, 98, 115, 112, 59]⟩]) (.int .i64 0)).run Try.prog w = .ok (.string ⟨#[38, 97, 109, 112, 59]⟩) w := fun _ => by kernel_rfl
  have i1 : ∀ w, (Instr.index 64 (.agg #[.string ⟨#[38, 97, 109, 112, 59]⟩, .string ⟨#[38, 108, 116, 59]⟩, .string ⟨#[38, 103, 116, 59]⟩, .string ⟨#[38, 113, 117, 111, 116, 59]⟩, .string ⟨#[38, 110, 98, 115, 112, 59]⟩]) (.int .i64 1)).run Try.prog w = .ok (.string ⟨#[38, 108, 116, 59]⟩) w := fun _ => by kernel_rfl
  have i2 : ∀ w, (Instr.index 64 (.agg #[.string ⟨#[38, 97, 109, 112, 59]⟩, .string ⟨#[38, 108, 116, 59]⟩, .string ⟨#[38, 103, 116, 59]⟩, .string ⟨#[38, 113, 117, 111, 116, 59]⟩, .string ⟨#[38, 110, 98, 115, 112, 59]⟩]) (.int .i64 2)).run Try.prog w = .ok (.string ⟨#[38, 103, 116, 59]⟩) w := fun _ => by kernel_rfl
  have i3 : ∀ w, (Instr.index 64 (.agg #[.string ⟨#[38, 97, 109, 112, 59]⟩, .string ⟨#[38, 108, 116, 59]⟩, .string ⟨#[38, 103, 116, 59]⟩, .string ⟨#[38, 113, 117, 111, 116, 59]⟩, .string ⟨#[38, 110, 98, 115, 112, 59]⟩]) (.int .i64 3)).run Try.prog w = .ok (.string ⟨#[38, 113, 117, 111, 116, 59]⟩) w := fun _ => by kernel_rfl
  have i4 : ∀ w, (Instr.index 64 (.agg #[.string ⟨#[38, 97, 109, 112, 59]⟩, .string ⟨#[38, 108, 116, 59]⟩, .string ⟨#[38, 103, 116, 59]⟩, .string ⟨#[38, 113, 117, 111, 116, 59]⟩, .string ⟨#[38, 110, 98, 115, 112, 59]⟩]) (.int .i64 4)).run Try.prog w = .ok (.string ⟨#[38, 110, 98, 115, 112, 59]⟩) w := fun _ => by kernel_rfl
  go_enter Try.func33, Try.ntmps33
  go_wp2
  go_loop [4, 5, 7] (fun _ _ i => ∃ k : Nat, k ≤ 5 ∧ i = .int .i64 k ∧ entFrom k s.data.toList = entityOf s.data.toList) (fun _ _ i => 5 - (intOf i).toNat)
  case atStart => exact ⟨0, by omega, rfl, entFrom_zero _⟩
  case round =>
    obtain ⟨k, hk, rfl, he⟩ := hrel
    have He := Lib.hid he
    clear he
    rcases (by omega : k = 0 ∨ k = 1 ∨ k = 2 ∨ k = 3 ∨ k = 4 ∨ k = 5) with rfl | rfl | rfl | rfl | rfl | rfl
    · go_wp2_with (go_at_call 41; refine (Try.strings_HasPrefix _ _ _).mono ?_; rintro e w' ⟨rfl, rfl⟩)
      · have hp : Lib.hasPrefix s.data.toList [38, 97, 109, 112, 59] = true := by assumption
        go_ret2
        exact ⟨ret2 (entFrom_yes0 _ hp) He.out.symm, rfl⟩
      · have hp : Lib.hasPrefix s.data.toList [38, 97, 109, 112, 59] = false := by assumption
        go_round
        case rel => exact ⟨1, by omega, rfl, (entFrom_no0 _ hp).symm.trans He.out⟩
        case measure => simp [intOf]
    · go_wp2_with (go_at_call 41; refine (Try.strings_HasPrefix _ _ _).mono ?_; rintro e w' ⟨rfl, rfl⟩)
      · have hp : Lib.hasPrefix s.data.toList [38, 108, 116, 59] = true := by assumption
        go_ret2
        exact ⟨ret2 (entFrom_yes1 _ hp) He.out.symm, rfl⟩
      · have hp : Lib.hasPrefix s.data.toList [38, 108, 116, 59] = false := by assumption
        go_round
        case rel => exact ⟨2, by omega, rfl, (entFrom_no1 _ hp).symm.trans He.out⟩
        case measure => simp [intOf]
    · go_wp2_with (go_at_call 41; refine (Try.strings_HasPrefix _ _ _).mono ?_; rintro e w' ⟨rfl, rfl⟩)
      · have hp : Lib.hasPrefix s.data.toList [38, 103, 116, 59] = true := by assumption
        go_ret2
        exact ⟨ret2 (entFrom_yes2 _ hp) He.out.symm, rfl⟩
      · have hp : Lib.hasPrefix s.data.toList [38, 103, 116, 59] = false := by assumption
        go_round
        case rel => exact ⟨3, by omega, rfl, (entFrom_no2 _ hp).symm.trans He.out⟩
        case measure => simp [intOf]
    · go_wp2_with (go_at_call 41; refine (Try.strings_HasPrefix _ _ _).mono ?_; rintro e w' ⟨rfl, rfl⟩)
      · have hp : Lib.hasPrefix s.data.toList [38, 113, 117, 111, 116, 59] = true := by assumption
        go_ret2
        exact ⟨ret2 (entFrom_yes3 _ hp) He.out.symm, rfl⟩
      · have hp : Lib.hasPrefix s.data.toList [38, 113, 117, 111, 116, 59] = false := by assumption
        go_round
        case rel => exact ⟨4, by omega, rfl, (entFrom_no3 _ hp).symm.trans He.out⟩
        case measure => simp [intOf]
    · go_wp2_with (go_at_call 41; refine (Try.strings_HasPrefix _ _ _).mono ?_; rintro e w' ⟨rfl, rfl⟩)
      · have hp : Lib.hasPrefix s.data.toList [38, 110, 98, 115, 112, 59] = true := by assumption
        go_ret2
        exact ⟨ret2 (entFrom_yes4 _ hp) He.out.symm, rfl⟩
      · have hp : Lib.hasPrefix s.data.toList [38, 110, 98, 115, 112, 59] = false := by assumption
        go_round
        case rel => exact ⟨5, by omega, rfl, (entFrom_no4 _ hp).symm.trans He.out⟩
        case measure => simp [intOf]
    · go_wp2
      go_ret2
      exact ⟨ret2 (entFrom_end _) He.out.symm, rfl⟩

theorem extract_take (s : ByteArray) (k : Nat) : (s.extract 0 k).data.toList = s.data.toList.take k := by
  obtain ⟨⟨l⟩⟩ := s
  rw [show (ByteArray.mk { toList := l }) = ByteArray.mk l.toArray from rfl, ByteArray.extract_mk]
  simp

theorem entity_byte (l : List UInt8) : ((UInt8.ofNat (entityOf l).1.toNat).toNat : Int) = (entityOf l).1 := by
  unfold entityOf
  repeat' split
  all_goals rfl

theorem hasPrefix_le {l p : List UInt8} (h : Lib.hasPrefix l p = true) : p.length ≤ l.length := by
  unfold Lib.hasPrefix at h
  exact (List.isPrefixOf_iff_prefix.1 h).length_le

theorem entity_le (l : List UInt8) (h : 0 < (entityOf l).2) : (entityOf l).2 ≤ l.length := by
  unfold entityOf at h ⊢
  repeat' split
  all_goals first | (rename_i hp; have := hasPrefix_le hp; simp at this ⊢; omega) | simp_all

theorem below_drewN {B : Nat} {a w : World} (h : Below B a w) (n : Nat) : Below B a (w.drewN n) := ⟨h.os, h.tape, h.output, h.size, h.block⟩

theorem byteCells_one {c : UInt8} {n : Int} (h : (c.toNat : Int) = n) : Lib.byteCells [c] = [.int .u8 n] := by
  subst h; rfl

/-- The bytes of a string value. -/
def strSize : Value → Nat
  | .string s => s.size
  | _ => 0

set_option maxHeartbeats 4000000 in
set_option maxRecDepth 1000000 in
theorem ToHtml_any (s : ByteArray) (most : Int) (w : World) (hs : s.size ≤ 17592186044416) :
    Calls Try.prog 17 #[.string s, .int .i64 most] w fun e w' => e = .returned (.string ⟨(toHtml s most).toArray⟩) ∧ Below w.heap.size w w' := by
  go_enter Try.func17, Try.ntmps17
  go_wp2
  go_loopw [] (fun wr => ∃ (pos fuel : Nat) (acc : List UInt8), Lib.IsBuilderF 40 5 w.heap.size w.heap.size (Lib.byteCells acc) wr ∧ wr.heap[w.heap.size + 1]? = some (.stringIter s pos) ∧ Below w.heap.size w wr ∧ Hid (toHtmlFrom s most fuel pos acc = toHtml s most) ∧ s.size ≤ pos + fuel ∧ acc.length ≤ 6 * pos) (fun wr => s.size - wr.iterPos (w.heap.size + 1))
  case atStart =>
    refine ⟨0, s.size, [], (Lib.IsBuilderF.of (Lib.fresh_isBuilder 40 5 w)).alloc _, ?_, ((Below.refl _ w).alloc (Nat.le_refl _) _).alloc (by simp) _, Lib.hid rfl, by omega, by simp⟩
    have := World.iter_heap (w.alloc (.cells #[.pointer none, .slice none 0 0] 40)) s 0
    simpa using this
  case round =>
    obtain ⟨pos, fuel, acc, hI, hit, hbw, hacc, hfu, hal⟩ := hrel
    have hsz : w.heap.size + 1 < wr.heap.size := (Array.getElem?_eq_some_iff.1 hit).1
    by_cases hp : pos < s.size
    · have hnx : ∀ ty, (Instr.next (.pointer (some ⟨w.heap.size + 1, 0, none⟩)) true ty).run Try.prog wr = _ := fun ty => Lib.run_next_any_at wr (w.heap.size + 1) s pos ty hit hp
      have hwd := width_pos s pos hp
      have hd1 := decode_le s pos
      have hI2 := hI.iterAt hit (pos + (Utf8.decode s pos).2)
      have hit2 := Lib.iterAt_heap wr (w.heap.size + 1) s pos (pos + (Utf8.decode s pos).2) hit
      have hbw2 := Lib.below_iterAt hbw (k := w.heap.size + 1) (by omega) s (pos + (Utf8.decode s pos).2)
      have hsz2 : w.heap.size + 1 < (wr.iterAt (w.heap.size + 1) s (pos + (Utf8.decode s pos).2)).heap.size := by rw [Lib.iterAt_size]; omega
      have hm : s.size - (pos + (Utf8.decode s pos).2) < s.size - wr.iterPos (w.heap.size + 1) := by simp only [World.iterPos, hit]; omega
      obtain ⟨f, rfl⟩ : ∃ f, fuel = f + 1 := ⟨fuel - 1, by omega⟩
      have hsl : (0 : Int) ≤ (pos : Int) := by omega
      have hsl2 : (pos : Int) ≤ (s.size : Int) := by omega
      generalize wr.iterAt (w.heap.size + 1) s (pos + (Utf8.decode s pos).2) = W0 at *
      have HF := Lib.hid (show toHtmlFrom s most (f + 1) pos acc = _ by unfold toHtmlFrom; rw [if_pos hp])
      have hws := writtenS_size (Utf8.decode s pos).1
      obtain ⟨g1, g2, g3, hg⟩ : ∃ g1 g2 g3, gf (s.extract pos s.size) = (g1, g2, g3) := ⟨_, _, _, rfl⟩
      have Hg := Lib.hid hg
      clear hg
      by_cases h3 : g3 = 0
      · have h3' : (g3 != 0) = false := by simp [h3]
        have H3 := Lib.hid h3
        clear h3
        by_cases hc : wrap64 (most - (acc.length : Int)) < ((writtenS (Utf8.decode s pos).1).size : Int)
        · have HC := Lib.hid hc
          have hc' : decide (wrap64 (most - (acc.length : Int)) < ((writtenS (Utf8.decode s pos).1).size : Int)) = true := decide_eq_true hc
          clear hc
          go_wp2_with (first | (go_at_call 23; refine (Glyph.First_any _ _).mono ?_; rintro e W1 ⟨rfl, hb1⟩; rw [Hg.out]) | (go_at_call 24; refine (written_any _ _).mono ?_; rintro e w' ⟨rfl, rfl⟩) | (go_at_call 25; refine (Try.Builder_Len_f w.heap.size w.heap.size _ _ (builder_below hI2 hb1)).mono ?_; rintro e W1 ⟨rfl, rfl⟩; rw [Lib.byteCells_length]) | (go_at_call 27; refine (Try.Builder_String_any_k w.heap.size w.heap.size acc _ (builder_below hI2 hb1) ?hx).mono ?_; rotate_left; rintro e W2 ⟨rfl, _, b1, _⟩))
          case hx => have := hb1.size; omega
          go_ret
          have hx := hacc.out
          rw [HF.out, Hg.out, if_pos H3.out, if_pos HC.out] at hx
          rw [hx]
          exact ⟨rfl, (hbw2.trans (hb1.mono (by omega))).trans b1⟩
        · have HC := Lib.hid hc
          have hc' : decide (wrap64 (most - (acc.length : Int)) < ((writtenS (Utf8.decode s pos).1).size : Int)) = false := decide_eq_false hc
          clear hc
          go_wp2_with (first | (go_at_call 23; refine (Glyph.First_any _ _).mono ?_; rintro e W1 ⟨rfl, hb1⟩; rw [Hg.out]) | (go_at_call 24; refine (written_any _ _).mono ?_; rintro e w' ⟨rfl, rfl⟩) | (go_at_call 25; refine (Try.Builder_Len_f w.heap.size w.heap.size _ _ (builder_below hI2 hb1)).mono ?_; rintro e W1 ⟨rfl, rfl⟩; rw [Lib.byteCells_length]))
          have hI3 := builder_below hI2 hb1
          have hit3 := (hb1.block (w.heap.size + 1) hsz2).trans hit2
          refine (Bldr.WriteString_k w.heap.size w.heap.size _ _ _ hI3 (by rw [Lib.byteCells_length]; omega) (by have := hb1.size; omega)).mono ?_
          rintro e W2 ⟨rfl, h1, b1, k1⟩
          have hit4 := k1.iter hit3 (by omega)
          go_wp2
          go_roundw
          case rel =>
            refine ⟨pos + (Utf8.decode s pos).2, f, acc ++ (writtenS (Utf8.decode s pos).1).data.toList, ?_, hit4, (hbw2.trans (hb1.mono (by omega))).trans b1, ?_, by omega, ?_⟩
            · rw [Lib.byteCells_append]; exact Or.inr h1
            · refine Lib.hid ?_
              rw [← hacc.out, HF.out, Hg.out, if_pos H3.out, if_neg (by have := HC.out; omega)]
            · have : (writtenS (Utf8.decode s pos).1).data.toList.length ≤ 6 := by simpa using hws.2
              simp only [List.length_append]; omega
          case measure => simp only [World.iterPos, hit4, hit] at hm ⊢; omega
      · have h3' : (g3 != 0) = true := by simp [h3]
        have H3 := Lib.hid h3
        clear h3
        go_wp2_with (go_at_call 23; refine (Glyph.First_any _ _).mono ?_; rintro e W1 ⟨rfl, hb1⟩; rw [Hg.out])
        have hit3 := (hb1.block (w.heap.size + 1) hsz2).trans hit2
        go_roundw
        case rel =>
          refine ⟨pos + (Utf8.decode s pos).2, f, acc, builder_below hI2 hb1, hit3, hbw2.trans (hb1.mono (by omega)), ?_, by omega, by omega⟩
          refine Lib.hid ?_
          rw [← hacc.out, HF.out, Hg.out, if_neg H3.out]
        case measure => simp only [World.iterPos, hit3, hit] at hm ⊢; omega
    · have hnx : ∀ ty, (Instr.next (.pointer (some ⟨w.heap.size + 1, 0, none⟩)) true ty).run Try.prog wr = _ := fun ty => Lib.run_next_end_at wr (w.heap.size + 1) s pos ty hit hp
      go_wp2_with (go_at_call 27; refine (Try.Builder_String_any_k w.heap.size w.heap.size acc _ hI (by omega)).mono ?_; rintro e W1 ⟨rfl, _, b1, _⟩)
      go_ret
      have hx := hacc.out
      rw [toHtmlFrom_end s most fuel pos acc hp] at hx
      subst hx
      exact ⟨rfl, hbw.trans b1⟩

theorem fromHtmlL_tag (f : Nat) (r : List UInt8) (h : 0 ≤ Lib.indexByte r 62) : fromHtmlL (f + 1) (60 :: r) = (if (r.take (Lib.indexByte r 62).toNat).map low = [98, 114] ∨ (r.take (Lib.indexByte r 62).toNat).map low = [98, 114, 47] then [10] else []) ++ fromHtmlL f (r.drop ((Lib.indexByte r 62).toNat + 1)) := by
  rw [fromHtmlL, if_pos ⟨rfl, h⟩]
theorem fromHtmlL_mark (f : Nat) (c : UInt8) (r : List UInt8) (h : ¬ (c = 60 ∧ 0 ≤ Lib.indexByte r 62)) (h2 : 0 < (entityOf (c :: r)).2) : fromHtmlL (f + 1) (c :: r) = UInt8.ofNat (entityOf (c :: r)).1.toNat :: fromHtmlL f ((c :: r).drop (entityOf (c :: r)).2.toNat) := by
  rw [fromHtmlL, if_neg h, if_pos h2]
theorem fromHtmlL_plain (f : Nat) (c : UInt8) (r : List UInt8) (h : ¬ (c = 60 ∧ 0 ≤ Lib.indexByte r 62)) (h2 : ¬ 0 < (entityOf (c :: r)).2) : fromHtmlL (f + 1) (c :: r) = c :: fromHtmlL f r := by
  rw [fromHtmlL, if_neg h, if_neg h2]
theorem fromHtmlL_nil (f : Nat) : fromHtmlL f [] = [] := by cases f <;> rfl

set_option maxHeartbeats 4000000 in
set_option maxRecDepth 1000000 in
theorem FromHtml_any (s : ByteArray) (w : World) (hs : s.size ≤ 17592186044416) :
    Calls Try.prog 19 #[.string s] w fun e w' => e = .returned (.string ⟨(fromHtml s).toArray⟩) ∧ Below w.heap.size w w' := by
  go_enter Try.func19, Try.ntmps19
  go_wp2
  go_loopw [0] (fun v0 wr => ∃ (t : ByteArray) (fuel : Nat) (acc : List UInt8), v0 = .string t ∧ Lib.IsBuilderF 40 5 w.heap.size w.heap.size (Lib.byteCells acc) wr ∧ Below w.heap.size w wr ∧ Hid (acc ++ fromHtmlL fuel t.data.toList = fromHtml s) ∧ t.size ≤ fuel ∧ acc.length + t.size ≤ s.size) (fun v0 _ => strSize v0)
  case atStart =>
    exact ⟨s, s.size, [], rfl, Lib.IsBuilderF.of (Lib.fresh_isBuilder 40 5 w), (Below.refl _ w).alloc (Nat.le_refl _) _, Lib.hid rfl, by omega, by simp⟩
  case round =>
    obtain ⟨t, fuel, acc, rfl, hI, hbw, hacc, hfu, hal⟩ := hrel
    by_cases hp : t.data.toList = []
    · have hp' : t.toList.isEmpty = true := by rw [ByteArray.toList_eq, hp]; rfl
      have HP := Lib.hid hp
      clear hp
      go_wp2_with (go_at_call 27; refine (Try.Builder_String_any_k w.heap.size w.heap.size acc _ hI hbw.size).mono ?_; rintro e W1 ⟨rfl, _, b1, _⟩)
      go_ret
      have hx := hacc.out
      rw [HP.out, fromHtmlL_nil, List.append_nil] at hx
      subst hx
      exact ⟨rfl, hbw.trans b1⟩
    · have hp' : t.toList.isEmpty = false := by rw [ByteArray.toList_eq]; cases hq : t.data.toList with
        | nil => exact absurd hq hp
        | cons _ _ => rfl
      obtain ⟨c, r, hcr⟩ : ∃ c r, t.data.toList = c :: r := by
        cases h : t.data.toList with
        | nil => exact absurd h hp
        | cons c r => exact ⟨c, r, rfl⟩
      have hsz : t.size = r.length + 1 := by rw [show t.size = t.data.toList.length by simp, hcr]; rfl
      have hpos : 0 < t.size := by omega
      have ht0 : t[0] = c := by
        have : t.data.toList[0]'(by rw [hcr]; simp) = c := by simp [hcr]
        rw [← this]; rfl
      have he1 : (t.extract 1 t.size).data.toList = r := by rw [Lib.extract_to_end, hcr]; rfl
      obtain ⟨f, rfl⟩ : ∃ f, fuel = f + 1 := ⟨fuel - 1, by omega⟩
      have hbs := hbw.size
      have HCR := Lib.hid hcr
      have HT0 := Lib.hid ht0
      have HE1 := Lib.hid he1
      have HSZ := Lib.hid hsz
      have hc256 := c.toNat_lt
      clear hcr he1 hp hsz
      have CUT : Hid (cutAt (t.extract 1 t.size) 62 = if 0 ≤ Lib.indexByte r 62 then ((t.extract 1 t.size).extract 0 (Lib.indexByte r 62).toNat, (t.extract 1 t.size).extract ((Lib.indexByte r 62).toNat + 1) (t.extract 1 t.size).size, true) else (t.extract 1 t.size, ⟨#[]⟩, false)) := Lib.hid (by unfold cutAt; rw [HE1.out])
      have hxs : (t.extract 1 t.size).size = r.length := by rw [show (t.extract 1 t.size).size = (t.extract 1 t.size).data.toList.length by simp, HE1.out]
      have HXS := Lib.hid hxs
      clear hxs
      by_cases htag : c = 60 ∧ 0 ≤ Lib.indexByte r 62
      · obtain ⟨hc60, hix⟩ := htag
        have k60 : ((c.toNat : Int) == 60) = true := by rw [hc60]; rfl
        have HC60 := Lib.hid hc60
        have hlt := indexByte_lt hix
        obtain ⟨i, hi⟩ := Int.eq_ofNat_of_zero_le hix
        rw [hi, Int.toNat_natCast] at hlt
        have HX : Hid (fromHtmlL (f + 1) t.data.toList = (if (r.take i).map low = [98, 114] ∨ (r.take i).map low = [98, 114, 47] then [10] else []) ++ fromHtmlL f (r.drop (i + 1))) := Lib.hid (by rw [HCR.out, hc60, fromHtmlL_tag f r hix, hi, Int.toNat_natCast])
        have HCUT := CUT.out
        rw [if_pos hix, hi, Int.toNat_natCast] at HCUT
        have hin : ((t.extract 1 t.size).extract 0 i).data.toList = r.take i := by rw [extract_take, HE1.out]
        have hre : ((t.extract 1 t.size).extract (i + 1) (t.extract 1 t.size).size).data.toList = r.drop (i + 1) := by rw [Lib.extract_to_end, HE1.out]
        generalize (t.extract 1 t.size).extract 0 i = inner at HCUT hin
        generalize (t.extract 1 t.size).extract (i + 1) (t.extract 1 t.size).size = rest at HCUT hre
        have hrs : rest.size = r.length - (i + 1) := by rw [show rest.size = rest.data.toList.length by simp, hre, List.length_drop]
        have hins : inner.size ≤ r.length := by rw [show inner.size = inner.data.toList.length by simp, hin, List.length_take]; omega
        have hfb : (foldB inner).toList = (r.take i).map low := by rw [ByteArray.toList_eq]; simp [foldB, hin]
        have HFB := Lib.hid hfb
        have HRE := Lib.hid hre
        have HCU := Lib.hid HCUT
        have HIN := Lib.hid hin
        have HRS := Lib.hid hrs
        have HSZ2 := HSZ.out
        have h9 : inner.size ≤ 9223372036854775807 := by omega
        have h9t : (t.extract 1 t.size).size < 9223372036854775807 := by have := HXS.out; have := HSZ.out; omega
        have hm : rest.size < t.size := by omega
        have hal2 : acc.length + 1 + rest.size ≤ s.size := by omega
        have hal3 : acc.length + 1 ≤ 140737488355328 := by omega
        have hrf : rest.size ≤ f := by omega
        have hpos2 : (1 : Int) ≤ (t.size : Int) := by omega
        clear hfb hre HCUT hin hrs HSZ2 hi hc60 hix CUT
        by_cases hbr : (r.take i).map low = [98, 114] ∨ (r.take i).map low = [98, 114, 47]
        · have HBR := Lib.hid hbr
          by_cases hb0 : (r.take i).map low = [98, 114]
          · have hq1 : ((foldB inner).toList == [98, 114]) = true := by rw [HFB.out, hb0]; rfl
            clear hbr hb0
            go_wp2_with (first | (go_at_call 30; refine (Cut_any _ _ _ h9t).mono ?_; rintro e w' ⟨rfl, nd, rfl⟩; rw [HCU.out]) | (go_at_call 31; refine (Fold.Fold_any _ _ h9).mono ?_; rintro e W1 ⟨rfl, hb1⟩))
            have hI1 := builder_below (builder_drewN hI _) hb1
            have hB1 := hbw.trans ((below_drewN (Below.refl w.heap.size wr) _).trans (hb1.mono hbs))
            refine (Bldr.WriteByte_k w.heap.size w.heap.size _ _ _ hI1 (by rw [Lib.byteCells_length]; omega) hB1.size).mono ?_
            rintro e W2 ⟨rfl, h1, b1, k1⟩
            go_wp2
            go_roundw
            case rel =>
              refine ⟨rest, f, acc ++ [10], rfl, ?_, hB1.trans b1, ?_, hrf, by simp; omega⟩
              · rw [Lib.byteCells_append]; exact Or.inr h1
              · refine Lib.hid ?_
                rw [← hacc.out, HX.out, if_pos HBR.out, HRE.out, List.append_assoc]
            case measure => simp [strSize]; omega
          · have hq1 : ((foldB inner).toList == [98, 114]) = false := by rw [HFB.out]; simpa using hb0
            have hq2 : ((foldB inner).toList == [98, 114, 47]) = true := by rw [HFB.out, hbr.resolve_left hb0]; rfl
            clear hbr hb0
            go_wp2_with (first | (go_at_call 30; refine (Cut_any _ _ _ h9t).mono ?_; rintro e w' ⟨rfl, nd, rfl⟩; rw [HCU.out]) | (go_at_call 31; refine (Fold.Fold_any _ _ h9).mono ?_; rintro e W1 ⟨rfl, hb1⟩))
            have hI1 := builder_below (builder_drewN hI _) hb1
            have hB1 := hbw.trans ((below_drewN (Below.refl w.heap.size wr) _).trans (hb1.mono hbs))
            refine (Bldr.WriteByte_k w.heap.size w.heap.size _ _ _ hI1 (by rw [Lib.byteCells_length]; omega) hB1.size).mono ?_
            rintro e W2 ⟨rfl, h1, b1, k1⟩
            go_wp2
            go_roundw
            case rel =>
              refine ⟨rest, f, acc ++ [10], rfl, ?_, hB1.trans b1, ?_, hrf, by simp; omega⟩
              · rw [Lib.byteCells_append]; exact Or.inr h1
              · refine Lib.hid ?_
                rw [← hacc.out, HX.out, if_pos HBR.out, HRE.out, List.append_assoc]
            case measure => simp [strSize]; omega
        · have hq1 : ((foldB inner).toList == [98, 114]) = false := by rw [HFB.out]; simp only [not_or] at hbr; simpa using hbr.1
          have hq2 : ((foldB inner).toList == [98, 114, 47]) = false := by rw [HFB.out]; simp only [not_or] at hbr; simpa using hbr.2
          have HBR := Lib.hid hbr
          clear hbr
          go_wp2_with (first | (go_at_call 30; refine (Cut_any _ _ _ h9t).mono ?_; rintro e w' ⟨rfl, nd, rfl⟩; rw [HCU.out]) | (go_at_call 31; refine (Fold.Fold_any _ _ h9).mono ?_; rintro e W1 ⟨rfl, hb1⟩))
          go_roundw
          case rel =>
            refine ⟨rest, f, acc, rfl, builder_below (builder_drewN hI _) hb1, hbw.trans ((below_drewN (Below.refl w.heap.size wr) _).trans (hb1.mono hbs)), ?_, hrf, by omega⟩
            refine Lib.hid ?_
            rw [← hacc.out, HX.out, if_neg HBR.out, HRE.out, List.nil_append]
          case measure => simp [strSize]; omega
      · have HTAG := Lib.hid htag
        have hent := entity_byte (c :: r)
        have hele := entity_le (c :: r)
        have HE := Lib.hid (show entityOf t.data.toList = entityOf (c :: r) by rw [HCR.out])
        obtain ⟨n1, n2, hn⟩ : ∃ n1 n2, entityOf (c :: r) = (n1, n2) := ⟨_, _, rfl⟩
        rw [hn] at hent hele
        simp only at hent hele
        have HN := Lib.hid hn
        have HENT := Lib.hid hent
        have hlen : (c :: r).length = r.length + 1 := rfl
        rw [hlen] at hele
        have HSZ2 := HSZ.out
        by_cases hn2 : 0 < n2
        · have hn2' := hele hn2
          obtain ⟨n, rfl⟩ := Int.eq_ofNat_of_zero_le (Int.le_of_lt hn2)
          have hd2 : decide (0 < (n : Int)) = true := decide_eq_true hn2
          have hnt : (n : Int) ≤ (t.size : Int) := by omega
          have HXM : Hid (fromHtmlL (f + 1) t.data.toList = UInt8.ofNat n1.toNat :: fromHtmlL f ((c :: r).drop n)) := Lib.hid (by rw [HCR.out, fromHtmlL_mark f c r htag (by rw [hn]; exact hn2), hn]; rfl)
          have hre : (t.extract n t.size).data.toList = (c :: r).drop n := by rw [Lib.extract_to_end, HCR.out]
          have hrs : (t.extract n t.size).size = t.size - n := by rw [show (t.extract n t.size).size = (t.extract n t.size).data.toList.length by simp, hre, List.length_drop]; simp; omega
          have HRE := Lib.hid hre
          have HRS := Lib.hid hrs
          clear hn hent hele hre hrs htag hlen HSZ2
          by_cases hc60 : c = 60
          · have hix : ¬ 0 ≤ Lib.indexByte r 62 := fun h => HTAG.out ⟨hc60, h⟩
            have HCUT := CUT.out
            rw [if_neg hix] at HCUT
            have HCU := Lib.hid HCUT
            have h9t : (t.extract 1 t.size).size < 9223372036854775807 := by have := HXS.out; have := HSZ.out; omega
            have hpos2 : (1 : Int) ≤ (t.size : Int) := by omega
            have k60 : ((c.toNat : Int) == 60) = true := by rw [hc60]; rfl
            clear HCUT hix hc60
            go_wp2_with (first | (go_at_call 30; refine (Cut_any _ _ _ h9t).mono ?_; rintro e w' ⟨rfl, nd, rfl⟩; rw [HCU.out]) | (go_at_call 33; refine (entity_any _ _).mono ?_; rintro e w' ⟨rfl, rfl⟩; rw [HE.out, HN.out]))
            refine (Bldr.WriteByte_k w.heap.size w.heap.size _ _ _ (builder_drewN hI _) (by rw [Lib.byteCells_length]; omega) hbs).mono ?_
            rintro e W2 ⟨rfl, h1, b1, k1⟩
            go_wp2
            go_roundw
            case rel =>
              refine ⟨t.extract n t.size, f, acc ++ [UInt8.ofNat n1.toNat], rfl, ?_, (below_drewN hbw _).trans b1, ?_, by rw [HRS.out]; omega, by rw [HRS.out]; simp; omega⟩
              · rw [Lib.byteCells_append, show Lib.byteCells [UInt8.ofNat n1.toNat] = [.int .u8 n1] from byteCells_one HENT.out]; exact Or.inr h1
              · refine Lib.hid ?_
                rw [← hacc.out, HXM.out, HRE.out, List.append_assoc]; rfl
            case measure => simp only [strSize]; rw [HRS.out]; omega
          · have k60 : ((c.toNat : Int) == 60) = false := by
              have : c.toNat ≠ 60 := fun h => hc60 (UInt8.toNat_inj.1 (by simpa using h))
              simp; omega
            have hpos2 : (1 : Int) ≤ (t.size : Int) := by omega
            clear hc60
            go_wp2_with (first | (go_at_call 33; refine (entity_any _ _).mono ?_; rintro e w' ⟨rfl, rfl⟩; rw [HE.out, HN.out]))
            refine (Bldr.WriteByte_k w.heap.size w.heap.size _ _ _ hI (by rw [Lib.byteCells_length]; omega) hbs).mono ?_
            rintro e W2 ⟨rfl, h1, b1, k1⟩
            go_wp2
            go_roundw
            case rel =>
              refine ⟨t.extract n t.size, f, acc ++ [UInt8.ofNat n1.toNat], rfl, ?_, hbw.trans b1, ?_, by rw [HRS.out]; omega, by rw [HRS.out]; simp; omega⟩
              · rw [Lib.byteCells_append, show Lib.byteCells [UInt8.ofNat n1.toNat] = [.int .u8 n1] from byteCells_one HENT.out]; exact Or.inr h1
              · refine Lib.hid ?_
                rw [← hacc.out, HXM.out, HRE.out, List.append_assoc]; rfl
            case measure => simp only [strSize]; rw [HRS.out]; omega
        · have hd2 : decide (0 < n2) = false := decide_eq_false hn2
          have HXM : Hid (fromHtmlL (f + 1) t.data.toList = c :: fromHtmlL f r) := Lib.hid (by rw [HCR.out, fromHtmlL_plain f c r htag (by rw [hn]; exact hn2)])
          clear hn hent hele htag hlen
          clear HSZ2
          by_cases hc60 : c = 60
          · have hix : ¬ 0 ≤ Lib.indexByte r 62 := fun h => HTAG.out ⟨hc60, h⟩
            have HCUT := CUT.out
            rw [if_neg hix] at HCUT
            have HCU := Lib.hid HCUT
            have h9t : (t.extract 1 t.size).size < 9223372036854775807 := by have := HXS.out; have := HSZ.out; omega
            have hpos2 : (1 : Int) ≤ (t.size : Int) := by omega
            have k60 : ((c.toNat : Int) == 60) = true := by rw [hc60]; rfl
            clear HCUT hix hc60
            go_wp2_with (first | (go_at_call 30; refine (Cut_any _ _ _ h9t).mono ?_; rintro e w' ⟨rfl, nd, rfl⟩; rw [HCU.out]) | (go_at_call 33; refine (entity_any _ _).mono ?_; rintro e w' ⟨rfl, rfl⟩; rw [HE.out, HN.out]))
            refine (Bldr.WriteByte_k w.heap.size w.heap.size _ _ _ (builder_drewN hI _) (by rw [Lib.byteCells_length]; omega) hbs).mono ?_
            rintro e W2 ⟨rfl, h1, b1, k1⟩
            go_wp2
            go_roundw
            case rel =>
              refine ⟨t.extract 1 t.size, f, acc ++ [c], rfl, ?_, (below_drewN hbw _).trans b1, ?_, by rw [HXS.out]; have := HSZ.out; omega, by rw [HXS.out]; have := HSZ.out; simp; omega⟩
              · rw [Lib.byteCells_append]; exact Or.inr h1
              · refine Lib.hid ?_
                rw [← hacc.out, HXM.out, HE1.out, List.append_assoc]; rfl
            case measure => simp only [strSize]; rw [HXS.out]; have := HSZ.out; omega
          · have k60 : ((c.toNat : Int) == 60) = false := by
              have : c.toNat ≠ 60 := fun h => hc60 (UInt8.toNat_inj.1 (by simpa using h))
              simp; omega
            have hpos2 : (1 : Int) ≤ (t.size : Int) := by omega
            clear hc60
            go_wp2_with (first | (go_at_call 33; refine (entity_any _ _).mono ?_; rintro e w' ⟨rfl, rfl⟩; rw [HE.out, HN.out]))
            refine (Bldr.WriteByte_k w.heap.size w.heap.size _ _ _ hI (by rw [Lib.byteCells_length]; omega) hbs).mono ?_
            rintro e W2 ⟨rfl, h1, b1, k1⟩
            go_wp2
            go_roundw
            case rel =>
              refine ⟨t.extract 1 t.size, f, acc ++ [c], rfl, ?_, hbw.trans b1, ?_, by rw [HXS.out]; have := HSZ.out; omega, by rw [HXS.out]; have := HSZ.out; simp; omega⟩
              · rw [Lib.byteCells_append]; exact Or.inr h1
              · refine Lib.hid ?_
                rw [← hacc.out, HXM.out, HE1.out, List.append_assoc]; rfl
            case measure => simp only [strSize]; rw [HXS.out]; have := HSZ.out; omega

/-! ### In the printed texts' form -/
def glyph_First.f (a0 : ByteArray) : Option (Int × Int × Int) := some (gf a0)
theorem glyph_First.calls (a0 : ByteArray) (r1 r2 r3 : Int) (w : World) (h : glyph_First.f a0 = some (r1, r2, r3)) :
    Calls Try.prog 23 #[.string a0] w fun e w' => e = .returned (.tuple #[.int .i64 r1, .int .i64 r2, .int .i64 r3]) ∧ Below w.heap.size w w' := by
  have e := Option.some.inj h
  have := Glyph.First_any a0 w
  rw [e] at this
  exact this
def glyph_Fold.f (a0 : ByteArray) : Option ByteArray := if a0.size ≤ 9223372036854775807 then some (foldB a0) else none
theorem glyph_Fold.calls (a0 : ByteArray) (r : ByteArray) (w : World) (h : glyph_Fold.f a0 = some r) :
    Calls Try.prog 31 #[.string a0] w fun e w' => e = .returned (.string r) ∧ Below w.heap.size w w' := by
  unfold glyph_Fold.f at h
  split at h
  · rename_i hs
    obtain rfl := Option.some.inj h
    exact Fold.Fold_any a0 w hs
  · cases h
def wharfref01_Fold.f (a0 : ByteArray) : Option ByteArray := if a0.size ≤ 9223372036854775807 then some (foldB a0) else none
theorem wharfref01_Fold.calls (a0 : ByteArray) (r : ByteArray) (w : World) (h : wharfref01_Fold.f a0 = some r) :
    Calls Try.prog 35 #[.string a0] w fun e w' => e = .returned (.string r) ∧ Below w.heap.size w w' := by
  unfold wharfref01_Fold.f at h
  split at h
  · rename_i hs
    obtain rfl := Option.some.inj h
    exact Fold.RFold_any a0 w hs
  · cases h
def shade_ToHtml.f (a0 : ByteArray) (a1 : Int) : Option ByteArray := if a0.size ≤ 17592186044416 then some ⟨(toHtml a0 a1).toArray⟩ else none
theorem shade_ToHtml.calls (a0 : ByteArray) (a1 : Int) (r : ByteArray) (w : World) (h : shade_ToHtml.f a0 a1 = some r) :
    Calls Try.prog 17 #[.string a0, .int .i64 a1] w fun e w' => e = .returned (.string r) ∧ Below w.heap.size w w' := by
  unfold shade_ToHtml.f at h
  split at h
  · rename_i hs
    obtain rfl := Option.some.inj h
    exact ToHtml_any a0 a1 w hs
  · cases h
def shade_FromHtml.f (a0 : ByteArray) : Option ByteArray := if a0.size ≤ 17592186044416 then some ⟨(fromHtml a0).toArray⟩ else none
theorem shade_FromHtml.calls (a0 : ByteArray) (r : ByteArray) (w : World) (h : shade_FromHtml.f a0 = some r) :
    Calls Try.prog 19 #[.string a0] w fun e w' => e = .returned (.string r) ∧ Below w.heap.size w w' := by
  unfold shade_FromHtml.f at h
  split at h
  · rename_i hs
    obtain rfl := Option.some.inj h
    exact FromHtml_any a0 w hs
  · cases h

end Go.Proofs.Ytbbbggcokpffnaa.Ext

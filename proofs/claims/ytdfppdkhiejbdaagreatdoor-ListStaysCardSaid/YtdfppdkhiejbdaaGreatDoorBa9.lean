import Derived.Test.YtdfppdkhiejbdaaGreatDoorBa5
import Derived.Test.YtdfppdkhiejbdaaGreatDoorBa8
import Derived.Test.YtdfppdkhiejbdaaGreatDoorBa4
import Derived.Test.YtdfppdkhiejbdaaGreatDoorBa7
import Derived.LoopN
import Derived.StillTailTactics
import Derived.RegionTactic
import Derived.Deep.RegionWith
import Derived.Deep.LoopGhost
import Derived.BigQuiet
import Derived.Shelf.Abstract
import Derived.Shelf.SlCmpFuncs.BinarySearchFunc
import Derived.Lib.AppendZerosOnto
import Derived.Lib.Overlaps
import Derived.Laws.CopyRow
import Derived.Laws.AppendOwn
import Derived.StillTail
import Derived.Deep.Quiet
section
/- Lists of items compared: the answers are 'true' where the lists are the same. -/
set_option linter.unusedVariables false
set_option linter.unusedSimpArgs false
namespace Go.Proofs.YtdfppdkhiejbdaaGreatDoor.Li
open Go.RowKit Go.Proofs.YtdfppdkhiejbdaaGreatDoor.PList Go.Proofs.YtdfppdkhiejbdaaGreatDoorW.PrintWords

theorem toList_inj {a b : ByteArray} (h : a.toList = b.toList) : a = b := by
  rw [ByteArray.toList_eq, ByteArray.toList_eq] at h
  cases a; cases b
  congr
  exact Array.ext' h

/-- Two items are not the same. -/
def neI (a b : S26) : Bool := (!((a.f0.toList) == (b.f0.toList)) || (!((a.f1) == (b.f1)) || (!((a.f2) == (b.f2)) || (!((a.f3) == (b.f3)) || (!((a.f4.toList) == (b.f4.toList)) || (!((a.f5) == (b.f5))))))))

theorem neI_iff (a b : S26) : neI a b = false ↔ a = b := by
  unfold neI
  constructor
  · intro h
    simp only [Bool.or_eq_false_iff, Bool.not_eq_false', beq_iff_eq] at h
    obtain ⟨h0, h1, h2, h3, h4, h5⟩ := h
    cases a; cases b
    simp only at h0 h1 h2 h3 h4 h5
    rw [toList_inj h0, toList_inj h4, h1, h2, h3, h5]
  · rintro rfl
    simp

theorem rd_at (xs : List S26) (i : Nat) (h : i < xs.length) : rd_T26 xs (i : Int) = xs[i] := by simp [rd_T26, h]

theorem wrap_nat {i n : Nat} (h : i < n) (hn : n ≤ 1099511627776) : wrap64 ((i : Int) + 1) = ((i + 1 : Nat) : Int) := by
  unfold wrap64
  omega

theorem drop_eq {α : Type} {xs ys : List α} {i : Nat} (h1 : i < xs.length) (h2 : i < ys.length) : xs.drop i = ys.drop i ↔ xs[i] = ys[i] ∧ xs.drop (i + 1) = ys.drop (i + 1) := by
  rw [List.drop_eq_getElem_cons h1, List.drop_eq_getElem_cons h2, List.cons.injEq]

theorem eq_tells (xs ys : List S26) (he : xs.length = ys.length) (hn : xs.length ≤ 1099511627776) (d : Nat) : ∀ (i k : Nat), i ≤ xs.length → xs.length - i = d → d < k →
    ∃ b, api_Item.l0 k xs ys xs.length i = some b ∧ (b = true ↔ xs.drop i = ys.drop i) := by
  induction d with
  | zero =>
    intro i k h1 hd hk
    obtain ⟨m, rfl⟩ : ∃ m, k = m + 1 := ⟨k - 1, by omega⟩
    refine ⟨true, by simp only [api_Item.l0]; rw [if_neg (by omega)], ?_⟩
    rw [List.drop_of_length_le (by omega), List.drop_of_length_le (by omega)]
    simp
  | succ d ih =>
    intro i k h1 hd hk
    obtain ⟨m, rfl⟩ : ∃ m, k = m + 1 := ⟨k - 1, by omega⟩
    have hlt : i < xs.length := by omega
    have hlt2 : i < ys.length := by omega
    obtain ⟨b, hb, hbi⟩ := ih (i + 1) m (by omega) (by omega) (by omega)
    simp only [api_Item.l0]
    rw [if_pos (by omega), if_pos (by omega), if_pos (by omega), if_pos (by omega), rd_at xs i hlt, rd_at ys i hlt2, wrap_nat hlt hn, hb]
    have e : ((!((xs[i].f0.toList) == (ys[i].f0.toList)) || (!((xs[i].f1) == (ys[i].f1)) || (!((xs[i].f2) == (ys[i].f2)) || (!((xs[i].f3) == (ys[i].f3)) || (!((xs[i].f4.toList) == (ys[i].f4.toList)) || (!((xs[i].f5) == (ys[i].f5))))))))) = neI xs[i] ys[i] := rfl
    rw [e, drop_eq hlt hlt2]
    cases hne : neI xs[i] ys[i] with
    | true => exact ⟨false, by simp, by
        constructor
        · intro h; cases h
        · rintro ⟨h, _⟩
          rw [(neI_iff _ _).mpr h] at hne; cases hne⟩
    | false => exact ⟨b, by simp, by rw [hbi]; exact ⟨fun h => ⟨(neI_iff _ _).mp hne, h⟩, fun h => h.2⟩⟩

theorem eq_some (xs ys : List S26) (hn : xs.length ≤ 1099511627776) (k : Nat) (hk : xs.length < k) : ∃ b, api_Item.f k xs ys = some b ∧ (b = true ↔ xs = ys) := by
  unfold api_Item.f
  by_cases he : xs.length = ys.length
  · rw [if_pos (by omega)]
    obtain ⟨b, h1, h2⟩ := eq_tells xs ys he hn xs.length 0 k (by omega) (by omega) hk
    exact ⟨b, h1, by simpa using h2⟩
  · rw [if_neg (by omega)]
    exact ⟨false, rfl, ⟨fun h => (by cases h), fun h => absurd (by rw [h]) he⟩⟩

theorem ref_tells (xs ys : List S26) (t u : Int) (he : xs.length = ys.length) (hn : xs.length ≤ 1099511627776) (d : Nat) : ∀ (i k : Nat), i ≤ xs.length → xs.length - i = d → d < k →
    ∃ b, wharfref17_Same.l0 k i xs t ys u = some b ∧ (b = true ↔ xs.drop i = ys.drop i) := by
  induction d with
  | zero =>
    intro i k h1 hd hk
    obtain ⟨m, rfl⟩ : ∃ m, k = m + 1 := ⟨k - 1, by omega⟩
    refine ⟨true, by simp only [wharfref17_Same.l0]; rw [if_neg (by omega)], ?_⟩
    rw [List.drop_of_length_le (by omega), List.drop_of_length_le (by omega)]
    simp
  | succ d ih =>
    intro i k h1 hd hk
    obtain ⟨m, rfl⟩ : ∃ m, k = m + 1 := ⟨k - 1, by omega⟩
    have hlt : i < xs.length := by omega
    have hlt2 : i < ys.length := by omega
    obtain ⟨b, hb, hbi⟩ := ih (i + 1) m (by omega) (by omega) (by omega)
    simp only [wharfref17_Same.l0]
    rw [if_pos (by omega), if_pos (by omega), if_pos (by omega), rd_at xs i hlt, rd_at ys i hlt2, wrap_nat hlt hn, hb]
    have e : ((!((xs[i].f0.toList) == (ys[i].f0.toList)) || (!((xs[i].f1) == (ys[i].f1)) || (!((xs[i].f2) == (ys[i].f2)) || (!((xs[i].f3) == (ys[i].f3)) || (!((xs[i].f4.toList) == (ys[i].f4.toList)) || (!((xs[i].f5) == (ys[i].f5))))))))) = neI xs[i] ys[i] := rfl
    rw [e, drop_eq hlt hlt2]
    cases hne : neI xs[i] ys[i] with
    | true => exact ⟨false, by simp, by
        constructor
        · intro h; cases h
        · rintro ⟨h, _⟩
          rw [(neI_iff _ _).mpr h] at hne; cases hne⟩
    | false => exact ⟨b, by simp, by rw [hbi]; exact ⟨fun h => ⟨(neI_iff _ _).mp hne, h⟩, fun h => h.2⟩⟩

theorem ref_some (xs ys : List S26) (t u : Int) (hn : xs.length ≤ 1099511627776) (k : Nat) (hk : xs.length + 1 < k) : ∃ b, wharfref17_Same.f k xs t ys u = some b ∧ (b = true ↔ xs = ys ∧ t = u) := by
  obtain ⟨m, rfl⟩ : ∃ m, k = m + 1 := ⟨k - 1, by omega⟩
  unfold wharfref17_Same.f
  simp only [wharfref17_Same.j0]
  by_cases he : xs.length = ys.length
  · rw [if_pos (by omega)]
    by_cases ht : t = u
    · rw [if_neg (by simp [ht])]
      obtain ⟨b, h1, h2⟩ := ref_tells xs ys t u he hn xs.length 0 m (by omega) (by omega) (by omega)
      exact ⟨b, h1, by rw [h2]; simp [ht]⟩
    · rw [if_pos (by simp [ht])]
      exact ⟨false, rfl, ⟨fun h => (by cases h), fun h => absurd h.2 ht⟩⟩
  · rw [if_neg (by omega), if_pos trivial]
    exact ⟨false, rfl, ⟨fun h => (by cases h), fun h => absurd (by rw [h.1]) he⟩⟩

end Go.Proofs.YtdfppdkhiejbdaaGreatDoor.Li
end

section
/- Package legacy: has and Check of an added item; package list: may. -/
set_option linter.unusedVariables false
set_option linter.unusedSimpArgs false
namespace Go.Proofs.YtdfppdkhiejbdaaGreatDoor.Li
open Go.RowKit Go.Proofs.YtdfppdkhiejbdaaGreatDoor.PList Go.Proofs.YtdfppdkhiejbdaaGreatDoorW.PrintWords

@[reducible] def nv (k : Int) (s1 s2 s3 : ByteArray) (i4 i5 i6 i7 : Int) (b8 : Bool) (v9 v10 : Value) : Value :=
  .agg #[.int .i64 k, .string s1, .string s2, .string s3, .int .i64 i4, .int .i64 i5, .int .i64 i6, .int .i64 i7, .bool b8, v9, v10]

set_option maxHeartbeats 1000000 in
set_option maxRecDepth 100000 in
theorem has_add (s1 s2 s3 : ByteArray) (i4 i5 i6 i7 : Int) (b8 : Bool) (A : Option Addr) (c : Nat) (xs : List S26) (B : Option Addr) (lb cb : Nat) (w : World) (hC : Kd.C k26 w A xs.length xs) (hs : Sm xs) :
    Calls Tryz.prog 52 #[.agg #[.int .i64 20, .string s1, .string s2, .string s3, .int .i64 i4, .int .i64 i5, .int .i64 i6, .int .i64 i7, .bool b8, .slice A xs.length c, .slice B lb cb]] w
      fun e w' => e = .returned (.tuple #[.agg #[.int .i64 20, .string ⟨#[]⟩, .string ⟨#[]⟩, .string ⟨#[]⟩, .int .i64 0, .int .i64 0, .int .i64 0, .int .i64 0, .bool false, .slice A xs.length c, .slice none 0 0], .bool (itemsB xs 1)]) ∧ Below w.heap.size w w' := by
  obtain ⟨V, hV⟩ : ∃ V, ((w.alloc (.cells #[.int .i64 20, .string s1, .string s2, .string s3, .int .i64 i4, .int .i64 i5, .int .i64 i6, .int .i64 i7, .bool b8, .slice A xs.length c, .slice B lb cb] 67)).alloc
      (.cells #[.int .i64 20, .string ⟨#[]⟩, .string ⟨#[]⟩, .string ⟨#[]⟩, .int .i64 0, .int .i64 0, .int .i64 0, .int .i64 0, .bool false, .slice none 0 0, .slice none 0 0] 67)) = V := ⟨_, rfl⟩
  have hVB : Below w.heap.size w V := by rw [← hV]; exact up (bel1 _ _) (bel1 _ _)
  have hV1 : V.heap[w.heap.size + 1]? = some (.cells #[.int .i64 20, .string ⟨#[]⟩, .string ⟨#[]⟩, .string ⟨#[]⟩, .int .i64 0, .int .i64 0, .int .i64 0, .int .i64 0, .bool false, .slice none 0 0, .slice none 0 0] 67 (0, 0)) := by
    rw [← hV, ← World.size_alloc]; exact blk_new _ _
  have HI := Lib.hid (hasMore_add s1 s2 s3 i4 i5 i6 i7 b8 A c xs B lb cb V (Kd.C_below hC hVB) hs)
  have HVB := Lib.hid hVB
  have HV := Lib.hid hV
  have HN := Lib.hid hV1
  generalize itemsB xs 1 = b at *
  clear hC hs hV hVB hV1
  go_enter Tryz.func52, Tryz.ntmps52
  go_wp2_with fail
  rw [HV.out]
  refine Calls.mono HI.out ?_
  rintro en w1 ⟨rfl, hb1⟩
  have HB1 := Lib.hid (up HVB.out hb1)
  obtain ⟨⟨z0, z1, z2, z3, z4, z5, z6, z7, z8, z9, z10⟩, hzf⟩ := cells11 (blk_below HN.out hb1)
  clear hb1 HI HVB HV HN
  go_wp2_with fail
  refine bodyPost_ret (v := .tuple #[.agg #[.int .i64 20, .string ⟨#[]⟩, .string ⟨#[]⟩, .string ⟨#[]⟩, .int .i64 0, .int .i64 0, .int .i64 0, .int .i64 0, .bool false, .slice A xs.length c, .slice none 0 0], .bool b]) ?hr rfl ?hp
  case hr =>
    simp [results, Tryz.results52, go_sem, z0, z1, z2, z3, z4, z5, z6, z7, z8, z9, z10]
  case hp =>
    refine ⟨rfl, ?_⟩
    refine (show Below w.heap.size w _ from ?_)
    repeat (with_reducible refine below_set ?_ (Nat.le_succ _))
    exact HB1.out

theorem note_same (xs : List S26) (hn : xs.length ≤ 1099511627776) :
    legacy_Same.f (xs.length + 3) 20 ⟨#[]⟩ ⟨#[]⟩ ⟨#[]⟩ 0 0 0 0 false xs [] 20 ⟨#[]⟩ ⟨#[]⟩ ⟨#[]⟩ 0 0 0 0 false xs [] = some true := by
  obtain ⟨b, h1, h2⟩ := eq_some xs xs hn (xs.length + 2) (by omega)
  obtain rfl := h2.mpr rfl
  unfold legacy_Same.f
  rw [if_pos rfl, if_pos rfl, if_pos rfl, if_pos rfl, if_pos rfl]
  simp only [legacy_Same.j0]
  rw [if_neg (by simp), if_pos trivial, if_pos trivial, if_pos (by simp), h1]
  simp [slices_Equal_int_int.f, slices_Equal_int_int.l0]

set_option maxHeartbeats 1000000 in
set_option maxRecDepth 100000 in
theorem Check_add (A : Option Addr) (c : Nat) (xs : List S26) (w : World) (hC : Kd.C k26 w A xs.length xs) (hcap : xs.length ≤ c) (hs : Sm xs) :
    Calls Tryz.prog 40 #[.agg #[.int .i64 20, .string ⟨#[]⟩, .string ⟨#[]⟩, .string ⟨#[]⟩, .int .i64 0, .int .i64 0, .int .i64 0, .int .i64 0, .bool false, .slice A xs.length c, .slice none 0 0]] w
      fun e w' => e = .returned (.int .i64 (if itemsB xs 1 then 0 else 140)) ∧ Below w.heap.size w w' := by
  obtain ⟨V, hV⟩ : ∃ V, (w.alloc (.cells #[.int .i64 20, .string ⟨#[]⟩, .string ⟨#[]⟩, .string ⟨#[]⟩, .int .i64 0, .int .i64 0, .int .i64 0, .int .i64 0, .bool false, .slice A xs.length c, .slice none 0 0] 67)) = V := ⟨_, rfl⟩
  have hVB : Below w.heap.size w V := by rw [← hV]; exact bel1 _ _
  have hV1 : V.heap[w.heap.size]? = some (.cells #[.int .i64 20, .string ⟨#[]⟩, .string ⟨#[]⟩, .string ⟨#[]⟩, .int .i64 0, .int .i64 0, .int .i64 0, .int .i64 0, .bool false, .slice A xs.length c, .slice none 0 0] 67 (0, 0)) := by
    rw [← hV]; exact blk_new _ _
  have HI := Lib.hid (has_add ⟨#[]⟩ ⟨#[]⟩ ⟨#[]⟩ 0 0 0 0 false A c xs none 0 0 V (Kd.C_below hC hVB) hs)
  have HJ := Lib.hid (fun W (h : Below w.heap.size w W) => legacy_Same.calls (xs.length + 3) 20 ⟨#[]⟩ ⟨#[]⟩ ⟨#[]⟩ 0 0 0 0 false A c xs none 0 [] 20 ⟨#[]⟩ ⟨#[]⟩ ⟨#[]⟩ 0 0 0 0 false A c xs none 0 [] true W
    (Kd.C_below hC h) hcap (Kd.C_nil _ _) (Nat.le_refl _) (Kd.C_below hC h) hcap (Kd.C_nil _ _) (Nat.le_refl _) (note_same xs hs.1))
  have HVB := Lib.hid hVB
  have HV := Lib.hid hV
  have HN := Lib.hid hV1
  generalize itemsB xs 1 = b at *
  clear hC hs hV hVB hV1
  cases b
  all_goals
    go_enter Tryz.func40, Tryz.ntmps40
    go_wp2_with fail
    rw [HV.out]
    refine Calls.mono HI.out ?_
    rintro en w1 ⟨rfl, hb1⟩
    have HB1 := Lib.hid (up HVB.out hb1)
    obtain ⟨⟨z0, z1, z2, z3, z4, z5, z6, z7, z8, z9, z10⟩, hzf⟩ := cells11 (blk_below HN.out hb1)
    have hlt : w.heap.size < w1.heap.size := Nat.lt_of_lt_of_le (blk_lt HN.out) hb1.size
    clear hb1 HI HVB HV HN
    go_wp2_with fail
  · go_ret
    exact ⟨rfl, up HB1.out (bel1 _ _)⟩
  · simp only [List.length_nil] at HJ
    refine Calls.mono (HJ.out _ (up HB1.out (bel1 _ _))) ?_
    rintro en w2 ⟨rfl, hb2⟩
    have HB2 := Lib.hid (up (up HB1.out (bel1 _ _)) hb2)
    clear hb2
    go_wp2_with fail
    go_ret
    exact ⟨rfl, HB2.out⟩

end Go.Proofs.YtdfppdkhiejbdaaGreatDoor.Li
end

section
/- Package list: may; rows of items in memory. -/
set_option linter.unusedVariables false
set_option linter.unusedSimpArgs false
namespace Go.Proofs.YtdfppdkhiejbdaaGreatDoor.Li
open Go.RowKit Go.Proofs.YtdfppdkhiejbdaaGreatDoor.PList Go.Proofs.YtdfppdkhiejbdaaGreatDoorW.PrintWords

/-- The six cells of an item that stands at a place. -/
def AtI (w : World) (ad : Addr) (x : S26) : Prop :=
  w.cell? ad = some (.string x.f0) ∧ w.cell? (ad.add 1) = some (.int .i64 x.f1) ∧ w.cell? (ad.add 2) = some (.int .i64 x.f2) ∧ w.cell? (ad.add 3) = some (.int .i64 x.f3) ∧ w.cell? (ad.add 4) = some (.string x.f4) ∧ w.cell? (ad.add 5) = some (.bool x.f5)

theorem add_add (ad : Addr) (a b : Nat) : (ad.add a).add b = ad.add (a + b) := by
  unfold Addr.add
  rcases Nat.eq_zero_or_pos a with ha | ha <;> rcases Nat.eq_zero_or_pos b with hb | hb <;> simp [ha, hb, Nat.add_assoc, Nat.pos_iff_ne_zero.mp] <;> (repeat' split) <;> simp_all <;> omega

theorem C_of_at {w : World} {ad : Addr} {xs : List S26} (hl : xs.length ≤ 1099511627776) (h : ∀ j, ∀ hj : j < xs.length, AtI w (ad.add (j * 6)) xs[j]) : Kd.C k26 w (some ad) xs.length xs := by
  refine ⟨rfl, by omega, fun _ => ⟨ad, rfl, fun j p hp => ?_⟩⟩
  obtain ⟨hj, rfl⟩ := List.getElem?_eq_some_iff.mp hp
  refine ⟨_, rfl, k26_mk w xs[j], ?_⟩
  intro i u hu
  obtain ⟨h0, h1, h2, h3, h4, h5⟩ := h j hj
  rw [show k26.sz = 6 from rfl, ← add_add]
  match i, hu with
  | 0, hu => simp at hu; subst hu; exact h0
  | 1, hu => simp at hu; subst hu; exact h1
  | 2, hu => simp at hu; subst hu; exact h2
  | 3, hu => simp at hu; subst hu; exact h3
  | 4, hu => simp at hu; subst hu; exact h4
  | 5, hu => simp at hu; subst hu; exact h5
  | i + 6, hu => simp at hu

theorem at_of_C {w : World} {A : Option Addr} {xs : List S26} (h : Kd.C k26 w A xs.length xs) (j : Nat) (hj : j < xs.length) : ∃ ad, A = some ad ∧ AtI w (ad.add (j * 6)) xs[j] := by
  obtain ⟨ad, hA, q0, q1, q2, q3, q4, q5⟩ := at_T26 h (j : Int) (by omega) (by omega)
  rw [rd_at xs j hj] at q0 q1 q2 q3 q4 q5
  simp only [Int.toNat_natCast] at q0 q1 q2 q3 q4 q5
  exact ⟨ad, hA, q0, q1, q2, q3, q4, q5⟩

theorem C_one {w : World} {g : Nat} {x : S26} (h : w.heap[g]? = some (.cells #[.string x.f0, .int .i64 x.f1, .int .i64 x.f2, .int .i64 x.f3, .string x.f4, .bool x.f5] 26 (0, 0))) : Kd.C k26 w (some ⟨g, 0, none⟩) 1 [x] := by
  refine C_of_at (xs := [x]) (by simp) ?_
  intro j hj
  obtain rfl : j = 0 := by simp at hj; exact hj
  exact ⟨blk_cell h 0, blk_cell h 1, blk_cell h 2, blk_cell h 3, blk_cell h 4, blk_cell h 5⟩

def mayB (x : S26) : Bool := itemsB [x] 1
theorem mayB_eq (x : S26) : mayB x = itemB x := by unfold mayB itemsB; simp

set_option maxHeartbeats 1000000 in
set_option maxRecDepth 100000 in
theorem may_calls (x : S26) (w : World) (h0 : x.f0.size ≤ 17592186044416) (h4 : x.f4.size ≤ 17592186044416) :
    Calls Tryz.prog 18 #[iv x] w fun e w' => e = .returned (.bool (itemB x)) ∧ Below w.heap.size w w' := by
  have hVB := up (bel1 w (ib x)) (bel1 _ (ib x))
  have HI := Lib.hid (Check_add (some ⟨w.heap.size + 1, 0, none⟩) 1 [x] _ (C_one (g := w.heap.size + 1) (by rw [← World.size_alloc w (ib x)]; exact blk_new (w.alloc (ib x)) (ib x))) (Nat.le_refl _) ⟨by simp, fun y hy => by simp at hy; subst hy; exact ⟨h0, h4⟩⟩)
  have HVB := Lib.hid hVB
  rw [← mayB_eq]
  unfold mayB
  clear hVB
  generalize itemsB [x] 1 = b at *
  simp only [List.length_cons, List.length_nil] at HI
  cases b
  all_goals
    go_enter Tryz.func18, Tryz.ntmps18
    go_wp2_with fail
    refine Calls.mono HI.out ?_
    rintro en w2 ⟨rfl, hb2⟩
    have HB2 := Lib.hid (up HVB.out hb2)
    clear hb2
    go_wp2_with fail
    go_ret
    exact ⟨rfl, HB2.out⟩

end Go.Proofs.YtdfppdkhiejbdaaGreatDoor.Li
end

section
/- Package list: places and items compared. -/
set_option linter.unusedVariables false
set_option linter.unusedSimpArgs false
namespace Go.Proofs.YtdfppdkhiejbdaaGreatDoor.Li
open Go.RowKit Go.Proofs.YtdfppdkhiejbdaaGreatDoor.PList Go.Proofs.YtdfppdkhiejbdaaGreatDoorW.PrintWords

def cmpI (a b : Int) : Int := if a < b then -1 else if b < a then 1 else 0

set_option maxHeartbeats 1000000 in
theorem isNaN_calls (a : Int) (w : World) : Calls Tryz.prog 65 #[.int .i64 a] w fun e w' => e = .returned (.bool false) ∧ w' = w := by
  go_enter Tryz.func65, Tryz.ntmps65
  go_wp2_with fail
  go_ret
  exact ⟨by simp, rfl⟩

set_option maxHeartbeats 1000000 in
theorem Compare_calls (a b : Int) (w : World) : Calls Tryz.prog 56 #[.int .i64 a, .int .i64 b] w fun e w' => e = .returned (.int .i64 (cmpI a b)) ∧ w' = w := by
  unfold cmpI
  rcases Int.lt_trichotomy a b with h | h | h
  · go_enter Tryz.func56, Tryz.ntmps56
    go_wp2_with (first | (go_at_call 65; (with_reducible refine Calls.mono (isNaN_calls _ _) ?_); rintro en w1 ⟨rfl, rfl⟩))
    go_ret
    exact ⟨by simp [h], rfl⟩
  · subst h
    go_enter Tryz.func56, Tryz.ntmps56
    go_wp2_with (first | (go_at_call 65; (with_reducible refine Calls.mono (isNaN_calls _ _) ?_); rintro en w1 ⟨rfl, rfl⟩))
    go_ret
    exact ⟨by simp, rfl⟩
  · have h2 : ¬ a < b := by omega
    go_enter Tryz.func56, Tryz.ntmps56
    go_wp2_with (first | (go_at_call 65; (with_reducible refine Calls.mono (isNaN_calls _ _) ?_); rintro en w1 ⟨rfl, rfl⟩))
    go_ret
    exact ⟨rfl, rfl⟩

def orI (a b : Int) : Int := if a = 0 then b else a

set_option maxHeartbeats 1000000 in
theorem Or_calls (a b : Int) (g : Nat) (w : World) (h0 : w.cell? ⟨g, 0, none⟩ = some (.int .i64 a)) (h1 : w.cell? ⟨g, 1, none⟩ = some (.int .i64 b)) :
    Calls Tryz.prog 55 #[.slice (some ⟨g, 0, none⟩) 2 2] w fun e w' => e = .returned (.int .i64 (orI a b)) ∧ w' = w := by
  unfold orI
  by_cases ha : a = 0
  · subst ha
    by_cases hb : b = 0
    · subst hb
      go_enter Tryz.func55, Tryz.ntmps55
      go_wp2_with fail
      refine wp_loop_rounds 3 ?_
      rw [rounds_succ]
      go_wp2_with fail
      rw [rounds_succ]
      go_wp2_with fail
      rw [rounds_succ]
      go_wp2_with fail
      go_ret
      exact ⟨rfl, rfl⟩
    · go_enter Tryz.func55, Tryz.ntmps55
      go_wp2_with fail
      refine wp_loop_rounds 3 ?_
      rw [rounds_succ]
      go_wp2_with fail
      rw [rounds_succ]
      go_wp2_with fail
      go_ret
      exact ⟨rfl, rfl⟩
  · go_enter Tryz.func55, Tryz.ntmps55
    go_wp2_with fail
    refine wp_loop_rounds 3 ?_
    rw [rounds_succ]
    go_wp2_with fail
    go_ret
    exact ⟨by simp [ha], rfl⟩

def cmpP (a b : Int) (c d : Int) : Int := orI (cmpI a c) (cmpI b d)

set_option maxHeartbeats 4000000 in
set_option maxRecDepth 100000 in
theorem compare_calls (a b c d : Int) (w : World) : Calls Tryz.prog 42 #[.agg #[.int .i64 a, .int .i64 b], .agg #[.int .i64 c, .int .i64 d]] w fun e w' => e = .returned (.int .i64 (cmpP a b c d)) ∧ Below w.heap.size w w' := by
  obtain ⟨V, hV⟩ : ∃ V, (w.alloc (.cells #[.int .i64 a, .int .i64 b] 72)).alloc (.cells #[.int .i64 c, .int .i64 d] 72) = V := ⟨_, rfl⟩
  have hVB : Below w.heap.size w V := by rw [← hV]; exact up (bel1 _ _) (bel1 _ _)
  have HV := Lib.hid hV
  have HVB := Lib.hid hVB
  have hA : V.heap[w.heap.size]? = some (.cells #[.int .i64 a, .int .i64 b] 72 (0, 0)) := by rw [← hV]; exact blk_alloc (blk_new _ _) _
  have hB : V.heap[w.heap.size + 1]? = some (.cells #[.int .i64 c, .int .i64 d] 72 (0, 0)) := by rw [← hV, ← World.size_alloc]; exact blk_new _ _
  have a0 := blk_cell hA 0
  have a1 := blk_cell hA 1
  have b0 := blk_cell hB 0
  have b1 := blk_cell hB 1
  have hsz : w.heap.size + 1 < V.heap.size := blk_lt hB
  unfold cmpP
  clear hV hVB hA hB
  go_enter Tryz.func42, Tryz.ntmps42
  go_upto_region 1 with fail
  rw [HV.out]
  have HO := Lib.hid (Or_calls (cmpI a c) (cmpI b d) V.heap.size ((V.alloc (.cells #[.int .i64 (cmpI a c), .int .i64 (cmpI b d)] 3)).drew) (blk_cell (blk_drew (blk_new V _)) 0) (blk_cell (blk_drew (blk_new V _)) 1))
  refine wp_region_still_tail 10 (by kernel_rfl) (by kernel_rfl) ?_
  simp only [List.take_succ_cons, List.take_zero, List.drop_succ_cons, List.drop_zero]
  repeat still_step
  still_call (Compare_calls _ _ _)
  repeat still_step
  still_call (Compare_calls _ _ _)
  try refine wpStill_nil ?_
  change wpList _ _ _ _ _ (World.drew _)
  go_wp2_with fail
  refine Calls.mono HO.out ?_
  rintro en w1 ⟨rfl, rfl⟩
  go_wp2_with fail
  go_ret
  exact ⟨rfl, (up HVB.out (bel1 _ _)).drew⟩

/-- Which of two items is ahead. -/
def cmpB (x y : S26) : Int := cmpP x.f1 x.f2 y.f1 y.f2

theorem at_calls (x : S26) (w : World) : Calls Tryz.prog 43 #[iv x] w fun e w' => e = .returned (.agg #[.int .i64 x.f1, .int .i64 x.f2]) ∧ Below w.heap.size w w' := by
  have HB0 := Lib.hid (up (bel1 w (ib x)) (bel1 _ (.cells #[.int .i64 x.f1, .int .i64 x.f2] 72)))
  have h := blk_new (w.alloc (ib x)) (.cells #[.int .i64 x.f1, .int .i64 x.f2] 72)
  rw [World.size_alloc] at h
  have h0 := blk_cell h 0
  have h1 := blk_cell h 1
  clear h
  go_enter Tryz.func43, Tryz.ntmps43
  go_wp2_with fail
  exact bodyPost_ret (v := .agg #[.int .i64 x.f1, .int .i64 x.f2]) (by simp [results, Tryz.results43, go_sem, h0, h1]) rfl ⟨rfl, HB0.out⟩

set_option maxHeartbeats 4000000 in
set_option maxRecDepth 100000 in
theorem compareItems_calls (x y : S26) (w : World) : Calls Tryz.prog 20 #[iv x, iv y] w fun e w' => e = .returned (.int .i64 (cmpB x y)) ∧ Below w.heap.size w w' := by
  obtain ⟨V, hV⟩ : ∃ V, (w.alloc (ib x)).alloc (ib y) = V := ⟨_, rfl⟩
  have hVB : Below w.heap.size w V := by rw [← hV]; exact up (bel1 _ _) (bel1 _ _)
  have HV := Lib.hid hV
  have HVB := Lib.hid hVB
  have hA : V.heap[w.heap.size]? = some (ib x) := by rw [← hV]; exact blk_alloc (blk_new _ _) _
  have hB : V.heap[w.heap.size + 1]? = some (ib y) := by rw [← hV, ← World.size_alloc]; exact blk_new _ _
  have HG : Hid (V.drew.heap[w.heap.size]? = some (ib x) ∧ V.drew.heap[w.heap.size + 1]? = some (ib y) ∧ Below w.heap.size w V.drew) := ⟨hA, hB, hVB.drew⟩
  have HAT : Hid (∀ (z : S26) (W : World), (W.heap[w.heap.size]? = some (ib x) ∧ W.heap[w.heap.size + 1]? = some (ib y) ∧ Below w.heap.size w W) → Calls Tryz.prog 43 #[iv z] W fun e w' => e = .returned (.agg #[.int .i64 z.f1, .int .i64 z.f2]) ∧ (w'.heap[w.heap.size]? = some (ib x) ∧ w'.heap[w.heap.size + 1]? = some (ib y) ∧ Below w.heap.size w w')) :=
    Lib.hid fun z W h => Calls.mono (at_calls z W) fun e w' ⟨he, hb⟩ => ⟨he, blk_below h.1 hb, blk_below h.2.1 hb, up h.2.2 hb⟩
  obtain ⟨a0, a1, a2, a3, a4, a5, _, _, _, _, _, _⟩ := cells6 hA
  obtain ⟨b0, b1, b2, b3, b4, b5, _, _, _, _, _, _⟩ := cells6 hB
  have hsz : w.heap.size + 1 < V.heap.size := blk_lt hB
  unfold cmpB
  clear hV hVB hA hB
  go_enter Tryz.func20, Tryz.ntmps20
  go_upto_region 1 with fail
  rw [HV.out]
  go_region_with (first
    | (go_at_call 43; (first | (with_reducible refine Calls.mono (HAT.out _ _ HG.out) ?_) | (with_reducible refine Calls.mono (HAT.out _ _ hg1) ?_)); rintro en w1 ⟨rfl, hg1⟩; obtain ⟨c0, c1, c2, c3, c4, c5, _, _, _, _, _, _⟩ := cells6 hg1.1; obtain ⟨d0, d1, d2, d3, d4, d5, _, _, _, _, _, _⟩ := cells6 hg1.2.1)
    | (go_at_call 42; (with_reducible refine Calls.mono (compare_calls _ _ _ _ _) ?_); rintro en w2 ⟨rfl, hb2⟩; have HB2 := Lib.hid (up hg1.2.2 hb2); clear hb2))
  all_goals
    go_wp2_with fail
    go_ret
    exact ⟨rfl, HB2.out⟩

end Go.Proofs.YtdfppdkhiejbdaaGreatDoor.Li
end

section
/- Package list: slices.BinarySearchFunc over items. -/
set_option linter.unusedVariables false
set_option linter.unusedSimpArgs false
namespace Go.Proofs.YtdfppdkhiejbdaaGreatDoor.Li
open Go.RowKit Go.Proofs.YtdfppdkhiejbdaaGreatDoor.PList Go.Proofs.YtdfppdkhiejbdaaGreatDoorW.PrintWords

instance : Inhabited S26 := ⟨z26⟩

/-- How many items stand ahead of x; whether one stands at its place. -/
def posB (x : S26) (xs : List S26) : Nat := xs.countP fun y => decide (cmpB y x < 0)
def hitB (x : S26) (xs : List S26) : Bool := match xs[posB x xs]? with | some y => decide (cmpB y x = 0) | none => false

/-- What stands ahead of x stands ahead of what does not. -/
def MonoB (x : S26) (xs : List S26) : Prop := ∀ a b, a ≤ b → ∀ ha : a < xs.length, ∀ hb : b < xs.length, cmpB xs[b] x < 0 → cmpB xs[a] x < 0

theorem pos_of (x : S26) (xs : List S26) (n : Nat) (hn : n ≤ xs.length) (h1 : ∀ t, t < n → ∀ h : t < xs.length, cmpB xs[t] x < 0) (h2 : ∀ t, n ≤ t → ∀ h : t < xs.length, 0 ≤ cmpB xs[t] x) : posB x xs = n := by
  refine Lib.countP_boundary _ xs n hn (fun t ht => ?_) (fun t h3 h4 => ?_)
  · rw [getElem!_pos xs t (by omega)]; exact decide_eq_true (h1 t ht (by omega))
  · rw [getElem!_pos xs t h4]; exact decide_eq_false (by have := h2 t h3 h4; omega)

/-- What holds in a search, whatever is called. -/
def Gb (w : World) (x : S26) (W : World) : Prop := W.heap[w.heap.size]? = some (ib x) ∧ Below w.heap.size w W
theorem Gb.step {w : World} {x : S26} {W W' : World} (h : Gb w x W) (hb : Below W.heap.size W W') : Gb w x W' := ⟨blk_below h.1 hb, up h.2 hb⟩
theorem Gb.drew {w : World} {x : S26} {W : World} (h : Gb w x W) : Gb w x W.drew := h.step (Below.refl _ _).drew
theorem cmp_b {w : World} {x : S26} (y z : S26) (W : World) (h : Gb w x W) :
    Calls Tryz.prog 20 #[iv y, iv z] W fun e w' => e = .returned (.int .i64 (cmpB y z)) ∧ Gb w x w' :=
  Calls.mono (compareItems_calls y z W) fun e w' ⟨he, hb⟩ => ⟨he, h.step hb⟩

set_option maxHeartbeats 4000000 in
set_option maxRecDepth 1000000 in
theorem Bin_calls (x : S26) (A : Option Addr) (c : Nat) (xs : List S26) (w : World) (hC : Kd.C k26 w A xs.length xs) (hl : xs.length ≤ 1099511627776) (hM : MonoB x xs) :
    Calls Tryz.prog 25 #[.slice A xs.length c, iv x, .func (.func 20) #[] #[]] w fun e w' => e = .returned (.tuple #[.int .i64 (posB x xs : Nat), .bool (hitB x xs)]) ∧ Below w.heap.size w w' := by
  have eg := enters_of (P := Tryz.prog) Tryz.func20 (by kernel_rfl) rfl
  have HC := Lib.hid hC
  have HM := Lib.hid hM
  clear hC hM
  obtain ⟨cnt, hcnt⟩ : ∃ n, posB x xs = n := ⟨_, rfl⟩
  obtain ⟨fin, hfin⟩ : ∃ b, hitB x xs = b := ⟨_, rfl⟩
  rw [hcnt, hfin]
  have CN := Lib.hid hcnt
  have FIN := Lib.hid hfin
  clear hcnt hfin
  go_enter Tryz.func25, Tryz.ntmps25
  go_wp2_with fail
  go_loopg [9, 10] xs.length (fun kx s9 s10 wr => ∃ lo hi : Nat, s9 = .int .i64 lo ∧ s10 = .int .i64 hi ∧ lo ≤ hi ∧ hi ≤ xs.length ∧ hi - lo ≤ kx ∧ Hid (Gb w x wr) ∧
    Hid ((∀ t, t < lo → ∀ h : t < xs.length, cmpB xs[t] x < 0) ∧ (∀ t, hi ≤ t → ∀ h : t < xs.length, 0 ≤ cmpB xs[t] x)))
  case atStart => exact ⟨0, xs.length, rfl, rfl, Nat.zero_le _, Nat.le_refl _, by omega, Lib.hid ⟨blk_new w _, bel1 _ _⟩, Lib.hid ⟨fun t ht => absurd ht (Nat.not_lt_zero _), fun t h1 h2 => by omega⟩⟩
  case round =>
    obtain ⟨lo, hi, rfl, rfl, hlh, hin, hg, HG, I⟩ := hrel
    by_cases hlt : lo < hi
    · have hmid : (lo + hi) / 2 < xs.length := by omega
      obtain ⟨y, hy⟩ : ∃ y, xs[(lo + hi) / 2] = y := ⟨_, rfl⟩
      have Y := Lib.hid hy
      obtain ⟨ad, hA, q0, q1, q2, q3, q4, q5⟩ := at_T26 (Kd.C_below HC.out HG.out.2) (((lo + hi) / 2 : Nat) : Int) (by omega) (by omega)
      subst hA
      clear q0 q1 q2 q3 q4 q5 hy
      have HGD := Lib.hid HG.out.drew
      by_cases hyx : cmpB y x < 0
      · go_upto_region 5 with fail
        refine wp_region_quiet (C := Gb w x) (by kernel_rfl) (by kernel_rfl) HGD.out ?_
        dsimp only
        repeat (first | go_big_quiet_skip | (go_big_quiet_want; go_big_quiet_op; first | go_big_quiet_on | (refine ⟨_, fun _ _ => rfl, ?_⟩; go_big_quiet_on)))
        go_big_quiet_want
        refine ⟨iv y, fun W hW => ?_, ?_⟩
        · obtain ⟨ad', hA', p0, p1, p2, p3, p4, p5⟩ := at_T26 (Kd.C_below HC.out hW.2) (((lo + hi) / 2 : Nat) : Int) (by omega) (by omega)
          rw [rd_at xs _ hmid, Y.out] at p0 p1 p2 p3 p4 p5
          simp only [Int.toNat_natCast] at p0 p1 p2 p3 p4 p5
          obtain rfl := Option.some.inj hA'
          clear hW hA'
          go_simp
        go_big_quiet_on
        try simp only [Act.put, List.setIfInBounds_toArray, List.set_cons_zero, List.set_cons_succ]
        repeat (first | go_big_quiet_skip | (go_big_quiet_want; go_big_quiet_op; first | go_big_quiet_on | (refine ⟨_, fun _ _ => rfl, ?_⟩; go_big_quiet_on)))
        go_big_quiet_want
        refine ⟨iv x, fun W hW => ?_, ?_⟩
        · obtain ⟨sa0, sa1, sa2, sa3, sa4, sa5, _, _, _, _, _, _⟩ := cells6 hW.1
          clear hW
          go_simp
        go_big_quiet_on
        try simp only [Act.put, List.setIfInBounds_toArray, List.set_cons_zero, List.set_cons_succ]
        repeat (first | go_big_quiet_skip | (go_big_quiet_want; go_big_quiet_op; first | go_big_quiet_on | (refine ⟨_, fun _ _ => rfl, ?_⟩; go_big_quiet_on)))
        go_big_quiet_want
        refine ⟨.int .i64 (cmpB y x), fun W hW => ?_, ?_⟩
        · have HCALL := Lib.hid (cmp_b y x W hW)
          clear hW
          go_simp
          exact HCALL.out
        go_big_quiet_on
        try simp only [Act.put, List.setIfInBounds_toArray, List.set_cons_zero, List.set_cons_succ]
        repeat (first | go_big_quiet_skip | (go_big_quiet_want; go_big_quiet_op; first | go_big_quiet_on | (refine ⟨_, fun _ _ => rfl, ?_⟩; go_big_quiet_on)))
        refine wpQuiet_nil ?_
        intro W hW
        have HW := Lib.hid hW
        clear hW
        go_wp2_with fail
        go_roundg (hi - ((lo + hi) / 2 + 1))
        case measure => omega
        case rel =>
          exact ⟨(lo + hi) / 2 + 1, hi, by rw [show ((lo : Int) + (hi : Int)) / 2 + 1 = (((lo + hi) / 2 + 1 : Nat) : Int) by omega], rfl, by omega, hin, Nat.le_refl _, HW,
            Lib.hid ⟨fun t ht h => HM.out t ((lo + hi) / 2) (by omega) h hmid (by rw [Y.out]; exact hyx), I.out.2⟩⟩
      · go_upto_region 5 with fail
        refine wp_region_quiet (C := Gb w x) (by kernel_rfl) (by kernel_rfl) HGD.out ?_
        dsimp only
        repeat (first | go_big_quiet_skip | (go_big_quiet_want; go_big_quiet_op; first | go_big_quiet_on | (refine ⟨_, fun _ _ => rfl, ?_⟩; go_big_quiet_on)))
        go_big_quiet_want
        refine ⟨iv y, fun W hW => ?_, ?_⟩
        · obtain ⟨ad', hA', p0, p1, p2, p3, p4, p5⟩ := at_T26 (Kd.C_below HC.out hW.2) (((lo + hi) / 2 : Nat) : Int) (by omega) (by omega)
          rw [rd_at xs _ hmid, Y.out] at p0 p1 p2 p3 p4 p5
          simp only [Int.toNat_natCast] at p0 p1 p2 p3 p4 p5
          obtain rfl := Option.some.inj hA'
          clear hW hA'
          go_simp
        go_big_quiet_on
        try simp only [Act.put, List.setIfInBounds_toArray, List.set_cons_zero, List.set_cons_succ]
        repeat (first | go_big_quiet_skip | (go_big_quiet_want; go_big_quiet_op; first | go_big_quiet_on | (refine ⟨_, fun _ _ => rfl, ?_⟩; go_big_quiet_on)))
        go_big_quiet_want
        refine ⟨iv x, fun W hW => ?_, ?_⟩
        · obtain ⟨sa0, sa1, sa2, sa3, sa4, sa5, _, _, _, _, _, _⟩ := cells6 hW.1
          clear hW
          go_simp
        go_big_quiet_on
        try simp only [Act.put, List.setIfInBounds_toArray, List.set_cons_zero, List.set_cons_succ]
        repeat (first | go_big_quiet_skip | (go_big_quiet_want; go_big_quiet_op; first | go_big_quiet_on | (refine ⟨_, fun _ _ => rfl, ?_⟩; go_big_quiet_on)))
        go_big_quiet_want
        refine ⟨.int .i64 (cmpB y x), fun W hW => ?_, ?_⟩
        · have HCALL := Lib.hid (cmp_b y x W hW)
          clear hW
          go_simp
          exact HCALL.out
        go_big_quiet_on
        try simp only [Act.put, List.setIfInBounds_toArray, List.set_cons_zero, List.set_cons_succ]
        repeat (first | go_big_quiet_skip | (go_big_quiet_want; go_big_quiet_op; first | go_big_quiet_on | (refine ⟨_, fun _ _ => rfl, ?_⟩; go_big_quiet_on)))
        refine wpQuiet_nil ?_
        intro W hW
        have HW := Lib.hid hW
        clear hW
        go_wp2_with fail
        go_roundg ((lo + hi) / 2 - lo)
        case measure => omega
        case rel =>
          exact ⟨lo, (lo + hi) / 2, rfl, by rw [show ((lo : Int) + (hi : Int)) / 2 = (((lo + hi) / 2 : Nat) : Int) by omega], by omega, by omega, Nat.le_refl _, HW,
            Lib.hid ⟨I.out.1, fun t ht h => Int.not_lt.1 fun h2 => by have := HM.out ((lo + hi) / 2) t ht hmid h h2; rw [Y.out] at this; omega⟩⟩
    · obtain rfl : hi = lo := by omega
      have ecnt : cnt = hi := by rw [← CN.out]; exact pos_of x xs hi hin I.out.1 I.out.2
      subst ecnt
      by_cases hn : cnt < xs.length
      · obtain ⟨y, hy⟩ : ∃ y, xs[cnt] = y := ⟨_, rfl⟩
        have HF : Hid (fin = decide (cmpB y x = 0)) := Lib.hid (by
          rw [← FIN.out]
          unfold hitB
          rw [CN.out, List.getElem?_eq_getElem hn, hy])
        have Y := Lib.hid hy
        obtain ⟨ad, hA, q0, q1, q2, q3, q4, q5⟩ := at_T26 (Kd.C_below HC.out HG.out.2) (cnt : Int) (by omega) (by omega)
        subst hA
        clear q0 q1 q2 q3 q4 q5 hy
        have HGD := Lib.hid HG.out.drew
        go_upto_region 8 with fail
        refine wp_region_quiet (C := Gb w x) (by kernel_rfl) (by kernel_rfl) HGD.out ?_
        dsimp only
        repeat (first | go_big_quiet_skip | (go_big_quiet_want; go_big_quiet_op; first | go_big_quiet_on | (refine ⟨_, fun _ _ => rfl, ?_⟩; go_big_quiet_on)))
        go_big_quiet_want
        refine ⟨iv y, fun W hW => ?_, ?_⟩
        · obtain ⟨ad', hA', p0, p1, p2, p3, p4, p5⟩ := at_T26 (Kd.C_below HC.out hW.2) (cnt : Int) (by omega) (by omega)
          rw [rd_at xs _ hn, Y.out] at p0 p1 p2 p3 p4 p5
          simp only [Int.toNat_natCast] at p0 p1 p2 p3 p4 p5
          obtain rfl := Option.some.inj hA'
          clear hW hA'
          go_simp
        go_big_quiet_on
        try simp only [Act.put, List.setIfInBounds_toArray, List.set_cons_zero, List.set_cons_succ]
        repeat (first | go_big_quiet_skip | (go_big_quiet_want; go_big_quiet_op; first | go_big_quiet_on | (refine ⟨_, fun _ _ => rfl, ?_⟩; go_big_quiet_on)))
        go_big_quiet_want
        refine ⟨iv x, fun W hW => ?_, ?_⟩
        · obtain ⟨sa0, sa1, sa2, sa3, sa4, sa5, _, _, _, _, _, _⟩ := cells6 hW.1
          clear hW
          go_simp
        go_big_quiet_on
        try simp only [Act.put, List.setIfInBounds_toArray, List.set_cons_zero, List.set_cons_succ]
        repeat (first | go_big_quiet_skip | (go_big_quiet_want; go_big_quiet_op; first | go_big_quiet_on | (refine ⟨_, fun _ _ => rfl, ?_⟩; go_big_quiet_on)))
        go_big_quiet_want
        refine ⟨.int .i64 (cmpB y x), fun W hW => ?_, ?_⟩
        · have HCALL := Lib.hid (cmp_b y x W hW)
          clear hW
          go_simp
          exact HCALL.out
        go_big_quiet_on
        try simp only [Act.put, List.setIfInBounds_toArray, List.set_cons_zero, List.set_cons_succ]
        repeat (first | go_big_quiet_skip | (go_big_quiet_want; go_big_quiet_op; first | go_big_quiet_on | (refine ⟨_, fun _ _ => rfl, ?_⟩; go_big_quiet_on)))
        refine wpQuiet_nil ?_
        intro W hW
        have HW := Lib.hid hW
        clear hW
        go_wp2_with fail
        go_ret2
        exact ⟨by rw [HF.out]; rfl, HW.out.2⟩
      · have HF : Hid (fin = false) := Lib.hid (by
          rw [← FIN.out]
          unfold hitB
          rw [CN.out, List.getElem?_eq_none (by omega)])
        have HGD := Lib.hid HG.out.drew
        go_upto_region 8 with fail
        refine wp_region_quiet (C := Gb w x) (by kernel_rfl) (by kernel_rfl) HGD.out ?_
        dsimp only
        repeat (first | go_big_quiet_skip | (go_big_quiet_want; go_big_quiet_op; first | go_big_quiet_on | (refine ⟨_, fun _ _ => rfl, ?_⟩; go_big_quiet_on)))
        refine wpQuiet_nil ?_
        intro W hW
        have HW := Lib.hid hW
        clear hW
        go_wp2_with fail
        go_ret2
        exact ⟨by rw [HF.out]; rfl, HW.out.2⟩

end Go.Proofs.YtdfppdkhiejbdaaGreatDoor.Li
end

section
/- Package list: rows of items that a call owns: cells, runs of append, copy, clear. -/
set_option linter.unusedVariables false
set_option linter.unusedSimpArgs false
namespace Go.Proofs.YtdfppdkhiejbdaaGreatDoor.Li
open Go.RowKit Go.Proofs.YtdfppdkhiejbdaaGreatDoor.PList Go.Proofs.YtdfppdkhiejbdaaGreatDoorW.PrintWords

def cells1 (x : S26) : List Value := [.string x.f0, .int .i64 x.f1, .int .i64 x.f2, .int .i64 x.f3, .string x.f4, .bool x.f5]
def cellsI : List S26 → List Value
  | [] => []
  | x :: t => cells1 x ++ cellsI t

theorem cells1_length (x : S26) : (cells1 x).length = 6 := rfl
theorem cellsI_length : ∀ xs : List S26, (cellsI xs).length = xs.length * 6
  | [] => rfl
  | x :: t => by simp [cellsI, cells1_length, cellsI_length t]; omega
theorem cellsI_append : ∀ xs ys : List S26, cellsI (xs ++ ys) = cellsI xs ++ cellsI ys
  | [], ys => rfl
  | x :: t, ys => by simp [cellsI, cellsI_append t ys]
theorem cells1_one (x : S26) : ∀ v ∈ cells1 x, v.oneCell' = true := by
  intro v hv
  simp only [cells1, List.mem_cons, List.not_mem_nil, or_false] at hv
  rcases hv with rfl | rfl | rfl | rfl | rfl | rfl <;> rfl
theorem cellsI_one : ∀ (xs : List S26), ∀ v ∈ cellsI xs, v.oneCell' = true
  | [], v, hv => by cases hv
  | x :: t, v, hv => by
    rw [cellsI, List.mem_append] at hv
    rcases hv with h | h
    · exact cells1_one x v h
    · exact cellsI_one t v h

theorem AtI_cells {w : World} {ad : Addr} {x : S26} (h : AtI w ad x) (i : Nat) (v : Value) (hv : (cells1 x)[i]? = some v) : w.cell? (ad.add i) = some v := by
  obtain ⟨h0, h1, h2, h3, h4, h5⟩ := h
  match i, hv with
  | 0, hv => simp [cells1] at hv; subst hv; exact h0
  | 1, hv => simp [cells1] at hv; subst hv; exact h1
  | 2, hv => simp [cells1] at hv; subst hv; exact h2
  | 3, hv => simp [cells1] at hv; subst hv; exact h3
  | 4, hv => simp [cells1] at hv; subst hv; exact h4
  | 5, hv => simp [cells1] at hv; subst hv; exact h5
  | i + 6, hv => simp [cells1] at hv

theorem cells_of_at {w : World} : ∀ (xs : List S26) (ad : Addr), (∀ j, ∀ hj : j < xs.length, AtI w (ad.add (j * 6)) xs[j]) → ∀ j v, (cellsI xs)[j]? = some v → w.cell? (ad.add j) = some v
  | [], ad, h, j, v, hv => by simp [cellsI] at hv
  | x :: t, ad, h, j, v, hv => by
    by_cases hj : j < 6
    · rw [cellsI, List.getElem?_append_left (by rw [cells1_length]; exact hj)] at hv
      have h0 := h 0 (by simp)
      rw [Nat.zero_mul] at h0
      exact AtI_cells (by simpa [Addr.add] using h0) j v hv
    · rw [cellsI, List.getElem?_append_right (by rw [cells1_length]; omega), cells1_length] at hv
      have := cells_of_at t (ad.add 6) (fun k hk => by
        have := h (k + 1) (by simp; omega)
        rw [add_add, show 6 + k * 6 = (k + 1) * 6 by omega]
        simpa using this) (j - 6) v hv
      rwa [add_add, show 6 + (j - 6) = j by omega] at this

theorem cells_of_C {w : World} {ad : Addr} {xs : List S26} (h : Kd.C k26 w (some ad) xs.length xs) : ∀ j v, (cellsI xs)[j]? = some v → w.cell? (ad.add j) = some v := by
  refine cells_of_at xs ad fun j hj => ?_
  obtain ⟨ad', hA, h2⟩ := at_of_C h j hj
  obtain rfl := Option.some.inj hA
  exact h2

theorem at_of_cells {w : World} : ∀ (xs : List S26) (ad : Addr), (∀ j v, (cellsI xs)[j]? = some v → w.cell? (ad.add j) = some v) → ∀ j, ∀ hj : j < xs.length, AtI w (ad.add (j * 6)) xs[j]
  | [], ad, h, j, hj => by simp at hj
  | x :: t, ad, h, 0, hj => by
    rw [Nat.zero_mul]
    have hq : ∀ i v, (cells1 x)[i]? = some v → w.cell? (ad.add i) = some v := fun i v hv => h i v (by
      have hi : i < (cells1 x).length := by
        rcases Nat.lt_or_ge i (cells1 x).length with h | h
        · exact h
        · rw [List.getElem?_eq_none h] at hv; cases hv
      rw [cellsI, List.getElem?_append_left hi]; exact hv)
    have e0 : ad.add 0 = ad := rfl
    rw [e0]
    exact ⟨by have := hq 0 _ rfl; rwa [e0] at this, hq 1 _ rfl, hq 2 _ rfl, hq 3 _ rfl, hq 4 _ rfl, hq 5 _ rfl⟩
  | x :: t, ad, h, j + 1, hj => by
    have := at_of_cells t (ad.add 6) (fun k v hv => by
      rw [add_add]
      refine h (6 + k) v ?_
      rw [cellsI, List.getElem?_append_right (by rw [cells1_length]; omega), cells1_length, show 6 + k - 6 = k by omega]
      exact hv) j (by simpa using hj)
    rw [add_add, show 6 + j * 6 = (j + 1) * 6 by omega] at this
    simpa using this

/-- Block g is a row of cap items' cells. -/
def RowG (w : World) (g cap : Nat) (L : List Value) : Prop := w.heap[g]? = some (.cells L.toArray 26 (0, 0)) ∧ L.length = cap * 6 ∧ cap ≤ maxLen

/-- v is a slice of the call's own (from block base on) that holds xs. -/
def OwnI (base : Nat) (w : World) (v : Value) (xs : List S26) : Prop :=
  (v = .slice none 0 0 ∧ xs = []) ∨ ∃ g cap sp, v = .slice (some ⟨g, 0, none⟩) xs.length cap ∧ base ≤ g ∧ xs.length ≤ cap ∧ RowG w g cap (cellsI xs ++ sp)

theorem OwnI.of_owns {base : Nat} {w : World} {v : Value} {xs : List S26} (h : w.ownsRow base 26 6 v xs.length (cellsI xs)) : OwnI base w v xs := by
  rcases h.2 with ⟨rfl, h0⟩ | ⟨g, cap, cur, rfl, hB, hg, hn, hc, hs, ht⟩
  · exact .inl ⟨rfl, List.length_eq_zero_iff.mp h0⟩
  · refine .inr ⟨g, cap, cur.toList.drop (xs.length * 6), rfl, hB, hn, ?_, ?_, hc⟩
    · rw [← ht, List.take_append_drop]; simpa using hg
    · rw [← ht, List.take_append_drop]; simpa using hs

theorem OwnI.owns {base : Nat} {w : World} {v : Value} {xs : List S26} (h : OwnI base w v xs) : w.ownsRow base 26 6 v xs.length (cellsI xs) := by
  rcases h with ⟨rfl, rfl⟩ | ⟨g, cap, sp, rfl, hB, hn, hg, hs, hc⟩
  · exact World.ownsRow_nil w base 26 6
  · refine ⟨cellsI_length xs, .inr ⟨g, cap, _, rfl, hB, hg, hn, hc, by simpa using hs, ?_⟩⟩
    rw [← cellsI_length xs]
    simp

theorem OwnI.kept {base : Nat} {w w' : World} {v : Value} {xs : List S26} (h : OwnI base w v xs) {row : Option Nat} (hg : w.grownBy w' row) (hne : v.ownBlock = none ∨ v.ownBlock ≠ row) : OwnI base w' v xs := .of_owns (h.owns.kept hg hne)
theorem OwnI.below {base : Nat} {w w' : World} {v : Value} {xs : List S26} (h : OwnI base w v xs) (hb : Below w.heap.size w w') : OwnI base w' v xs := by
  refine h.kept (row := none) ⟨hb.os, hb.tape, hb.output, hb.size, fun k hk _ => hb.block k hk⟩ ?_
  cases v.ownBlock <;> simp
theorem OwnI.C {base : Nat} {w : World} {v : Value} {xs : List S26} (h : OwnI base w v xs) (hl : xs.length ≤ 1099511627776) : ∃ A c, v = .slice A xs.length c ∧ xs.length ≤ c ∧ Kd.C k26 w A xs.length xs := by
  rcases h with ⟨rfl, rfl⟩ | ⟨g, cap, sp, rfl, hB, hn, hg, hs, hc⟩
  · exact ⟨none, 0, rfl, Nat.le_refl _, Kd.C_nil _ _⟩
  · refine ⟨_, cap, rfl, hn, C_of_at hl (at_of_cells xs _ fun j v hv => ?_)⟩
    rw [Addr.add_lit, Nat.zero_add]
    rw [blk_cell hg]
    have hj : j < (cellsI xs).length := by
      rcases Nat.lt_or_ge j (cellsI xs).length with h | h
      · exact h
      · rw [List.getElem?_eq_none h] at hv; cases hv
    simp [List.getElem?_append_left hj, hv]

/-- A part of a row written. -/
def splice (L : List Value) (o : Nat) (cs : List Value) : List Value := L.take o ++ cs ++ L.drop (o + cs.length)
theorem splice_eq (a b c cs : List Value) (o : Nat) (ha : a.length = o) (hb : b.length = cs.length) : splice (a ++ (b ++ c)) o cs = a ++ (cs ++ c) := by
  subst ha
  unfold splice
  rw [List.take_left, ← hb, ← List.append_assoc a b c, ← List.length_append, List.drop_left, List.append_assoc]
theorem splice_length (L : List Value) (o : Nat) (cs : List Value) (h : o + cs.length ≤ L.length) : (splice L o cs).length = L.length := by
  unfold splice
  simp only [List.length_append, List.length_take, List.length_drop]
  omega

theorem RowG.put {w : World} {g cap : Nat} {L : List Value} (h : RowG w g cap L) (o : Nat) (cs : List Value) (hf : o + cs.length ≤ L.length) : RowG (w.setRow g (splice L o cs).toArray) g cap (splice L o cs) :=
  ⟨setRow_heap w g _ _ _ _ h.1, by rw [splice_length L o cs hf]; exact h.2.1, h.2.2⟩
theorem grown_row (w : World) (g : Nat) (cs : Array Value) : w.grownBy (w.setRow g cs) (some g) :=
  ⟨rfl, rfl, rfl, by simp [World.setRow], fun k _ hk => setRow_other w g k _ (fun e => hk (by simp [e]))⟩

theorem info26 : (Tryz.prog.info? 26).map (fun i => (i.zero, i.size, i.bytes)) = some (some (.agg #[.string ⟨#[]⟩, .int .i64 0, .int .i64 0, .int .i64 0, .string ⟨#[]⟩, .bool false]), 6, 64) := by kernel_rfl

/-- copy at whatever size. -/
theorem run_copy_k {P : Program} (w : World) (dT sT ty elem : TypeId) (i0 : TypeInfo) (g o dLen dCap : Nat) (a : Addr) (sLen sCap : Nat) (cur : Array Value) (t : TypeId) (cs : List Value)
    (hu : P.underlying dT = some (.slice elem)) (hi : P.info? elem = some i0)
    (hg : w.heap[g]? = some (.cells cur t (0, 0))) (hn : cs.length = Nat.min sLen dLen * i0.size)
    (hsrc : ∀ j v, cs[j]? = some v → w.cell? (a.add j) = some v) (hfit : o + cs.length ≤ cur.size) (h1 : ∀ v ∈ cs, v.oneCell' = true) :
    (Builtin.copy_ #[dT, sT] ty #[.slice (some ⟨g, o, none⟩) dLen dCap, .slice (some a) sLen sCap]).run P w =
      .ok (goInt (Nat.min sLen dLen)) (w.setRow g (cur.toList.take o ++ cs ++ cur.toList.drop (o + cs.length)).toArray) := by
  have hl := run_loadCells_list (P := P) w a cs hsrc
  have hst := run_storeCells_at P g o t cs 0 cur w hg (by simpa using hfit) h1
  rw [hn] at hl
  simp only [Nat.add_zero] at hst
  simp [Builtin.copy_, run_underlying hu, Builtin.lenOf, Builtin.firstCells, sizeOf, typeInfo, hi, hl, hst]

theorem copyI {w : World} {g cap : Nat} {L : List Value} (h : RowG w g cap L) (ty : TypeId) (o dLen dCap : Nat) (a : Addr) (sLen sCap : Nat) (ys : List S26) (hn : ys.length = Nat.min sLen dLen)
    (hsrc : ∀ j v, (cellsI ys)[j]? = some v → w.cell? (a.add j) = some v) (hfit : o + ys.length * 6 ≤ L.length) :
    (Builtin.copy_ #[22, 22] ty #[.slice (some ⟨g, o, none⟩) dLen dCap, .slice (some a) sLen sCap]).run Tryz.prog w = .ok (goInt (Nat.min sLen dLen)) (w.setRow g (splice L o (cellsI ys)).toArray) := by
  obtain ⟨i0, hi0, hz, hs, hb⟩ := info_parts info26
  have := run_copy_k (P := Tryz.prog) w _ 22 ty 26 i0 g o dLen dCap a sLen sCap L.toArray 26 (cellsI ys) Tryz.underlying22 hi0 h.1 (by rw [hs, cellsI_length, hn]) hsrc (by rw [cellsI_length]; simpa using hfit) (cellsI_one ys)
  simpa [splice] using this

/-- append within the row. -/
theorem appendI {w : World} {g cap : Nat} {L : List Value} (h : RowG w g cap L) (ty : TypeId) (n : Nat) (a : Addr) (m c : Nat) (ys : List S26) (hm : ys.length = m)
    (hsrc : ∀ j v, (cellsI ys)[j]? = some v → w.cell? (a.add j) = some v) (hroom : n + m ≤ cap) :
    (Builtin.append_ #[22, 22] ty #[.slice (some ⟨g, 0, none⟩) n cap, .slice (some a) m c]).run Tryz.prog w = .ok (.slice (some ⟨g, 0, none⟩) (n + m) cap) (w.setRow g (splice L (n * 6) (cellsI ys)).toArray) := by
  obtain ⟨i0, hi0, hz, hs, hb⟩ := info_parts info26
  have := run_append_room (P := Tryz.prog) w 22 ty 26 i0 Tryz.underlying22 hi0 g n cap L.toArray h.1 a m c (cellsI ys) (by rw [hs, cellsI_length, hm]) hsrc (cellsI_one ys) hroom (by rw [hs, cellsI_length, hm]; simp [h.2.1]; omega)
  rw [hs] at this
  simpa [splice] using this

def zer6 : List Value := [.string ⟨#[]⟩, .int .i64 0, .int .i64 0, .int .i64 0, .string ⟨#[]⟩, .bool false]
theorem zero_item (w : World) : (zeroValue 26).run Tryz.prog w = .ok (.agg zer6.toArray) w := by kernel_rfl
theorem zer6_one : ∀ v ∈ zer6, v.oneCell' = true := by
  intro v hv
  simp only [zer6, List.mem_cons, List.not_mem_nil, or_false] at hv
  rcases hv with rfl | rfl | rfl | rfl | rfl | rfl <;> rfl

/-- One item cleared. -/
theorem clearI {w : World} {g cap : Nat} {L : List Value} (h : RowG w g cap L) (ty : TypeId) (n c : Nat) (hn : n + 1 ≤ cap) :
    (Builtin.clear_ #[22] ty #[.slice (some ⟨g, n * 6, none⟩) 1 c]).run Tryz.prog w = .ok (.tuple #[]) (w.setRow g (splice L (n * 6) zer6).toArray) := by
  have hst := run_storeCells_at Tryz.prog g (n * 6) 26 zer6 0 L.toArray w h.1 (by simp [zer6, h.2.1]; omega) zer6_one
  simp only [Nat.add_zero] at hst
  have hzc : (Builtin.zeroCells #[Value.string ⟨#[]⟩, .int .i64 0, .int .i64 0, .int .i64 0, .string ⟨#[]⟩, .bool false] 1).toList = zer6 := by
    simp only [Builtin.zeroCells, Array.toList_map, Array.toList_range]
    rfl
  have hz := zero_item w
  unfold zer6 at hz
  simp [Builtin.clear_, run_underlying Tryz.underlying22, hz, Value.cells, hzc, hst, splice]

end Go.Proofs.YtdfppdkhiejbdaaGreatDoor.Li
end

section
/- A region that draws its order: operations that are quiet in a class of worlds, then a forced tail (turned from the kit's proof for one world: Derived/StillTail, by Derived/Deep/Quiet's words). -/
set_option linter.unusedVariables false
namespace Go.Proofs.YtdfppdkhiejbdaaGreatDoor.QT

section
variable {P : Program} {ops : Array Oper} {md : Region.Mode} {C : World → Prop}

def wpAnyLQ (P : Program) (md : Region.Mode) (ops : Array Oper) (C : World → Prop) (n : Nat) (L : Array Bool → Act → Prop) : Nat → Array Bool → Act → Prop
  | 0, listed, a => L listed a
  | f + 1, listed, a => Region.ready md ops listed ≠ [] ∧ ∀ i ∈ Region.ready md ops listed, i < n ∧ qOp P ops C i (wpAnyLQ P md ops C n L f (listed.setIfInBounds i true)) a

theorem wpAny_of_headQ {n g : Nat} {L : Array Bool → Act → Prop} {Q' : Exit → Act → World → Prop} (hL : ∀ listed a W, C W → L listed a → wpAny P md ops Q' g listed a W) :
    ∀ (f : Nat) (listed : Array Bool) (a : Act) (W : World), C W → wpAnyLQ P md ops C n L f listed a → wpAny P md ops Q' (f + g) listed a W
  | 0, listed, a, W, hW, h => by rw [Nat.zero_add]; exact hL _ _ W hW h
  | f + 1, listed, a, W, hW, h => by
    rw [show f + 1 + g = (f + g) + 1 by omega]
    exact ⟨fun h0 => absurd h0 h.1, fun i hi => wpOp_of_qOp hW (fun a' w' hw' h' => wpAny_of_headQ hL f _ a' w' hw' h') (h.2 i hi).2⟩

theorem wpAnyLQ_first {n i : Nat} {oi : Oper} {v : Value} {L : Array Bool → Act → Prop} (hi : ops[i]? = some oi) (hsel : ∀ (j : Nat) (o : Oper) cs b, ops[j]? = some o → o.op ≠ .select cs b)
    (hs : Region.sinkB md ops n = true) (hc : Region.chainB md ops n = true) (hn : n < ops.size) (hin : i < n)
    (hdone : ∀ listed a, L listed a → ∀ j ∈ Region.ready md ops listed, n ≤ j) :
    ∀ (f : Nat) (listed : Array Bool) (a : Act), HeadInv md ops n listed →
      (∀ j oj, ops[j]? = some oj → j ≠ i → listed.getD j true = false → (∀ e ∈ oj.after, Region.binds md e = true → e.on ≠ i) → oi.apart ops oj = true) →
      i ∈ Region.ready md ops listed → YieldsIn P ops C oi v a →
      wpAnyLQ P md ops C n L f (listed.setIfInBounds i true) (a.put oi.dst v) → wpAnyLQ P md ops C n L (f + 1) listed a := by
  intro f
  induction f with
  | zero =>
    intro listed a inv _ hr hy H
    have hun := (mem_ready.1 hr).1
    refine ⟨fun h => (by rw [h] at hr; cases hr), fun j hj => ?_⟩
    have hjn : j < n := by
      rcases Nat.lt_or_ge j n with h | h
      · exact h
      · exact absurd hj (tail_waits hs hc hn inv _ i rfl hin hun j h)
    refine ⟨hjn, ?_⟩
    by_cases hji : j = i
    · subst hji; exact hy.qOp hi H
    · have := hdone _ _ H j (ready_mono hj hji)
      omega
  | succ f ih =>
    intro listed a inv hfree hr hy H
    have hun := (mem_ready.1 hr).1
    refine ⟨fun h => (by rw [h] at hr; cases hr), fun j hj => ?_⟩
    have hjn : j < n := by
      rcases Nat.lt_or_ge j n with h | h
      · exact h
      · exact absurd hj (tail_waits hs hc hn inv _ i rfl hin hun j h)
    refine ⟨hjn, ?_⟩
    by_cases hji : j = i
    · subst hji; exact hy.qOp hi H
    · have h1 := (H.2 j (ready_mono hj hji)).2
      obtain ⟨hjun, oj, hoj, hall⟩ := mem_ready.1 hj
      have hnot : ∀ e ∈ oj.after, Region.binds md e = true → e.on ≠ i := fun e he hb heq => by
        have h1 := hall e he hb
        rw [heq, getD_both hun] at h1
        cases h1
      have h2 := qOp_put hoj (hfree j oj hoj hji hjun hnot) (fun cs b => hsel i oi cs b hi) (fun cs b => hsel j oj cs b hoj) hy h1
      have hfree' : ∀ k ok, ops[k]? = some ok → k ≠ i → (listed.setIfInBounds j true).getD k true = false →
          (∀ e ∈ ok.after, Region.binds md e = true → e.on ≠ i) → oi.apart ops ok = true := fun k ok hk hki hun hno => by
        refine hfree k ok hk hki ?_ hno
        by_cases hjk : j = k
        · subst hjk; exact hjun
        · rw [getD_set_ne true hjk] at hun; exact hun
      refine qOp_mono (fun a' h3 => ih (listed.setIfInBounds j true) a' (inv.set hj hjn) hfree' (ready_mono hr (Ne.symm hji)) h3.1 ?_) h2
      rw [Array.setIfInBounds_comm _ _ hji]
      exact h3.2

theorem wpAnyLQ_lex {n g : Nat} {Lq : Act → Prop} (hsel : Region.noSelect ops = true) (hs : Region.sinkB md ops n = true) (hc : Region.chainB md ops n = true) (hn : n < ops.size) :
    ∀ (l : List Oper) (k : Nat) (listed : Array Bool) (a : Act), (∀ j, j < l.length → l[j]? = ops[k + j]?) → k + l.length = n → HeadInv md ops n listed →
    Region.lexHead md ops g l.length k listed = true → wpQuiet P ops C Lq l a →
    wpAnyLQ P md ops C n (fun listed' a' => Region.seqB md ops g n listed' = true ∧ Lq a') l.length listed a
  | [], k, listed, a, _, hk, _, hB, h => by
    have : k = n := by simpa using hk
    subst this
    exact ⟨by simpa [Region.lexHead] using hB, h⟩
  | o :: l, k, listed, a, hl, hk, inv, hB, h => by
    have h0 : ops[k]? = some o := by simpa using (hl 0 (by simp)).symm
    simp only [List.length_cons, Region.lexHead, Bool.and_eq_true] at hB
    obtain ⟨⟨hr, hf⟩, hB'⟩ := hB
    have hkn : k < n := by simp only [List.length_cons] at hk; omega
    have hr' : k ∈ Region.ready md ops listed := by simpa using hr
    have hst : qOp P ops C k (wpQuiet P ops C Lq l) a := by unfold qOp; simp only [h0]; exact h
    obtain ⟨v, hy, hK⟩ := yieldsIn_of_qOp h0 hst
    exact wpAnyLQ_first h0 (Region.noSelect_spec hsel) hs hc hn hkn (fun listed' a' hL => seqB_ready hL.1) l.length listed a inv (Region.free_spec h0 hf) hr' hy
      (wpAnyLQ_lex hsel hs hc hn l (k + 1) _ _ (fun j hj => by have := hl (j + 1) (by simp; omega); simpa [Nat.add_assoc, Nat.add_comm 1 j] using this) (by simp only [List.length_cons] at hk; omega) (inv.set hr' hkn) hB' hK)

/-- The first n operations are quiet in the class C; what is behind them comes in the order of the text. -/
theorem wp_region_quiet_tail {id : Nat} {Q : Exit → Act → World → Prop} {a : Act} {w : World} {l : List Oper} (n : Nat) (hm : P.follows .mixedOrders = true) (hB : Region.lexTailB .any l.toArray n = true) (hC : C w.drew)
    (h : wpQuiet P l.toArray C (fun a' => ∀ W, C W → wpList P l.toArray Q (l.drop n) a' W) (l.take n) a) : (Code.region id l.toArray true).wp P Q a w := by
  simp only [Region.lexTailB, Bool.and_eq_true, decide_eq_true_eq] at hB
  obtain ⟨⟨⟨⟨hsel, hn⟩, hs⟩, hc⟩, hlex⟩ := hB
  have hn' : n < l.length := by simpa using hn
  have htl : (l.take n).length = n := by simp; omega
  have hdl : (l.drop n).length = l.toArray.size - n := by simp
  have inv0 : HeadInv .any l.toArray n (Array.replicate l.toArray.size false) :=
    ⟨by simp, fun j oj _ hl => (by rw [getD_replicate_false] at hl; cases hl), fun t _ ht => getD_in (by simpa using ht) (getD_replicate_false _ _)⟩
  have H := wpAnyLQ_lex (md := .any) (g := l.toArray.size - n) hsel hs hc hn (l.take n) 0 _ a (fun j hj => by
    have hj' : j < n := by rw [htl] at hj; exact hj
    simp [hj']) (by simpa using htl) inv0 (by rw [htl]; exact hlex) h
  refine wp_region_any hm ?_
  have := wpAny_of_headQ (Q' := Q) (g := l.toArray.size - n) (fun listed a' W hW hL => by
    have := wpAny_of_seq (md := .any) (Q' := Q) (l.drop n) n listed a' W (fun j => by simp [List.getElem?_drop]) (by rw [hdl]; exact hL.1) (hL.2 W hW)
    rwa [hdl] at this) _ _ _ _ hC H
  rw [htl, show n + (l.toArray.size - n) = l.toArray.size by omega] at this
  exact this
end
end Go.Proofs.YtdfppdkhiejbdaaGreatDoor.QT
end

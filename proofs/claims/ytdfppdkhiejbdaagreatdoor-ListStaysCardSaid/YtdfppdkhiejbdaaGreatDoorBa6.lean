import Derived.Test.YtdfppdkhiejbdaaGreatDoorBa0
import Derived.Test.YtdfppdkhiejbdaaGreatDoorBa5
/- For each Go function named below: a Lean function with the same answers, and the proof that the call gives them. Conditions: those that each theorem states. (Written for this claim by a program of this session, wip/printx.py, over the kit's printer.) -/
namespace Go.Proofs.YtdfppdkhiejbdaaGreatDoor.PList
open Go.RowKit Go.Proofs.YtdfppdkhiejbdaaGreatDoorW.PrintWords Go.Proofs.YtdfppdkhiejbdaaGreatDoorW.PrintLast Go.Proofs.YtdfppdkhiejbdaaGreatDoorW.PrintMore
attribute [local go_sem] max2_int min2_int max_two min_two max_three min_three max_four min_four   -- for this text's walks alone
set_option linter.unusedVariables false
set_option linter.unusedSimpArgs false

/-! ### legacy_Same: function 53 -/
def legacy_Same.j0 : Nat → Bool → Int → ByteArray → ByteArray → ByteArray → Int → Int → Int → Int → Bool → List (S26) → List Int → Int → ByteArray → ByteArray → ByteArray → Int → Int → Int → Int → Bool → List (S26) → List Int → Option (Bool)
  | 0, _, _, _, _, _, _, _, _, _, _, _, _, _, _, _, _, _, _, _, _, _, _, _ => none
  | k + 1, x44, x136000, x136001, x136002, x136003, x136004, x136005, x136006, x136007, x136008, x136009, x136010, x137000, x137001, x137002, x137003, x137004, x137005, x137006, x137007, x137008, x137009, x137010 => if x44 = true then (some false) else (if x136006 = x137006 then (if x136007 = x137007 then (if (x136008 == x137008) = true then ((api_Item.f k x136009 x137009).bind fun t137 => (if t137 = true then ((slices_Equal_int_int.f k x136010 x137010).bind fun t138 => (some t138)) else (some false))) else (some false)) else (some false)) else (some false))
def legacy_Same.f (k : Nat) (a0_0 : Int) (a0_1 : ByteArray) (a0_2 : ByteArray) (a0_3 : ByteArray) (a0_4 : Int) (a0_5 : Int) (a0_6 : Int) (a0_7 : Int) (a0_8 : Bool) (l0_9 : List (S26)) (l0_10 : List Int) (a1_0 : Int) (a1_1 : ByteArray) (a1_2 : ByteArray) (a1_3 : ByteArray) (a1_4 : Int) (a1_5 : Int) (a1_6 : Int) (a1_7 : Int) (a1_8 : Bool) (l1_9 : List (S26)) (l1_10 : List Int) : Option (Bool) := if a0_0 = a1_0 then (if a0_1.toList = a1_1.toList then (if a0_2.toList = a1_2.toList then (if a0_3.toList = a1_3.toList then (if a0_4 = a1_4 then (legacy_Same.j0 k (a0_5 != a1_5) a0_0 a0_1 a0_2 a0_3 a0_4 a0_5 a0_6 a0_7 a0_8 l0_9 l0_10 a1_0 a1_1 a1_2 a1_3 a1_4 a1_5 a1_6 a1_7 a1_8 l1_9 l1_10) else (legacy_Same.j0 k true a0_0 a0_1 a0_2 a0_3 a0_4 a0_5 a0_6 a0_7 a0_8 l0_9 l0_10 a1_0 a1_1 a1_2 a1_3 a1_4 a1_5 a1_6 a1_7 a1_8 l1_9 l1_10)) else (legacy_Same.j0 k true a0_0 a0_1 a0_2 a0_3 a0_4 a0_5 a0_6 a0_7 a0_8 l0_9 l0_10 a1_0 a1_1 a1_2 a1_3 a1_4 a1_5 a1_6 a1_7 a1_8 l1_9 l1_10)) else (legacy_Same.j0 k true a0_0 a0_1 a0_2 a0_3 a0_4 a0_5 a0_6 a0_7 a0_8 l0_9 l0_10 a1_0 a1_1 a1_2 a1_3 a1_4 a1_5 a1_6 a1_7 a1_8 l1_9 l1_10)) else (legacy_Same.j0 k true a0_0 a0_1 a0_2 a0_3 a0_4 a0_5 a0_6 a0_7 a0_8 l0_9 l0_10 a1_0 a1_1 a1_2 a1_3 a1_4 a1_5 a1_6 a1_7 a1_8 l1_9 l1_10)) else (legacy_Same.j0 k true a0_0 a0_1 a0_2 a0_3 a0_4 a0_5 a0_6 a0_7 a0_8 l0_9 l0_10 a1_0 a1_1 a1_2 a1_3 a1_4 a1_5 a1_6 a1_7 a1_8 l1_9 l1_10)
theorem legacy_Same.mono_l : ∀ k, (∀ y0 y1 y2 y3 y4 y5 y6 y7 y8 y9 y10 y11 y12 y13 y14 y15 y16 y17 y18 y19 y20 y21 y22, LeO (legacy_Same.j0 k y0 y1 y2 y3 y4 y5 y6 y7 y8 y9 y10 y11 y12 y13 y14 y15 y16 y17 y18 y19 y20 y21 y22) (legacy_Same.j0 (k + 1) y0 y1 y2 y3 y4 y5 y6 y7 y8 y9 y10 y11 y12 y13 y14 y15 y16 y17 y18 y19 y20 y21 y22))
  | 0 => fun _ _ _ _ _ _ _ _ _ _ _ _ _ _ _ _ _ _ _ _ _ _ _ r h => by simp [legacy_Same.j0] at h
  | k + 1 => by
    have ih0 := legacy_Same.mono_l k
    · intro y0 y1 y2 y3 y4 y5 y6 y7 y8 y9 y10 y11 y12 y13 y14 y15 y16 y17 y18 y19 y20 y21 y22
      unfold legacy_Same.j0
      repeat' first
      | (with_reducible exact ih0 _ _ _ _ _ _ _ _ _ _ _ _ _ _ _ _ _ _ _ _ _ _ _)
      | (with_reducible exact api_Item.mono _ _ _)
      | (with_reducible exact slices_Equal_int_int.mono _ _ _)
      | (with_reducible exact LeO.refl _)
      | (with_reducible exact LeO.none _)
      | (with_reducible refine LeO.ite ?_ ?_)
      | (with_reducible refine LeO.bind ?_ (fun _ => ?_))
      | exact ih0 _ _ _ _ _ _ _ _ _ _ _ _ _ _ _ _ _ _ _ _ _ _ _
      | exact api_Item.mono _ _ _
      | exact slices_Equal_int_int.mono _ _ _
      | exact LeO.none _
      | refine LeO.ite ?_ ?_
      | refine LeO.bind ?_ (fun _ => ?_)
theorem legacy_Same.mono : ∀ a0 a1 a2 a3 a4 a5 a6 a7 a8 a9 a10 a11 a12 a13 a14 a15 a16 a17 a18 a19 a20 a21 k, LeO (legacy_Same.f k a0 a1 a2 a3 a4 a5 a6 a7 a8 a9 a10 a11 a12 a13 a14 a15 a16 a17 a18 a19 a20 a21) (legacy_Same.f (k + 1) a0 a1 a2 a3 a4 a5 a6 a7 a8 a9 a10 a11 a12 a13 a14 a15 a16 a17 a18 a19 a20 a21) := by
  intro a0 a1 a2 a3 a4 a5 a6 a7 a8 a9 a10 a11 a12 a13 a14 a15 a16 a17 a18 a19 a20 a21 k
  have ih0 := legacy_Same.mono_l k
  unfold legacy_Same.f
  repeat' first
      | (with_reducible exact ih0 _ _ _ _ _ _ _ _ _ _ _ _ _ _ _ _ _ _ _ _ _ _ _)
      | (with_reducible exact api_Item.mono _ _ _)
      | (with_reducible exact slices_Equal_int_int.mono _ _ _)
      | (with_reducible exact LeO.refl _)
      | (with_reducible exact LeO.none _)
      | (with_reducible refine LeO.ite ?_ ?_)
      | (with_reducible refine LeO.bind ?_ (fun _ => ?_))
      | exact ih0 _ _ _ _ _ _ _ _ _ _ _ _ _ _ _ _ _ _ _ _ _ _ _
      | exact api_Item.mono _ _ _
      | exact slices_Equal_int_int.mono _ _ _
      | exact LeO.none _
      | refine LeO.ite ?_ ?_
      | refine LeO.bind ?_ (fun _ => ?_)
set_option maxHeartbeats 8000000 in
set_option maxRecDepth 100000 in
theorem legacy_Same.calls (k : Nat) (a0_0 : Int) (a0_1 : ByteArray) (a0_2 : ByteArray) (a0_3 : ByteArray) (a0_4 : Int) (a0_5 : Int) (a0_6 : Int) (a0_7 : Int) (a0_8 : Bool) (A0_9 : Option Addr) (c0_9 : Nat) (l0_9 : List (S26)) (A0_10 : Option Addr) (c0_10 : Nat) (l0_10 : List Int) (a1_0 : Int) (a1_1 : ByteArray) (a1_2 : ByteArray) (a1_3 : ByteArray) (a1_4 : Int) (a1_5 : Int) (a1_6 : Int) (a1_7 : Int) (a1_8 : Bool) (A1_9 : Option Addr) (c1_9 : Nat) (l1_9 : List (S26)) (A1_10 : Option Addr) (c1_10 : Nat) (l1_10 : List Int) (r : Bool) (w : World) (hr0_9 : Kd.C k26 w A0_9 l0_9.length l0_9) (hc0_9 : l0_9.length ≤ c0_9) (hr0_10 : Kd.C (Kd.int .i64) w A0_10 l0_10.length l0_10) (hc0_10 : l0_10.length ≤ c0_10) (hr1_9 : Kd.C k26 w A1_9 l1_9.length l1_9) (hc1_9 : l1_9.length ≤ c1_9) (hr1_10 : Kd.C (Kd.int .i64) w A1_10 l1_10.length l1_10) (hc1_10 : l1_10.length ≤ c1_10) (h : legacy_Same.f k a0_0 a0_1 a0_2 a0_3 a0_4 a0_5 a0_6 a0_7 a0_8 l0_9 l0_10 a1_0 a1_1 a1_2 a1_3 a1_4 a1_5 a1_6 a1_7 a1_8 l1_9 l1_10 = some r) :
    Calls Tryz.prog 53 #[.agg #[.int .i64 a0_0, .string a0_1, .string a0_2, .string a0_3, .int .i64 a0_4, .int .i64 a0_5, .int .i64 a0_6, .int .i64 a0_7, .bool a0_8, .slice A0_9 l0_9.length c0_9, .slice A0_10 l0_10.length c0_10], .agg #[.int .i64 a1_0, .string a1_1, .string a1_2, .string a1_3, .int .i64 a1_4, .int .i64 a1_5, .int .i64 a1_6, .int .i64 a1_7, .bool a1_8, .slice A1_9 l1_9.length c1_9, .slice A1_10 l1_10.length c1_10]] w fun e w' => e = .returned (.bool r) ∧ Below w.heap.size w w' := by
  have hu67 := Tryz.underlying67
  have HR0_9 := Aside0.mk hr0_9
  have HC0_9 := Aside0.mk hc0_9
  clear hr0_9 hc0_9
  have HR0_10 := Aside0.mk hr0_10
  have HC0_10 := Aside0.mk hc0_10
  clear hr0_10 hc0_10
  have HR1_9 := Aside0.mk hr1_9
  have HC1_9 := Aside0.mk hc1_9
  clear hr1_9 hc1_9
  have HR1_10 := Aside0.mk hr1_10
  have HC1_10 := Aside0.mk hc1_10
  clear hr1_10 hc1_10
  have HB := Aside0.mk (Below.refl w.heap.size w)
  have H : (if a0_0 = a1_0 then (if a0_1.toList = a1_1.toList then (if a0_2.toList = a1_2.toList then (if a0_3.toList = a1_3.toList then (if a0_4 = a1_4 then (legacy_Same.j0 k (a0_5 != a1_5) a0_0 a0_1 a0_2 a0_3 a0_4 a0_5 a0_6 a0_7 a0_8 l0_9 l0_10 a1_0 a1_1 a1_2 a1_3 a1_4 a1_5 a1_6 a1_7 a1_8 l1_9 l1_10) else (legacy_Same.j0 k true a0_0 a0_1 a0_2 a0_3 a0_4 a0_5 a0_6 a0_7 a0_8 l0_9 l0_10 a1_0 a1_1 a1_2 a1_3 a1_4 a1_5 a1_6 a1_7 a1_8 l1_9 l1_10)) else (legacy_Same.j0 k true a0_0 a0_1 a0_2 a0_3 a0_4 a0_5 a0_6 a0_7 a0_8 l0_9 l0_10 a1_0 a1_1 a1_2 a1_3 a1_4 a1_5 a1_6 a1_7 a1_8 l1_9 l1_10)) else (legacy_Same.j0 k true a0_0 a0_1 a0_2 a0_3 a0_4 a0_5 a0_6 a0_7 a0_8 l0_9 l0_10 a1_0 a1_1 a1_2 a1_3 a1_4 a1_5 a1_6 a1_7 a1_8 l1_9 l1_10)) else (legacy_Same.j0 k true a0_0 a0_1 a0_2 a0_3 a0_4 a0_5 a0_6 a0_7 a0_8 l0_9 l0_10 a1_0 a1_1 a1_2 a1_3 a1_4 a1_5 a1_6 a1_7 a1_8 l1_9 l1_10)) else (legacy_Same.j0 k true a0_0 a0_1 a0_2 a0_3 a0_4 a0_5 a0_6 a0_7 a0_8 l0_9 l0_10 a1_0 a1_1 a1_2 a1_3 a1_4 a1_5 a1_6 a1_7 a1_8 l1_9 l1_10)) = some r := h
  clear h
  have HC3 := Aside0.mk H
  clear H
  go_enter Tryz.func53, Tryz.ntmps53
  go_upto_region 1 with (first | ((with_reducible refine gate_dst (N := 2) rfl ?_); refine box_event ?hg (N := 2) ?hd (cs := #[.int .i64 a0_0, .string a0_1, .string a0_2, .string a0_3, .int .i64 a0_4, .int .i64 a0_5, .int .i64 a0_6, .int .i64 a0_7, .bool a0_8, .slice A0_9 l0_9.length c0_9, .slice A0_10 l0_10.length c0_10]) (t := 67) ?hr ?_; (case hd => rfl); (case hg => rfl); (case hr => first | (go_simp; done) | (go_simp; rfl)); intro gb135 hg w4 hbox hb; have n0_ := Aside0.mk (below_step (by repeat (first | (with_reducible first | exact HB.out | apply below_alloc | apply pw_below_drewN | apply below_drew1) | exact HB.out)) hb); have n1_ := Aside0.mk (hbox); have n2_ := Aside0.mk ((by rw [hg]; exact (below_size (by repeat (first | (with_reducible first | exact HB.out | apply below_alloc | apply pw_below_drewN | apply below_drew1) | exact HB.out))) : w.heap.size ≤ gb135)); have n3_ := Aside0.mk ((by rw [hg]; exact (below_size (by repeat (first | (with_reducible first | exact HB.out | apply below_alloc | apply pw_below_drewN | apply below_drew1) | exact HB.out))) : w.heap.size ≤ gb135)); clear HB; have HB := n0_; have BK135 := n1_; have GW135 := n2_; have GE135 := n3_; clear n0_ n1_ n2_ n3_; clear hb hbox hg) | ((with_reducible refine gate_dst (N := 3) rfl ?_); refine box_event ?hg (N := 3) ?hd (cs := #[.int .i64 a1_0, .string a1_1, .string a1_2, .string a1_3, .int .i64 a1_4, .int .i64 a1_5, .int .i64 a1_6, .int .i64 a1_7, .bool a1_8, .slice A1_9 l1_9.length c1_9, .slice A1_10 l1_10.length c1_10]) (t := 67) ?hr ?_; (case hd => rfl); (case hg => rfl); (case hr => first | (go_simp; done) | (go_simp; rfl)); intro gb136 hg w5 hbox hb; have n0_ := Aside0.mk (blk_below (g := gb135) (o := .cells #[.int .i64 a0_0, .string a0_1, .string a0_2, .string a0_3, .int .i64 a0_4, .int .i64 a0_5, .int .i64 a0_6, .int .i64 a0_7, .bool a0_8, .slice A0_9 l0_9.length c0_9, .slice A0_10 l0_10.length c0_10] 67 (0, 0)) (by (with_reducible repeat (first | refine blk_drewN ?_ _ | refine blk_drew ?_ | refine blk_alloc ?_ _)); exact BK135.out) hb); have n1_ := Aside0.mk (below_step (by repeat (first | (with_reducible first | exact HB.out | apply below_alloc | apply pw_below_drewN | apply below_drew1 | refine below_set ?_ GE135.out) | exact HB.out)) hb); have n2_ := Aside0.mk (hbox); have n3_ := Aside0.mk ((by rw [hg]; exact (below_size (by repeat (first | (with_reducible first | exact HB.out | apply below_alloc | apply pw_below_drewN | apply below_drew1 | refine below_set ?_ GE135.out) | exact HB.out))) : w.heap.size ≤ gb136)); have n4_ := Aside0.mk ((by rw [hg]; exact (below_size (by repeat (first | (with_reducible first | exact HB.out | apply below_alloc | apply pw_below_drewN | apply below_drew1 | refine below_set ?_ GE135.out) | exact HB.out))) : w.heap.size ≤ gb136)); have n5_ := Aside0.mk ((by rw [hg]; exact Nat.ne_of_lt (blk_lt (g := gb135) (o := .cells #[.int .i64 a0_0, .string a0_1, .string a0_2, .string a0_3, .int .i64 a0_4, .int .i64 a0_5, .int .i64 a0_6, .int .i64 a0_7, .bool a0_8, .slice A0_9 l0_9.length c0_9, .slice A0_10 l0_10.length c0_10] 67 (0, 0)) (by (with_reducible repeat (first | refine blk_drewN ?_ _ | refine blk_drew ?_ | refine blk_alloc ?_ _)); exact BK135.out)) : gb135 ≠ gb136)); have n6_ := Aside0.mk ((by rw [hg]; exact Nat.ne_of_gt (blk_lt (g := gb135) (o := .cells #[.int .i64 a0_0, .string a0_1, .string a0_2, .string a0_3, .int .i64 a0_4, .int .i64 a0_5, .int .i64 a0_6, .int .i64 a0_7, .bool a0_8, .slice A0_9 l0_9.length c0_9, .slice A0_10 l0_10.length c0_10] 67 (0, 0)) (by (with_reducible repeat (first | refine blk_drewN ?_ _ | refine blk_drew ?_ | refine blk_alloc ?_ _)); exact BK135.out)) : gb136 ≠ gb135)); clear BK135; clear HB; have BK135 := n0_; have HB := n1_; have BK136 := n2_; have GW136 := n3_; have GE136 := n4_; have NB135_136 := n5_; have NB136_135 := n6_; clear n0_ n1_ n2_ n3_ n4_ n5_ n6_; clear hb hbox hg))
  (try simp only [Act.put, List.setIfInBounds_toArray, List.set_cons_zero, List.set_cons_succ])
  go_cut [44] (fun v44 wc => ∃ (kq : Nat) (x44_2 : Bool), v44 = .bool x44_2 ∧ Aside0 (legacy_Same.j0 kq x44_2 a0_0 a0_1 a0_2 a0_3 a0_4 a0_5 a0_6 a0_7 a0_8 l0_9 l0_10 a1_0 a1_1 a1_2 a1_3 a1_4 a1_5 a1_6 a1_7 a1_8 l1_9 l1_10 = some r) ∧ Aside0 (kq ≤ k) ∧ Aside0 (wc.heap[gb135]? = some (.cells #[.int .i64 a0_0, .string a0_1, .string a0_2, .string a0_3, .int .i64 a0_4, .int .i64 a0_5, .int .i64 a0_6, .int .i64 a0_7, .bool a0_8, (.slice A0_9 l0_9.length c0_9), (.slice A0_10 l0_10.length c0_10)] 67 (0, 0))) ∧ Aside0 (wc.heap[gb136]? = some (.cells #[.int .i64 a1_0, .string a1_1, .string a1_2, .string a1_3, .int .i64 a1_4, .int .i64 a1_5, .int .i64 a1_6, .int .i64 a1_7, .bool a1_8, (.slice A1_9 l1_9.length c1_9), (.slice A1_10 l1_10.length c1_10)] 67 (0, 0))) ∧ Aside0 (Below w.heap.size w wc))
  case first =>
    have H := HC3.out
    clear HC3
    by_cases c6 : a0_0 = a1_0
    · rw [if_pos c6] at H
      have c6b0 : (a0_0 == a1_0) = true := beq_iff_eq.mpr c6
      have c6b1 : (a0_0 != a1_0) = false := bne_eq_false_iff_eq.mpr c6
      clear c6
      (first | rw [c6b0] | (simp only [i64_w, i32_w]; rw [c6b0]) | skip)
      by_cases c7 : a0_1.toList = a1_1.toList
      · rw [if_pos c7] at H
        have c7b0 : (a0_1.toList == a1_1.toList) = true := beq_iff_eq.mpr c7
        have c7b1 : (a0_1.toList != a1_1.toList) = false := bne_eq_false_iff_eq.mpr c7
        clear c7
        by_cases c8 : a0_2.toList = a1_2.toList
        · rw [if_pos c8] at H
          have c8b0 : (a0_2.toList == a1_2.toList) = true := beq_iff_eq.mpr c8
          have c8b1 : (a0_2.toList != a1_2.toList) = false := bne_eq_false_iff_eq.mpr c8
          clear c8
          by_cases c9 : a0_3.toList = a1_3.toList
          · rw [if_pos c9] at H
            have c9b0 : (a0_3.toList == a1_3.toList) = true := beq_iff_eq.mpr c9
            have c9b1 : (a0_3.toList != a1_3.toList) = false := bne_eq_false_iff_eq.mpr c9
            clear c9
            by_cases c10 : a0_4 = a1_4
            · rw [if_pos c10] at H
              have c10b0 : (a0_4 == a1_4) = true := beq_iff_eq.mpr c10
              have c10b1 : (a0_4 != a1_4) = false := bne_eq_false_iff_eq.mpr c10
              clear c10
              have H' := Aside0.mk H
              clear H
              have hnb11 := NB135_136.out
              have hnc11 := NB136_135.out
              have hcz12_0 : w5.cell? ⟨gb135, 0, none⟩ = some (.int .i64 a0_0) := (blk_cell BK135.out 0).trans rfl
              have hcz12_1 : w5.cell? ⟨gb135, 1, none⟩ = some (.string a0_1) := (blk_cell BK135.out 1).trans rfl
              have hcz12_2 : w5.cell? ⟨gb135, 2, none⟩ = some (.string a0_2) := (blk_cell BK135.out 2).trans rfl
              have hcz12_3 : w5.cell? ⟨gb135, 3, none⟩ = some (.string a0_3) := (blk_cell BK135.out 3).trans rfl
              have hcz12_4 : w5.cell? ⟨gb135, 4, none⟩ = some (.int .i64 a0_4) := (blk_cell BK135.out 4).trans rfl
              have hcz12_5 : w5.cell? ⟨gb135, 5, none⟩ = some (.int .i64 a0_5) := (blk_cell BK135.out 5).trans rfl
              have hcz12_6 : w5.cell? ⟨gb135, 6, none⟩ = some (.int .i64 a0_6) := (blk_cell BK135.out 6).trans rfl
              have hcz12_7 : w5.cell? ⟨gb135, 7, none⟩ = some (.int .i64 a0_7) := (blk_cell BK135.out 7).trans rfl
              have hcz12_8 : w5.cell? ⟨gb135, 8, none⟩ = some (.bool a0_8) := (blk_cell BK135.out 8).trans rfl
              have hcz12_9 : w5.cell? ⟨gb135, 9, none⟩ = some (.slice A0_9 l0_9.length c0_9) := (blk_cell BK135.out 9).trans rfl
              have hcz12_10 : w5.cell? ⟨gb135, 10, none⟩ = some (.slice A0_10 l0_10.length c0_10) := (blk_cell BK135.out 10).trans rfl
              have hfz12_0 := blk_frozen BK135.out 0
              have hfz12_1 := blk_frozen BK135.out 1
              have hfz12_2 := blk_frozen BK135.out 2
              have hfz12_3 := blk_frozen BK135.out 3
              have hfz12_4 := blk_frozen BK135.out 4
              have hfz12_5 := blk_frozen BK135.out 5
              have hfz12_6 := blk_frozen BK135.out 6
              have hfz12_7 := blk_frozen BK135.out 7
              have hfz12_8 := blk_frozen BK135.out 8
              have hfz12_9 := blk_frozen BK135.out 9
              have hfz12_10 := blk_frozen BK135.out 10
              have hcz13_0 : w5.cell? ⟨gb136, 0, none⟩ = some (.int .i64 a1_0) := (blk_cell BK136.out 0).trans rfl
              have hcz13_1 : w5.cell? ⟨gb136, 1, none⟩ = some (.string a1_1) := (blk_cell BK136.out 1).trans rfl
              have hcz13_2 : w5.cell? ⟨gb136, 2, none⟩ = some (.string a1_2) := (blk_cell BK136.out 2).trans rfl
              have hcz13_3 : w5.cell? ⟨gb136, 3, none⟩ = some (.string a1_3) := (blk_cell BK136.out 3).trans rfl
              have hcz13_4 : w5.cell? ⟨gb136, 4, none⟩ = some (.int .i64 a1_4) := (blk_cell BK136.out 4).trans rfl
              have hcz13_5 : w5.cell? ⟨gb136, 5, none⟩ = some (.int .i64 a1_5) := (blk_cell BK136.out 5).trans rfl
              have hcz13_6 : w5.cell? ⟨gb136, 6, none⟩ = some (.int .i64 a1_6) := (blk_cell BK136.out 6).trans rfl
              have hcz13_7 : w5.cell? ⟨gb136, 7, none⟩ = some (.int .i64 a1_7) := (blk_cell BK136.out 7).trans rfl
              have hcz13_8 : w5.cell? ⟨gb136, 8, none⟩ = some (.bool a1_8) := (blk_cell BK136.out 8).trans rfl
              have hcz13_9 : w5.cell? ⟨gb136, 9, none⟩ = some (.slice A1_9 l1_9.length c1_9) := (blk_cell BK136.out 9).trans rfl
              have hcz13_10 : w5.cell? ⟨gb136, 10, none⟩ = some (.slice A1_10 l1_10.length c1_10) := (blk_cell BK136.out 10).trans rfl
              have hfz13_0 := blk_frozen BK136.out 0
              have hfz13_1 := blk_frozen BK136.out 1
              have hfz13_2 := blk_frozen BK136.out 2
              have hfz13_3 := blk_frozen BK136.out 3
              have hfz13_4 := blk_frozen BK136.out 4
              have hfz13_5 := blk_frozen BK136.out 5
              have hfz13_6 := blk_frozen BK136.out 6
              have hfz13_7 := blk_frozen BK136.out 7
              have hfz13_8 := blk_frozen BK136.out 8
              have hfz13_9 := blk_frozen BK136.out 9
              have hfz13_10 := blk_frozen BK136.out 10
              go_wp2
              go_meet
              case rel => exact ⟨_, ((a0_5 != a1_5)), (by first | rfl | (simp; done) | (simp [*]; done)), H', ⟨by first | omega | exact Nat.le_refl _⟩, ⟨by (with_reducible repeat (first | refine blk_drewN ?_ _ | refine blk_drew ?_ | refine blk_alloc ?_ _)); exact BK135.out⟩, ⟨by (with_reducible repeat (first | refine blk_drewN ?_ _ | refine blk_drew ?_ | refine blk_alloc ?_ _)); exact BK136.out⟩, ⟨by repeat (first | (with_reducible first | exact HB.out | apply below_alloc | apply pw_below_drewN | apply below_drew1 | refine below_set ?_ GE135.out | refine below_set ?_ GE136.out) | exact HB.out)⟩⟩
            · rw [if_neg c10] at H
              have c10b0 : (a0_4 == a1_4) = false := beq_eq_false_iff_ne.mpr c10
              have c10b1 : (a0_4 != a1_4) = true := bne_iff_ne.mpr c10
              have H' := Aside0.mk H
              clear H
              have hnb14 := NB135_136.out
              have hnc14 := NB136_135.out
              have hcz15_0 : w5.cell? ⟨gb135, 0, none⟩ = some (.int .i64 a0_0) := (blk_cell BK135.out 0).trans rfl
              have hcz15_1 : w5.cell? ⟨gb135, 1, none⟩ = some (.string a0_1) := (blk_cell BK135.out 1).trans rfl
              have hcz15_2 : w5.cell? ⟨gb135, 2, none⟩ = some (.string a0_2) := (blk_cell BK135.out 2).trans rfl
              have hcz15_3 : w5.cell? ⟨gb135, 3, none⟩ = some (.string a0_3) := (blk_cell BK135.out 3).trans rfl
              have hcz15_4 : w5.cell? ⟨gb135, 4, none⟩ = some (.int .i64 a0_4) := (blk_cell BK135.out 4).trans rfl
              have hcz15_5 : w5.cell? ⟨gb135, 5, none⟩ = some (.int .i64 a0_5) := (blk_cell BK135.out 5).trans rfl
              have hcz15_6 : w5.cell? ⟨gb135, 6, none⟩ = some (.int .i64 a0_6) := (blk_cell BK135.out 6).trans rfl
              have hcz15_7 : w5.cell? ⟨gb135, 7, none⟩ = some (.int .i64 a0_7) := (blk_cell BK135.out 7).trans rfl
              have hcz15_8 : w5.cell? ⟨gb135, 8, none⟩ = some (.bool a0_8) := (blk_cell BK135.out 8).trans rfl
              have hcz15_9 : w5.cell? ⟨gb135, 9, none⟩ = some (.slice A0_9 l0_9.length c0_9) := (blk_cell BK135.out 9).trans rfl
              have hcz15_10 : w5.cell? ⟨gb135, 10, none⟩ = some (.slice A0_10 l0_10.length c0_10) := (blk_cell BK135.out 10).trans rfl
              have hfz15_0 := blk_frozen BK135.out 0
              have hfz15_1 := blk_frozen BK135.out 1
              have hfz15_2 := blk_frozen BK135.out 2
              have hfz15_3 := blk_frozen BK135.out 3
              have hfz15_4 := blk_frozen BK135.out 4
              have hfz15_5 := blk_frozen BK135.out 5
              have hfz15_6 := blk_frozen BK135.out 6
              have hfz15_7 := blk_frozen BK135.out 7
              have hfz15_8 := blk_frozen BK135.out 8
              have hfz15_9 := blk_frozen BK135.out 9
              have hfz15_10 := blk_frozen BK135.out 10
              have hcz16_0 : w5.cell? ⟨gb136, 0, none⟩ = some (.int .i64 a1_0) := (blk_cell BK136.out 0).trans rfl
              have hcz16_1 : w5.cell? ⟨gb136, 1, none⟩ = some (.string a1_1) := (blk_cell BK136.out 1).trans rfl
              have hcz16_2 : w5.cell? ⟨gb136, 2, none⟩ = some (.string a1_2) := (blk_cell BK136.out 2).trans rfl
              have hcz16_3 : w5.cell? ⟨gb136, 3, none⟩ = some (.string a1_3) := (blk_cell BK136.out 3).trans rfl
              have hcz16_4 : w5.cell? ⟨gb136, 4, none⟩ = some (.int .i64 a1_4) := (blk_cell BK136.out 4).trans rfl
              have hcz16_5 : w5.cell? ⟨gb136, 5, none⟩ = some (.int .i64 a1_5) := (blk_cell BK136.out 5).trans rfl
              have hcz16_6 : w5.cell? ⟨gb136, 6, none⟩ = some (.int .i64 a1_6) := (blk_cell BK136.out 6).trans rfl
              have hcz16_7 : w5.cell? ⟨gb136, 7, none⟩ = some (.int .i64 a1_7) := (blk_cell BK136.out 7).trans rfl
              have hcz16_8 : w5.cell? ⟨gb136, 8, none⟩ = some (.bool a1_8) := (blk_cell BK136.out 8).trans rfl
              have hcz16_9 : w5.cell? ⟨gb136, 9, none⟩ = some (.slice A1_9 l1_9.length c1_9) := (blk_cell BK136.out 9).trans rfl
              have hcz16_10 : w5.cell? ⟨gb136, 10, none⟩ = some (.slice A1_10 l1_10.length c1_10) := (blk_cell BK136.out 10).trans rfl
              have hfz16_0 := blk_frozen BK136.out 0
              have hfz16_1 := blk_frozen BK136.out 1
              have hfz16_2 := blk_frozen BK136.out 2
              have hfz16_3 := blk_frozen BK136.out 3
              have hfz16_4 := blk_frozen BK136.out 4
              have hfz16_5 := blk_frozen BK136.out 5
              have hfz16_6 := blk_frozen BK136.out 6
              have hfz16_7 := blk_frozen BK136.out 7
              have hfz16_8 := blk_frozen BK136.out 8
              have hfz16_9 := blk_frozen BK136.out 9
              have hfz16_10 := blk_frozen BK136.out 10
              go_wp2
              go_meet
              case rel => exact ⟨_, (true), (by first | rfl | (simp; done) | (simp [*]; done)), H', ⟨by first | omega | exact Nat.le_refl _⟩, ⟨by (with_reducible repeat (first | refine blk_drewN ?_ _ | refine blk_drew ?_ | refine blk_alloc ?_ _)); exact BK135.out⟩, ⟨by (with_reducible repeat (first | refine blk_drewN ?_ _ | refine blk_drew ?_ | refine blk_alloc ?_ _)); exact BK136.out⟩, ⟨by repeat (first | (with_reducible first | exact HB.out | apply below_alloc | apply pw_below_drewN | apply below_drew1 | refine below_set ?_ GE135.out | refine below_set ?_ GE136.out) | exact HB.out)⟩⟩
          · rw [if_neg c9] at H
            have c9b0 : (a0_3.toList == a1_3.toList) = false := beq_eq_false_iff_ne.mpr c9
            have c9b1 : (a0_3.toList != a1_3.toList) = true := bne_iff_ne.mpr c9
            have H' := Aside0.mk H
            clear H
            have hnb17 := NB135_136.out
            have hnc17 := NB136_135.out
            have hcz18_0 : w5.cell? ⟨gb135, 0, none⟩ = some (.int .i64 a0_0) := (blk_cell BK135.out 0).trans rfl
            have hcz18_1 : w5.cell? ⟨gb135, 1, none⟩ = some (.string a0_1) := (blk_cell BK135.out 1).trans rfl
            have hcz18_2 : w5.cell? ⟨gb135, 2, none⟩ = some (.string a0_2) := (blk_cell BK135.out 2).trans rfl
            have hcz18_3 : w5.cell? ⟨gb135, 3, none⟩ = some (.string a0_3) := (blk_cell BK135.out 3).trans rfl
            have hcz18_4 : w5.cell? ⟨gb135, 4, none⟩ = some (.int .i64 a0_4) := (blk_cell BK135.out 4).trans rfl
            have hcz18_5 : w5.cell? ⟨gb135, 5, none⟩ = some (.int .i64 a0_5) := (blk_cell BK135.out 5).trans rfl
            have hcz18_6 : w5.cell? ⟨gb135, 6, none⟩ = some (.int .i64 a0_6) := (blk_cell BK135.out 6).trans rfl
            have hcz18_7 : w5.cell? ⟨gb135, 7, none⟩ = some (.int .i64 a0_7) := (blk_cell BK135.out 7).trans rfl
            have hcz18_8 : w5.cell? ⟨gb135, 8, none⟩ = some (.bool a0_8) := (blk_cell BK135.out 8).trans rfl
            have hcz18_9 : w5.cell? ⟨gb135, 9, none⟩ = some (.slice A0_9 l0_9.length c0_9) := (blk_cell BK135.out 9).trans rfl
            have hcz18_10 : w5.cell? ⟨gb135, 10, none⟩ = some (.slice A0_10 l0_10.length c0_10) := (blk_cell BK135.out 10).trans rfl
            have hfz18_0 := blk_frozen BK135.out 0
            have hfz18_1 := blk_frozen BK135.out 1
            have hfz18_2 := blk_frozen BK135.out 2
            have hfz18_3 := blk_frozen BK135.out 3
            have hfz18_4 := blk_frozen BK135.out 4
            have hfz18_5 := blk_frozen BK135.out 5
            have hfz18_6 := blk_frozen BK135.out 6
            have hfz18_7 := blk_frozen BK135.out 7
            have hfz18_8 := blk_frozen BK135.out 8
            have hfz18_9 := blk_frozen BK135.out 9
            have hfz18_10 := blk_frozen BK135.out 10
            have hcz19_0 : w5.cell? ⟨gb136, 0, none⟩ = some (.int .i64 a1_0) := (blk_cell BK136.out 0).trans rfl
            have hcz19_1 : w5.cell? ⟨gb136, 1, none⟩ = some (.string a1_1) := (blk_cell BK136.out 1).trans rfl
            have hcz19_2 : w5.cell? ⟨gb136, 2, none⟩ = some (.string a1_2) := (blk_cell BK136.out 2).trans rfl
            have hcz19_3 : w5.cell? ⟨gb136, 3, none⟩ = some (.string a1_3) := (blk_cell BK136.out 3).trans rfl
            have hcz19_4 : w5.cell? ⟨gb136, 4, none⟩ = some (.int .i64 a1_4) := (blk_cell BK136.out 4).trans rfl
            have hcz19_5 : w5.cell? ⟨gb136, 5, none⟩ = some (.int .i64 a1_5) := (blk_cell BK136.out 5).trans rfl
            have hcz19_6 : w5.cell? ⟨gb136, 6, none⟩ = some (.int .i64 a1_6) := (blk_cell BK136.out 6).trans rfl
            have hcz19_7 : w5.cell? ⟨gb136, 7, none⟩ = some (.int .i64 a1_7) := (blk_cell BK136.out 7).trans rfl
            have hcz19_8 : w5.cell? ⟨gb136, 8, none⟩ = some (.bool a1_8) := (blk_cell BK136.out 8).trans rfl
            have hcz19_9 : w5.cell? ⟨gb136, 9, none⟩ = some (.slice A1_9 l1_9.length c1_9) := (blk_cell BK136.out 9).trans rfl
            have hcz19_10 : w5.cell? ⟨gb136, 10, none⟩ = some (.slice A1_10 l1_10.length c1_10) := (blk_cell BK136.out 10).trans rfl
            have hfz19_0 := blk_frozen BK136.out 0
            have hfz19_1 := blk_frozen BK136.out 1
            have hfz19_2 := blk_frozen BK136.out 2
            have hfz19_3 := blk_frozen BK136.out 3
            have hfz19_4 := blk_frozen BK136.out 4
            have hfz19_5 := blk_frozen BK136.out 5
            have hfz19_6 := blk_frozen BK136.out 6
            have hfz19_7 := blk_frozen BK136.out 7
            have hfz19_8 := blk_frozen BK136.out 8
            have hfz19_9 := blk_frozen BK136.out 9
            have hfz19_10 := blk_frozen BK136.out 10
            go_wp2
            go_meet
            case rel => exact ⟨_, (true), (by first | rfl | (simp; done) | (simp [*]; done)), H', ⟨by first | omega | exact Nat.le_refl _⟩, ⟨by (with_reducible repeat (first | refine blk_drewN ?_ _ | refine blk_drew ?_ | refine blk_alloc ?_ _)); exact BK135.out⟩, ⟨by (with_reducible repeat (first | refine blk_drewN ?_ _ | refine blk_drew ?_ | refine blk_alloc ?_ _)); exact BK136.out⟩, ⟨by repeat (first | (with_reducible first | exact HB.out | apply below_alloc | apply pw_below_drewN | apply below_drew1 | refine below_set ?_ GE135.out | refine below_set ?_ GE136.out) | exact HB.out)⟩⟩
        · rw [if_neg c8] at H
          have c8b0 : (a0_2.toList == a1_2.toList) = false := beq_eq_false_iff_ne.mpr c8
          have c8b1 : (a0_2.toList != a1_2.toList) = true := bne_iff_ne.mpr c8
          have H' := Aside0.mk H
          clear H
          have hnb20 := NB135_136.out
          have hnc20 := NB136_135.out
          have hcz21_0 : w5.cell? ⟨gb135, 0, none⟩ = some (.int .i64 a0_0) := (blk_cell BK135.out 0).trans rfl
          have hcz21_1 : w5.cell? ⟨gb135, 1, none⟩ = some (.string a0_1) := (blk_cell BK135.out 1).trans rfl
          have hcz21_2 : w5.cell? ⟨gb135, 2, none⟩ = some (.string a0_2) := (blk_cell BK135.out 2).trans rfl
          have hcz21_3 : w5.cell? ⟨gb135, 3, none⟩ = some (.string a0_3) := (blk_cell BK135.out 3).trans rfl
          have hcz21_4 : w5.cell? ⟨gb135, 4, none⟩ = some (.int .i64 a0_4) := (blk_cell BK135.out 4).trans rfl
          have hcz21_5 : w5.cell? ⟨gb135, 5, none⟩ = some (.int .i64 a0_5) := (blk_cell BK135.out 5).trans rfl
          have hcz21_6 : w5.cell? ⟨gb135, 6, none⟩ = some (.int .i64 a0_6) := (blk_cell BK135.out 6).trans rfl
          have hcz21_7 : w5.cell? ⟨gb135, 7, none⟩ = some (.int .i64 a0_7) := (blk_cell BK135.out 7).trans rfl
          have hcz21_8 : w5.cell? ⟨gb135, 8, none⟩ = some (.bool a0_8) := (blk_cell BK135.out 8).trans rfl
          have hcz21_9 : w5.cell? ⟨gb135, 9, none⟩ = some (.slice A0_9 l0_9.length c0_9) := (blk_cell BK135.out 9).trans rfl
          have hcz21_10 : w5.cell? ⟨gb135, 10, none⟩ = some (.slice A0_10 l0_10.length c0_10) := (blk_cell BK135.out 10).trans rfl
          have hfz21_0 := blk_frozen BK135.out 0
          have hfz21_1 := blk_frozen BK135.out 1
          have hfz21_2 := blk_frozen BK135.out 2
          have hfz21_3 := blk_frozen BK135.out 3
          have hfz21_4 := blk_frozen BK135.out 4
          have hfz21_5 := blk_frozen BK135.out 5
          have hfz21_6 := blk_frozen BK135.out 6
          have hfz21_7 := blk_frozen BK135.out 7
          have hfz21_8 := blk_frozen BK135.out 8
          have hfz21_9 := blk_frozen BK135.out 9
          have hfz21_10 := blk_frozen BK135.out 10
          have hcz22_0 : w5.cell? ⟨gb136, 0, none⟩ = some (.int .i64 a1_0) := (blk_cell BK136.out 0).trans rfl
          have hcz22_1 : w5.cell? ⟨gb136, 1, none⟩ = some (.string a1_1) := (blk_cell BK136.out 1).trans rfl
          have hcz22_2 : w5.cell? ⟨gb136, 2, none⟩ = some (.string a1_2) := (blk_cell BK136.out 2).trans rfl
          have hcz22_3 : w5.cell? ⟨gb136, 3, none⟩ = some (.string a1_3) := (blk_cell BK136.out 3).trans rfl
          have hcz22_4 : w5.cell? ⟨gb136, 4, none⟩ = some (.int .i64 a1_4) := (blk_cell BK136.out 4).trans rfl
          have hcz22_5 : w5.cell? ⟨gb136, 5, none⟩ = some (.int .i64 a1_5) := (blk_cell BK136.out 5).trans rfl
          have hcz22_6 : w5.cell? ⟨gb136, 6, none⟩ = some (.int .i64 a1_6) := (blk_cell BK136.out 6).trans rfl
          have hcz22_7 : w5.cell? ⟨gb136, 7, none⟩ = some (.int .i64 a1_7) := (blk_cell BK136.out 7).trans rfl
          have hcz22_8 : w5.cell? ⟨gb136, 8, none⟩ = some (.bool a1_8) := (blk_cell BK136.out 8).trans rfl
          have hcz22_9 : w5.cell? ⟨gb136, 9, none⟩ = some (.slice A1_9 l1_9.length c1_9) := (blk_cell BK136.out 9).trans rfl
          have hcz22_10 : w5.cell? ⟨gb136, 10, none⟩ = some (.slice A1_10 l1_10.length c1_10) := (blk_cell BK136.out 10).trans rfl
          have hfz22_0 := blk_frozen BK136.out 0
          have hfz22_1 := blk_frozen BK136.out 1
          have hfz22_2 := blk_frozen BK136.out 2
          have hfz22_3 := blk_frozen BK136.out 3
          have hfz22_4 := blk_frozen BK136.out 4
          have hfz22_5 := blk_frozen BK136.out 5
          have hfz22_6 := blk_frozen BK136.out 6
          have hfz22_7 := blk_frozen BK136.out 7
          have hfz22_8 := blk_frozen BK136.out 8
          have hfz22_9 := blk_frozen BK136.out 9
          have hfz22_10 := blk_frozen BK136.out 10
          go_wp2
          go_meet
          case rel => exact ⟨_, (true), (by first | rfl | (simp; done) | (simp [*]; done)), H', ⟨by first | omega | exact Nat.le_refl _⟩, ⟨by (with_reducible repeat (first | refine blk_drewN ?_ _ | refine blk_drew ?_ | refine blk_alloc ?_ _)); exact BK135.out⟩, ⟨by (with_reducible repeat (first | refine blk_drewN ?_ _ | refine blk_drew ?_ | refine blk_alloc ?_ _)); exact BK136.out⟩, ⟨by repeat (first | (with_reducible first | exact HB.out | apply below_alloc | apply pw_below_drewN | apply below_drew1 | refine below_set ?_ GE135.out | refine below_set ?_ GE136.out) | exact HB.out)⟩⟩
      · rw [if_neg c7] at H
        have c7b0 : (a0_1.toList == a1_1.toList) = false := beq_eq_false_iff_ne.mpr c7
        have c7b1 : (a0_1.toList != a1_1.toList) = true := bne_iff_ne.mpr c7
        have H' := Aside0.mk H
        clear H
        have hnb23 := NB135_136.out
        have hnc23 := NB136_135.out
        have hcz24_0 : w5.cell? ⟨gb135, 0, none⟩ = some (.int .i64 a0_0) := (blk_cell BK135.out 0).trans rfl
        have hcz24_1 : w5.cell? ⟨gb135, 1, none⟩ = some (.string a0_1) := (blk_cell BK135.out 1).trans rfl
        have hcz24_2 : w5.cell? ⟨gb135, 2, none⟩ = some (.string a0_2) := (blk_cell BK135.out 2).trans rfl
        have hcz24_3 : w5.cell? ⟨gb135, 3, none⟩ = some (.string a0_3) := (blk_cell BK135.out 3).trans rfl
        have hcz24_4 : w5.cell? ⟨gb135, 4, none⟩ = some (.int .i64 a0_4) := (blk_cell BK135.out 4).trans rfl
        have hcz24_5 : w5.cell? ⟨gb135, 5, none⟩ = some (.int .i64 a0_5) := (blk_cell BK135.out 5).trans rfl
        have hcz24_6 : w5.cell? ⟨gb135, 6, none⟩ = some (.int .i64 a0_6) := (blk_cell BK135.out 6).trans rfl
        have hcz24_7 : w5.cell? ⟨gb135, 7, none⟩ = some (.int .i64 a0_7) := (blk_cell BK135.out 7).trans rfl
        have hcz24_8 : w5.cell? ⟨gb135, 8, none⟩ = some (.bool a0_8) := (blk_cell BK135.out 8).trans rfl
        have hcz24_9 : w5.cell? ⟨gb135, 9, none⟩ = some (.slice A0_9 l0_9.length c0_9) := (blk_cell BK135.out 9).trans rfl
        have hcz24_10 : w5.cell? ⟨gb135, 10, none⟩ = some (.slice A0_10 l0_10.length c0_10) := (blk_cell BK135.out 10).trans rfl
        have hfz24_0 := blk_frozen BK135.out 0
        have hfz24_1 := blk_frozen BK135.out 1
        have hfz24_2 := blk_frozen BK135.out 2
        have hfz24_3 := blk_frozen BK135.out 3
        have hfz24_4 := blk_frozen BK135.out 4
        have hfz24_5 := blk_frozen BK135.out 5
        have hfz24_6 := blk_frozen BK135.out 6
        have hfz24_7 := blk_frozen BK135.out 7
        have hfz24_8 := blk_frozen BK135.out 8
        have hfz24_9 := blk_frozen BK135.out 9
        have hfz24_10 := blk_frozen BK135.out 10
        have hcz25_0 : w5.cell? ⟨gb136, 0, none⟩ = some (.int .i64 a1_0) := (blk_cell BK136.out 0).trans rfl
        have hcz25_1 : w5.cell? ⟨gb136, 1, none⟩ = some (.string a1_1) := (blk_cell BK136.out 1).trans rfl
        have hcz25_2 : w5.cell? ⟨gb136, 2, none⟩ = some (.string a1_2) := (blk_cell BK136.out 2).trans rfl
        have hcz25_3 : w5.cell? ⟨gb136, 3, none⟩ = some (.string a1_3) := (blk_cell BK136.out 3).trans rfl
        have hcz25_4 : w5.cell? ⟨gb136, 4, none⟩ = some (.int .i64 a1_4) := (blk_cell BK136.out 4).trans rfl
        have hcz25_5 : w5.cell? ⟨gb136, 5, none⟩ = some (.int .i64 a1_5) := (blk_cell BK136.out 5).trans rfl
        have hcz25_6 : w5.cell? ⟨gb136, 6, none⟩ = some (.int .i64 a1_6) := (blk_cell BK136.out 6).trans rfl
        have hcz25_7 : w5.cell? ⟨gb136, 7, none⟩ = some (.int .i64 a1_7) := (blk_cell BK136.out 7).trans rfl
        have hcz25_8 : w5.cell? ⟨gb136, 8, none⟩ = some (.bool a1_8) := (blk_cell BK136.out 8).trans rfl
        have hcz25_9 : w5.cell? ⟨gb136, 9, none⟩ = some (.slice A1_9 l1_9.length c1_9) := (blk_cell BK136.out 9).trans rfl
        have hcz25_10 : w5.cell? ⟨gb136, 10, none⟩ = some (.slice A1_10 l1_10.length c1_10) := (blk_cell BK136.out 10).trans rfl
        have hfz25_0 := blk_frozen BK136.out 0
        have hfz25_1 := blk_frozen BK136.out 1
        have hfz25_2 := blk_frozen BK136.out 2
        have hfz25_3 := blk_frozen BK136.out 3
        have hfz25_4 := blk_frozen BK136.out 4
        have hfz25_5 := blk_frozen BK136.out 5
        have hfz25_6 := blk_frozen BK136.out 6
        have hfz25_7 := blk_frozen BK136.out 7
        have hfz25_8 := blk_frozen BK136.out 8
        have hfz25_9 := blk_frozen BK136.out 9
        have hfz25_10 := blk_frozen BK136.out 10
        go_wp2
        go_meet
        case rel => exact ⟨_, (true), (by first | rfl | (simp; done) | (simp [*]; done)), H', ⟨by first | omega | exact Nat.le_refl _⟩, ⟨by (with_reducible repeat (first | refine blk_drewN ?_ _ | refine blk_drew ?_ | refine blk_alloc ?_ _)); exact BK135.out⟩, ⟨by (with_reducible repeat (first | refine blk_drewN ?_ _ | refine blk_drew ?_ | refine blk_alloc ?_ _)); exact BK136.out⟩, ⟨by repeat (first | (with_reducible first | exact HB.out | apply below_alloc | apply pw_below_drewN | apply below_drew1 | refine below_set ?_ GE135.out | refine below_set ?_ GE136.out) | exact HB.out)⟩⟩
    · rw [if_neg c6] at H
      have c6b0 : (a0_0 == a1_0) = false := beq_eq_false_iff_ne.mpr c6
      have c6b1 : (a0_0 != a1_0) = true := bne_iff_ne.mpr c6
      (first | rw [c6b0] | (simp only [i64_w, i32_w]; rw [c6b0]) | skip)
      have H' := Aside0.mk H
      clear H
      have hnb26 := NB135_136.out
      have hnc26 := NB136_135.out
      have hcz27_0 : w5.cell? ⟨gb135, 0, none⟩ = some (.int .i64 a0_0) := (blk_cell BK135.out 0).trans rfl
      have hcz27_1 : w5.cell? ⟨gb135, 1, none⟩ = some (.string a0_1) := (blk_cell BK135.out 1).trans rfl
      have hcz27_2 : w5.cell? ⟨gb135, 2, none⟩ = some (.string a0_2) := (blk_cell BK135.out 2).trans rfl
      have hcz27_3 : w5.cell? ⟨gb135, 3, none⟩ = some (.string a0_3) := (blk_cell BK135.out 3).trans rfl
      have hcz27_4 : w5.cell? ⟨gb135, 4, none⟩ = some (.int .i64 a0_4) := (blk_cell BK135.out 4).trans rfl
      have hcz27_5 : w5.cell? ⟨gb135, 5, none⟩ = some (.int .i64 a0_5) := (blk_cell BK135.out 5).trans rfl
      have hcz27_6 : w5.cell? ⟨gb135, 6, none⟩ = some (.int .i64 a0_6) := (blk_cell BK135.out 6).trans rfl
      have hcz27_7 : w5.cell? ⟨gb135, 7, none⟩ = some (.int .i64 a0_7) := (blk_cell BK135.out 7).trans rfl
      have hcz27_8 : w5.cell? ⟨gb135, 8, none⟩ = some (.bool a0_8) := (blk_cell BK135.out 8).trans rfl
      have hcz27_9 : w5.cell? ⟨gb135, 9, none⟩ = some (.slice A0_9 l0_9.length c0_9) := (blk_cell BK135.out 9).trans rfl
      have hcz27_10 : w5.cell? ⟨gb135, 10, none⟩ = some (.slice A0_10 l0_10.length c0_10) := (blk_cell BK135.out 10).trans rfl
      have hfz27_0 := blk_frozen BK135.out 0
      have hfz27_1 := blk_frozen BK135.out 1
      have hfz27_2 := blk_frozen BK135.out 2
      have hfz27_3 := blk_frozen BK135.out 3
      have hfz27_4 := blk_frozen BK135.out 4
      have hfz27_5 := blk_frozen BK135.out 5
      have hfz27_6 := blk_frozen BK135.out 6
      have hfz27_7 := blk_frozen BK135.out 7
      have hfz27_8 := blk_frozen BK135.out 8
      have hfz27_9 := blk_frozen BK135.out 9
      have hfz27_10 := blk_frozen BK135.out 10
      have hcz28_0 : w5.cell? ⟨gb136, 0, none⟩ = some (.int .i64 a1_0) := (blk_cell BK136.out 0).trans rfl
      have hcz28_1 : w5.cell? ⟨gb136, 1, none⟩ = some (.string a1_1) := (blk_cell BK136.out 1).trans rfl
      have hcz28_2 : w5.cell? ⟨gb136, 2, none⟩ = some (.string a1_2) := (blk_cell BK136.out 2).trans rfl
      have hcz28_3 : w5.cell? ⟨gb136, 3, none⟩ = some (.string a1_3) := (blk_cell BK136.out 3).trans rfl
      have hcz28_4 : w5.cell? ⟨gb136, 4, none⟩ = some (.int .i64 a1_4) := (blk_cell BK136.out 4).trans rfl
      have hcz28_5 : w5.cell? ⟨gb136, 5, none⟩ = some (.int .i64 a1_5) := (blk_cell BK136.out 5).trans rfl
      have hcz28_6 : w5.cell? ⟨gb136, 6, none⟩ = some (.int .i64 a1_6) := (blk_cell BK136.out 6).trans rfl
      have hcz28_7 : w5.cell? ⟨gb136, 7, none⟩ = some (.int .i64 a1_7) := (blk_cell BK136.out 7).trans rfl
      have hcz28_8 : w5.cell? ⟨gb136, 8, none⟩ = some (.bool a1_8) := (blk_cell BK136.out 8).trans rfl
      have hcz28_9 : w5.cell? ⟨gb136, 9, none⟩ = some (.slice A1_9 l1_9.length c1_9) := (blk_cell BK136.out 9).trans rfl
      have hcz28_10 : w5.cell? ⟨gb136, 10, none⟩ = some (.slice A1_10 l1_10.length c1_10) := (blk_cell BK136.out 10).trans rfl
      have hfz28_0 := blk_frozen BK136.out 0
      have hfz28_1 := blk_frozen BK136.out 1
      have hfz28_2 := blk_frozen BK136.out 2
      have hfz28_3 := blk_frozen BK136.out 3
      have hfz28_4 := blk_frozen BK136.out 4
      have hfz28_5 := blk_frozen BK136.out 5
      have hfz28_6 := blk_frozen BK136.out 6
      have hfz28_7 := blk_frozen BK136.out 7
      have hfz28_8 := blk_frozen BK136.out 8
      have hfz28_9 := blk_frozen BK136.out 9
      have hfz28_10 := blk_frozen BK136.out 10
      go_wp2
      go_meet
      case rel => exact ⟨_, (true), (by first | rfl | (simp; done) | (simp [*]; done)), H', ⟨by first | omega | exact Nat.le_refl _⟩, ⟨by (with_reducible repeat (first | refine blk_drewN ?_ _ | refine blk_drew ?_ | refine blk_alloc ?_ _)); exact BK135.out⟩, ⟨by (with_reducible repeat (first | refine blk_drewN ?_ _ | refine blk_drew ?_ | refine blk_alloc ?_ _)); exact BK136.out⟩, ⟨by repeat (first | (with_reducible first | exact HB.out | apply below_alloc | apply pw_below_drewN | apply below_drew1 | refine below_set ?_ GE135.out | refine below_set ?_ GE136.out) | exact HB.out)⟩⟩
  case rest =>
    clear HC3
    try clear c1
    try clear c2
    try clear p2
    try clear c5
    try clear c6
    try clear c6b0
    try clear c6b1
    try clear c7
    try clear c7b0
    try clear c7b1
    try clear c8
    try clear c8b0
    try clear c8b1
    try clear c9
    try clear c9b0
    try clear c9b1
    try clear c10
    try clear c10b0
    try clear c10b1
    try clear c11
    try clear c14
    try clear c17
    try clear c20
    try clear c23
    try clear c26
    try clear hcz12_0
    try clear hcz12_1
    try clear hcz12_10
    try clear hcz12_2
    try clear hcz12_3
    try clear hcz12_4
    try clear hcz12_5
    try clear hcz12_6
    try clear hcz12_7
    try clear hcz12_8
    try clear hcz12_9
    try clear hcz13_0
    try clear hcz13_1
    try clear hcz13_10
    try clear hcz13_2
    try clear hcz13_3
    try clear hcz13_4
    try clear hcz13_5
    try clear hcz13_6
    try clear hcz13_7
    try clear hcz13_8
    try clear hcz13_9
    try clear hcz15_0
    try clear hcz15_1
    try clear hcz15_10
    try clear hcz15_2
    try clear hcz15_3
    try clear hcz15_4
    try clear hcz15_5
    try clear hcz15_6
    try clear hcz15_7
    try clear hcz15_8
    try clear hcz15_9
    try clear hcz16_0
    try clear hcz16_1
    try clear hcz16_10
    try clear hcz16_2
    try clear hcz16_3
    try clear hcz16_4
    try clear hcz16_5
    try clear hcz16_6
    try clear hcz16_7
    try clear hcz16_8
    try clear hcz16_9
    try clear hcz18_0
    try clear hcz18_1
    try clear hcz18_10
    try clear hcz18_2
    try clear hcz18_3
    try clear hcz18_4
    try clear hcz18_5
    try clear hcz18_6
    try clear hcz18_7
    try clear hcz18_8
    try clear hcz18_9
    try clear hcz19_0
    try clear hcz19_1
    try clear hcz19_10
    try clear hcz19_2
    try clear hcz19_3
    try clear hcz19_4
    try clear hcz19_5
    try clear hcz19_6
    try clear hcz19_7
    try clear hcz19_8
    try clear hcz19_9
    try clear hcz21_0
    try clear hcz21_1
    try clear hcz21_10
    try clear hcz21_2
    try clear hcz21_3
    try clear hcz21_4
    try clear hcz21_5
    try clear hcz21_6
    try clear hcz21_7
    try clear hcz21_8
    try clear hcz21_9
    try clear hcz22_0
    try clear hcz22_1
    try clear hcz22_10
    try clear hcz22_2
    try clear hcz22_3
    try clear hcz22_4
    try clear hcz22_5
    try clear hcz22_6
    try clear hcz22_7
    try clear hcz22_8
    try clear hcz22_9
    try clear hcz24_0
    try clear hcz24_1
    try clear hcz24_10
    try clear hcz24_2
    try clear hcz24_3
    try clear hcz24_4
    try clear hcz24_5
    try clear hcz24_6
    try clear hcz24_7
    try clear hcz24_8
    try clear hcz24_9
    try clear hcz25_0
    try clear hcz25_1
    try clear hcz25_10
    try clear hcz25_2
    try clear hcz25_3
    try clear hcz25_4
    try clear hcz25_5
    try clear hcz25_6
    try clear hcz25_7
    try clear hcz25_8
    try clear hcz25_9
    try clear hcz27_0
    try clear hcz27_1
    try clear hcz27_10
    try clear hcz27_2
    try clear hcz27_3
    try clear hcz27_4
    try clear hcz27_5
    try clear hcz27_6
    try clear hcz27_7
    try clear hcz27_8
    try clear hcz27_9
    try clear hcz28_0
    try clear hcz28_1
    try clear hcz28_10
    try clear hcz28_2
    try clear hcz28_3
    try clear hcz28_4
    try clear hcz28_5
    try clear hcz28_6
    try clear hcz28_7
    try clear hcz28_8
    try clear hcz28_9
    try clear hfz12_0
    try clear hfz12_1
    try clear hfz12_10
    try clear hfz12_2
    try clear hfz12_3
    try clear hfz12_4
    try clear hfz12_5
    try clear hfz12_6
    try clear hfz12_7
    try clear hfz12_8
    try clear hfz12_9
    try clear hfz13_0
    try clear hfz13_1
    try clear hfz13_10
    try clear hfz13_2
    try clear hfz13_3
    try clear hfz13_4
    try clear hfz13_5
    try clear hfz13_6
    try clear hfz13_7
    try clear hfz13_8
    try clear hfz13_9
    try clear hfz15_0
    try clear hfz15_1
    try clear hfz15_10
    try clear hfz15_2
    try clear hfz15_3
    try clear hfz15_4
    try clear hfz15_5
    try clear hfz15_6
    try clear hfz15_7
    try clear hfz15_8
    try clear hfz15_9
    try clear hfz16_0
    try clear hfz16_1
    try clear hfz16_10
    try clear hfz16_2
    try clear hfz16_3
    try clear hfz16_4
    try clear hfz16_5
    try clear hfz16_6
    try clear hfz16_7
    try clear hfz16_8
    try clear hfz16_9
    try clear hfz18_0
    try clear hfz18_1
    try clear hfz18_10
    try clear hfz18_2
    try clear hfz18_3
    try clear hfz18_4
    try clear hfz18_5
    try clear hfz18_6
    try clear hfz18_7
    try clear hfz18_8
    try clear hfz18_9
    try clear hfz19_0
    try clear hfz19_1
    try clear hfz19_10
    try clear hfz19_2
    try clear hfz19_3
    try clear hfz19_4
    try clear hfz19_5
    try clear hfz19_6
    try clear hfz19_7
    try clear hfz19_8
    try clear hfz19_9
    try clear hfz21_0
    try clear hfz21_1
    try clear hfz21_10
    try clear hfz21_2
    try clear hfz21_3
    try clear hfz21_4
    try clear hfz21_5
    try clear hfz21_6
    try clear hfz21_7
    try clear hfz21_8
    try clear hfz21_9
    try clear hfz22_0
    try clear hfz22_1
    try clear hfz22_10
    try clear hfz22_2
    try clear hfz22_3
    try clear hfz22_4
    try clear hfz22_5
    try clear hfz22_6
    try clear hfz22_7
    try clear hfz22_8
    try clear hfz22_9
    try clear hfz24_0
    try clear hfz24_1
    try clear hfz24_10
    try clear hfz24_2
    try clear hfz24_3
    try clear hfz24_4
    try clear hfz24_5
    try clear hfz24_6
    try clear hfz24_7
    try clear hfz24_8
    try clear hfz24_9
    try clear hfz25_0
    try clear hfz25_1
    try clear hfz25_10
    try clear hfz25_2
    try clear hfz25_3
    try clear hfz25_4
    try clear hfz25_5
    try clear hfz25_6
    try clear hfz25_7
    try clear hfz25_8
    try clear hfz25_9
    try clear hfz27_0
    try clear hfz27_1
    try clear hfz27_10
    try clear hfz27_2
    try clear hfz27_3
    try clear hfz27_4
    try clear hfz27_5
    try clear hfz27_6
    try clear hfz27_7
    try clear hfz27_8
    try clear hfz27_9
    try clear hfz28_0
    try clear hfz28_1
    try clear hfz28_10
    try clear hfz28_2
    try clear hfz28_3
    try clear hfz28_4
    try clear hfz28_5
    try clear hfz28_6
    try clear hfz28_7
    try clear hfz28_8
    try clear hfz28_9
    obtain ⟨kq, x44_2, rfl, HA, HJ2, BK135, BK136, HB⟩ := hcut
    cases kq with
    | zero => exact absurd HA.out (by simp [legacy_Same.j0])
    | succ kj2 =>
      have H := HA.out
      clear HA
      simp only [legacy_Same.j0] at H
      by_cases c29 : x44_2 = true
      · subst c29
        have H1 : (some false) = some r := by rw [if_pos rfl] at H; exact H
        clear H
        have H := H1
        clear H1
        obtain rfl := Option.some.inj H
        go_wp2
        go_ret
        exact ⟨by first | rfl | (simp [errW_none, errW_some] <;> rfl) | (simp [*, errW_none, errW_some] <;> rfl), by repeat (first | (with_reducible first | exact HB.out | apply below_alloc | apply pw_below_drewN | apply below_drew1 | refine below_set ?_ GE135.out | refine below_set ?_ GE136.out) | exact HB.out)⟩
      · replace c29 := Bool.eq_false_iff.mpr c29
        subst c29
        have H1 : (if a0_6 = a1_6 then (if a0_7 = a1_7 then (if (a0_8 == a1_8) = true then ((api_Item.f kj2 l0_9 l1_9).bind fun t137 => (if t137 = true then ((slices_Equal_int_int.f kj2 l0_10 l1_10).bind fun t138 => (some t138)) else (some false))) else (some false)) else (some false)) else (some false)) = some r := by rw [if_neg (show ¬ (false = true) by decide)] at H; exact H
        clear H
        have H := H1
        clear H1
        by_cases c30 : a0_6 = a1_6
        · rw [if_pos c30] at H
          have c30b0 : (a0_6 == a1_6) = true := beq_iff_eq.mpr c30
          have c30b1 : (a0_6 != a1_6) = false := bne_eq_false_iff_eq.mpr c30
          clear c30
          by_cases c31 : a0_7 = a1_7
          · rw [if_pos c31] at H
            have c31b0 : (a0_7 == a1_7) = true := beq_iff_eq.mpr c31
            have c31b1 : (a0_7 != a1_7) = false := bne_eq_false_iff_eq.mpr c31
            clear c31
            by_cases c32 : (a0_8 == a1_8) = true
            · rw [if_pos c32] at H
              have c32b0 : (a0_8 == a1_8) = true := c32
              (try (have c32b1 : decide (a0_8 = a1_8) = true := by simpa using c32))
              (try (have c32b2 : (a0_8 == a1_8) = true := by simpa using c32))
              clear c32
              replace H := Option.bind_eq_some_iff.mp H
              obtain ⟨t137, A330, H⟩ := H
              replace H : (if t137 = true then ((slices_Equal_int_int.f kj2 l0_10 l1_10).bind fun t138 => (some t138)) else (some false)) = some r := H
              have A33 := Aside0.mk A330
              clear A330
              by_cases c34 : t137 = true
              · subst c34
                have H1 : ((slices_Equal_int_int.f kj2 l0_10 l1_10).bind fun t138 => (some t138)) = some r := by rw [if_pos rfl] at H; exact H
                clear H
                have H := H1
                clear H1
                replace H := Option.bind_eq_some_iff.mp H
                obtain ⟨t138, A350, H⟩ := H
                replace H : (some t138) = some r := H
                have A35 := Aside0.mk A350
                clear A350
                obtain rfl := Option.some.inj H
                have hnb36 := NB135_136.out
                have hnc36 := NB136_135.out
                have hcz37_0 : wc.cell? ⟨gb135, 0, none⟩ = some (.int .i64 a0_0) := (blk_cell BK135.out 0).trans rfl
                have hcz37_1 : wc.cell? ⟨gb135, 1, none⟩ = some (.string a0_1) := (blk_cell BK135.out 1).trans rfl
                have hcz37_2 : wc.cell? ⟨gb135, 2, none⟩ = some (.string a0_2) := (blk_cell BK135.out 2).trans rfl
                have hcz37_3 : wc.cell? ⟨gb135, 3, none⟩ = some (.string a0_3) := (blk_cell BK135.out 3).trans rfl
                have hcz37_4 : wc.cell? ⟨gb135, 4, none⟩ = some (.int .i64 a0_4) := (blk_cell BK135.out 4).trans rfl
                have hcz37_5 : wc.cell? ⟨gb135, 5, none⟩ = some (.int .i64 a0_5) := (blk_cell BK135.out 5).trans rfl
                have hcz37_6 : wc.cell? ⟨gb135, 6, none⟩ = some (.int .i64 a0_6) := (blk_cell BK135.out 6).trans rfl
                have hcz37_7 : wc.cell? ⟨gb135, 7, none⟩ = some (.int .i64 a0_7) := (blk_cell BK135.out 7).trans rfl
                have hcz37_8 : wc.cell? ⟨gb135, 8, none⟩ = some (.bool a0_8) := (blk_cell BK135.out 8).trans rfl
                have hcz37_9 : wc.cell? ⟨gb135, 9, none⟩ = some (.slice A0_9 l0_9.length c0_9) := (blk_cell BK135.out 9).trans rfl
                have hcz37_10 : wc.cell? ⟨gb135, 10, none⟩ = some (.slice A0_10 l0_10.length c0_10) := (blk_cell BK135.out 10).trans rfl
                have hfz37_0 := blk_frozen BK135.out 0
                have hfz37_1 := blk_frozen BK135.out 1
                have hfz37_2 := blk_frozen BK135.out 2
                have hfz37_3 := blk_frozen BK135.out 3
                have hfz37_4 := blk_frozen BK135.out 4
                have hfz37_5 := blk_frozen BK135.out 5
                have hfz37_6 := blk_frozen BK135.out 6
                have hfz37_7 := blk_frozen BK135.out 7
                have hfz37_8 := blk_frozen BK135.out 8
                have hfz37_9 := blk_frozen BK135.out 9
                have hfz37_10 := blk_frozen BK135.out 10
                have hcz38_0 : wc.cell? ⟨gb136, 0, none⟩ = some (.int .i64 a1_0) := (blk_cell BK136.out 0).trans rfl
                have hcz38_1 : wc.cell? ⟨gb136, 1, none⟩ = some (.string a1_1) := (blk_cell BK136.out 1).trans rfl
                have hcz38_2 : wc.cell? ⟨gb136, 2, none⟩ = some (.string a1_2) := (blk_cell BK136.out 2).trans rfl
                have hcz38_3 : wc.cell? ⟨gb136, 3, none⟩ = some (.string a1_3) := (blk_cell BK136.out 3).trans rfl
                have hcz38_4 : wc.cell? ⟨gb136, 4, none⟩ = some (.int .i64 a1_4) := (blk_cell BK136.out 4).trans rfl
                have hcz38_5 : wc.cell? ⟨gb136, 5, none⟩ = some (.int .i64 a1_5) := (blk_cell BK136.out 5).trans rfl
                have hcz38_6 : wc.cell? ⟨gb136, 6, none⟩ = some (.int .i64 a1_6) := (blk_cell BK136.out 6).trans rfl
                have hcz38_7 : wc.cell? ⟨gb136, 7, none⟩ = some (.int .i64 a1_7) := (blk_cell BK136.out 7).trans rfl
                have hcz38_8 : wc.cell? ⟨gb136, 8, none⟩ = some (.bool a1_8) := (blk_cell BK136.out 8).trans rfl
                have hcz38_9 : wc.cell? ⟨gb136, 9, none⟩ = some (.slice A1_9 l1_9.length c1_9) := (blk_cell BK136.out 9).trans rfl
                have hcz38_10 : wc.cell? ⟨gb136, 10, none⟩ = some (.slice A1_10 l1_10.length c1_10) := (blk_cell BK136.out 10).trans rfl
                have hfz38_0 := blk_frozen BK136.out 0
                have hfz38_1 := blk_frozen BK136.out 1
                have hfz38_2 := blk_frozen BK136.out 2
                have hfz38_3 := blk_frozen BK136.out 3
                have hfz38_4 := blk_frozen BK136.out 4
                have hfz38_5 := blk_frozen BK136.out 5
                have hfz38_6 := blk_frozen BK136.out 6
                have hfz38_7 := blk_frozen BK136.out 7
                have hfz38_8 := blk_frozen BK136.out 8
                have hfz38_9 := blk_frozen BK136.out 9
                have hfz38_10 := blk_frozen BK136.out 10
                go_wp2_with (first | (go_at_call 45; (with_reducible refine (api_Item.calls kj2 _ _ l0_9 _ _ l1_9 true _ ?side1 ?side2 ?side3 ?side4 A33.out).mono ?_); (case side1 => repeat (first | exact (Kd.C_below HR0_9.out HB.out) | (with_reducible refine Kd.C_alloc ?_ _) | (with_reducible refine Kd.C_drewN ?_ _) | (with_reducible refine Kd.C_drew ?_))); (case side2 => exact HC0_9.out); (case side3 => repeat (first | exact (Kd.C_below HR1_9.out HB.out) | (with_reducible refine Kd.C_alloc ?_ _) | (with_reducible refine Kd.C_drewN ?_ _) | (with_reducible refine Kd.C_drew ?_))); (case side4 => exact HC1_9.out); rintro e w' ⟨rfl, ⟨nd, rfl⟩⟩) | (go_at_call 64; (with_reducible refine (slices_Equal_int_int.calls kj2 _ _ l0_10 _ _ l1_10 t138 _ ?side1 ?side2 ?side3 ?side4 A35.out).mono ?_); (case side1 => repeat (first | exact (Kd.C_below HR0_10.out (by repeat (first | (with_reducible first | exact HB.out | apply below_alloc | apply pw_below_drewN | apply below_drew1 | refine below_set ?_ GE135.out | refine below_set ?_ GE136.out) | exact HB.out))) | (with_reducible refine Kd.C_alloc ?_ _) | (with_reducible refine Kd.C_drewN ?_ _) | (with_reducible refine Kd.C_drew ?_))); (case side2 => exact HC0_10.out); (case side3 => repeat (first | exact (Kd.C_below HR1_10.out (by repeat (first | (with_reducible first | exact HB.out | apply below_alloc | apply pw_below_drewN | apply below_drew1 | refine below_set ?_ GE135.out | refine below_set ?_ GE136.out) | exact HB.out))) | (with_reducible refine Kd.C_alloc ?_ _) | (with_reducible refine Kd.C_drewN ?_ _) | (with_reducible refine Kd.C_drew ?_))); (case side4 => exact HC1_10.out); rintro e w' ⟨rfl, ⟨nd, rfl⟩⟩))
                go_ret
                exact ⟨by first | rfl | (simp [errW_none, errW_some] <;> rfl) | (simp [*, errW_none, errW_some] <;> rfl), by repeat (first | (with_reducible first | exact HB.out | apply below_alloc | apply pw_below_drewN | apply below_drew1 | refine below_set ?_ GE135.out | refine below_set ?_ GE136.out) | exact HB.out)⟩
              · replace c34 := Bool.eq_false_iff.mpr c34
                subst c34
                have H1 : (some false) = some r := by rw [if_neg (show ¬ (false = true) by decide)] at H; exact H
                clear H
                have H := H1
                clear H1
                obtain rfl := Option.some.inj H
                have hnb39 := NB135_136.out
                have hnc39 := NB136_135.out
                have hcz40_0 : wc.cell? ⟨gb135, 0, none⟩ = some (.int .i64 a0_0) := (blk_cell BK135.out 0).trans rfl
                have hcz40_1 : wc.cell? ⟨gb135, 1, none⟩ = some (.string a0_1) := (blk_cell BK135.out 1).trans rfl
                have hcz40_2 : wc.cell? ⟨gb135, 2, none⟩ = some (.string a0_2) := (blk_cell BK135.out 2).trans rfl
                have hcz40_3 : wc.cell? ⟨gb135, 3, none⟩ = some (.string a0_3) := (blk_cell BK135.out 3).trans rfl
                have hcz40_4 : wc.cell? ⟨gb135, 4, none⟩ = some (.int .i64 a0_4) := (blk_cell BK135.out 4).trans rfl
                have hcz40_5 : wc.cell? ⟨gb135, 5, none⟩ = some (.int .i64 a0_5) := (blk_cell BK135.out 5).trans rfl
                have hcz40_6 : wc.cell? ⟨gb135, 6, none⟩ = some (.int .i64 a0_6) := (blk_cell BK135.out 6).trans rfl
                have hcz40_7 : wc.cell? ⟨gb135, 7, none⟩ = some (.int .i64 a0_7) := (blk_cell BK135.out 7).trans rfl
                have hcz40_8 : wc.cell? ⟨gb135, 8, none⟩ = some (.bool a0_8) := (blk_cell BK135.out 8).trans rfl
                have hcz40_9 : wc.cell? ⟨gb135, 9, none⟩ = some (.slice A0_9 l0_9.length c0_9) := (blk_cell BK135.out 9).trans rfl
                have hcz40_10 : wc.cell? ⟨gb135, 10, none⟩ = some (.slice A0_10 l0_10.length c0_10) := (blk_cell BK135.out 10).trans rfl
                have hfz40_0 := blk_frozen BK135.out 0
                have hfz40_1 := blk_frozen BK135.out 1
                have hfz40_2 := blk_frozen BK135.out 2
                have hfz40_3 := blk_frozen BK135.out 3
                have hfz40_4 := blk_frozen BK135.out 4
                have hfz40_5 := blk_frozen BK135.out 5
                have hfz40_6 := blk_frozen BK135.out 6
                have hfz40_7 := blk_frozen BK135.out 7
                have hfz40_8 := blk_frozen BK135.out 8
                have hfz40_9 := blk_frozen BK135.out 9
                have hfz40_10 := blk_frozen BK135.out 10
                have hcz41_0 : wc.cell? ⟨gb136, 0, none⟩ = some (.int .i64 a1_0) := (blk_cell BK136.out 0).trans rfl
                have hcz41_1 : wc.cell? ⟨gb136, 1, none⟩ = some (.string a1_1) := (blk_cell BK136.out 1).trans rfl
                have hcz41_2 : wc.cell? ⟨gb136, 2, none⟩ = some (.string a1_2) := (blk_cell BK136.out 2).trans rfl
                have hcz41_3 : wc.cell? ⟨gb136, 3, none⟩ = some (.string a1_3) := (blk_cell BK136.out 3).trans rfl
                have hcz41_4 : wc.cell? ⟨gb136, 4, none⟩ = some (.int .i64 a1_4) := (blk_cell BK136.out 4).trans rfl
                have hcz41_5 : wc.cell? ⟨gb136, 5, none⟩ = some (.int .i64 a1_5) := (blk_cell BK136.out 5).trans rfl
                have hcz41_6 : wc.cell? ⟨gb136, 6, none⟩ = some (.int .i64 a1_6) := (blk_cell BK136.out 6).trans rfl
                have hcz41_7 : wc.cell? ⟨gb136, 7, none⟩ = some (.int .i64 a1_7) := (blk_cell BK136.out 7).trans rfl
                have hcz41_8 : wc.cell? ⟨gb136, 8, none⟩ = some (.bool a1_8) := (blk_cell BK136.out 8).trans rfl
                have hcz41_9 : wc.cell? ⟨gb136, 9, none⟩ = some (.slice A1_9 l1_9.length c1_9) := (blk_cell BK136.out 9).trans rfl
                have hcz41_10 : wc.cell? ⟨gb136, 10, none⟩ = some (.slice A1_10 l1_10.length c1_10) := (blk_cell BK136.out 10).trans rfl
                have hfz41_0 := blk_frozen BK136.out 0
                have hfz41_1 := blk_frozen BK136.out 1
                have hfz41_2 := blk_frozen BK136.out 2
                have hfz41_3 := blk_frozen BK136.out 3
                have hfz41_4 := blk_frozen BK136.out 4
                have hfz41_5 := blk_frozen BK136.out 5
                have hfz41_6 := blk_frozen BK136.out 6
                have hfz41_7 := blk_frozen BK136.out 7
                have hfz41_8 := blk_frozen BK136.out 8
                have hfz41_9 := blk_frozen BK136.out 9
                have hfz41_10 := blk_frozen BK136.out 10
                go_wp2_with (first | (go_at_call 45; (with_reducible refine (api_Item.calls kj2 _ _ l0_9 _ _ l1_9 false _ ?side1 ?side2 ?side3 ?side4 A33.out).mono ?_); (case side1 => repeat (first | exact (Kd.C_below HR0_9.out HB.out) | (with_reducible refine Kd.C_alloc ?_ _) | (with_reducible refine Kd.C_drewN ?_ _) | (with_reducible refine Kd.C_drew ?_))); (case side2 => exact HC0_9.out); (case side3 => repeat (first | exact (Kd.C_below HR1_9.out HB.out) | (with_reducible refine Kd.C_alloc ?_ _) | (with_reducible refine Kd.C_drewN ?_ _) | (with_reducible refine Kd.C_drew ?_))); (case side4 => exact HC1_9.out); rintro e w' ⟨rfl, ⟨nd, rfl⟩⟩))
                go_ret
                exact ⟨by first | rfl | (simp [errW_none, errW_some] <;> rfl) | (simp [*, errW_none, errW_some] <;> rfl), by repeat (first | (with_reducible first | exact HB.out | apply below_alloc | apply pw_below_drewN | apply below_drew1 | refine below_set ?_ GE135.out | refine below_set ?_ GE136.out) | exact HB.out)⟩
            · rw [if_neg c32] at H
              have c32b0 : (a0_8 == a1_8) = false := by simpa using c32
              (try (have c32b1 : decide (a0_8 = a1_8) = false := by simpa using c32))
              (try (have c32b2 : (a0_8 == a1_8) = false := by simpa using c32))
              (try (have c32b3 : ¬ (a0_8 = a1_8) := by simpa using c32))
              clear c32
              obtain rfl := Option.some.inj H
              have hnb42 := NB135_136.out
              have hnc42 := NB136_135.out
              have hcz43_0 : wc.cell? ⟨gb135, 0, none⟩ = some (.int .i64 a0_0) := (blk_cell BK135.out 0).trans rfl
              have hcz43_1 : wc.cell? ⟨gb135, 1, none⟩ = some (.string a0_1) := (blk_cell BK135.out 1).trans rfl
              have hcz43_2 : wc.cell? ⟨gb135, 2, none⟩ = some (.string a0_2) := (blk_cell BK135.out 2).trans rfl
              have hcz43_3 : wc.cell? ⟨gb135, 3, none⟩ = some (.string a0_3) := (blk_cell BK135.out 3).trans rfl
              have hcz43_4 : wc.cell? ⟨gb135, 4, none⟩ = some (.int .i64 a0_4) := (blk_cell BK135.out 4).trans rfl
              have hcz43_5 : wc.cell? ⟨gb135, 5, none⟩ = some (.int .i64 a0_5) := (blk_cell BK135.out 5).trans rfl
              have hcz43_6 : wc.cell? ⟨gb135, 6, none⟩ = some (.int .i64 a0_6) := (blk_cell BK135.out 6).trans rfl
              have hcz43_7 : wc.cell? ⟨gb135, 7, none⟩ = some (.int .i64 a0_7) := (blk_cell BK135.out 7).trans rfl
              have hcz43_8 : wc.cell? ⟨gb135, 8, none⟩ = some (.bool a0_8) := (blk_cell BK135.out 8).trans rfl
              have hcz43_9 : wc.cell? ⟨gb135, 9, none⟩ = some (.slice A0_9 l0_9.length c0_9) := (blk_cell BK135.out 9).trans rfl
              have hcz43_10 : wc.cell? ⟨gb135, 10, none⟩ = some (.slice A0_10 l0_10.length c0_10) := (blk_cell BK135.out 10).trans rfl
              have hfz43_0 := blk_frozen BK135.out 0
              have hfz43_1 := blk_frozen BK135.out 1
              have hfz43_2 := blk_frozen BK135.out 2
              have hfz43_3 := blk_frozen BK135.out 3
              have hfz43_4 := blk_frozen BK135.out 4
              have hfz43_5 := blk_frozen BK135.out 5
              have hfz43_6 := blk_frozen BK135.out 6
              have hfz43_7 := blk_frozen BK135.out 7
              have hfz43_8 := blk_frozen BK135.out 8
              have hfz43_9 := blk_frozen BK135.out 9
              have hfz43_10 := blk_frozen BK135.out 10
              have hcz44_0 : wc.cell? ⟨gb136, 0, none⟩ = some (.int .i64 a1_0) := (blk_cell BK136.out 0).trans rfl
              have hcz44_1 : wc.cell? ⟨gb136, 1, none⟩ = some (.string a1_1) := (blk_cell BK136.out 1).trans rfl
              have hcz44_2 : wc.cell? ⟨gb136, 2, none⟩ = some (.string a1_2) := (blk_cell BK136.out 2).trans rfl
              have hcz44_3 : wc.cell? ⟨gb136, 3, none⟩ = some (.string a1_3) := (blk_cell BK136.out 3).trans rfl
              have hcz44_4 : wc.cell? ⟨gb136, 4, none⟩ = some (.int .i64 a1_4) := (blk_cell BK136.out 4).trans rfl
              have hcz44_5 : wc.cell? ⟨gb136, 5, none⟩ = some (.int .i64 a1_5) := (blk_cell BK136.out 5).trans rfl
              have hcz44_6 : wc.cell? ⟨gb136, 6, none⟩ = some (.int .i64 a1_6) := (blk_cell BK136.out 6).trans rfl
              have hcz44_7 : wc.cell? ⟨gb136, 7, none⟩ = some (.int .i64 a1_7) := (blk_cell BK136.out 7).trans rfl
              have hcz44_8 : wc.cell? ⟨gb136, 8, none⟩ = some (.bool a1_8) := (blk_cell BK136.out 8).trans rfl
              have hcz44_9 : wc.cell? ⟨gb136, 9, none⟩ = some (.slice A1_9 l1_9.length c1_9) := (blk_cell BK136.out 9).trans rfl
              have hcz44_10 : wc.cell? ⟨gb136, 10, none⟩ = some (.slice A1_10 l1_10.length c1_10) := (blk_cell BK136.out 10).trans rfl
              have hfz44_0 := blk_frozen BK136.out 0
              have hfz44_1 := blk_frozen BK136.out 1
              have hfz44_2 := blk_frozen BK136.out 2
              have hfz44_3 := blk_frozen BK136.out 3
              have hfz44_4 := blk_frozen BK136.out 4
              have hfz44_5 := blk_frozen BK136.out 5
              have hfz44_6 := blk_frozen BK136.out 6
              have hfz44_7 := blk_frozen BK136.out 7
              have hfz44_8 := blk_frozen BK136.out 8
              have hfz44_9 := blk_frozen BK136.out 9
              have hfz44_10 := blk_frozen BK136.out 10
              go_wp2
              go_ret
              exact ⟨by first | rfl | (simp [errW_none, errW_some] <;> rfl) | (simp [*, errW_none, errW_some] <;> rfl), by repeat (first | (with_reducible first | exact HB.out | apply below_alloc | apply pw_below_drewN | apply below_drew1 | refine below_set ?_ GE135.out | refine below_set ?_ GE136.out) | exact HB.out)⟩
          · rw [if_neg c31] at H
            have c31b0 : (a0_7 == a1_7) = false := beq_eq_false_iff_ne.mpr c31
            have c31b1 : (a0_7 != a1_7) = true := bne_iff_ne.mpr c31
            obtain rfl := Option.some.inj H
            have hnb45 := NB135_136.out
            have hnc45 := NB136_135.out
            have hcz46_0 : wc.cell? ⟨gb135, 0, none⟩ = some (.int .i64 a0_0) := (blk_cell BK135.out 0).trans rfl
            have hcz46_1 : wc.cell? ⟨gb135, 1, none⟩ = some (.string a0_1) := (blk_cell BK135.out 1).trans rfl
            have hcz46_2 : wc.cell? ⟨gb135, 2, none⟩ = some (.string a0_2) := (blk_cell BK135.out 2).trans rfl
            have hcz46_3 : wc.cell? ⟨gb135, 3, none⟩ = some (.string a0_3) := (blk_cell BK135.out 3).trans rfl
            have hcz46_4 : wc.cell? ⟨gb135, 4, none⟩ = some (.int .i64 a0_4) := (blk_cell BK135.out 4).trans rfl
            have hcz46_5 : wc.cell? ⟨gb135, 5, none⟩ = some (.int .i64 a0_5) := (blk_cell BK135.out 5).trans rfl
            have hcz46_6 : wc.cell? ⟨gb135, 6, none⟩ = some (.int .i64 a0_6) := (blk_cell BK135.out 6).trans rfl
            have hcz46_7 : wc.cell? ⟨gb135, 7, none⟩ = some (.int .i64 a0_7) := (blk_cell BK135.out 7).trans rfl
            have hcz46_8 : wc.cell? ⟨gb135, 8, none⟩ = some (.bool a0_8) := (blk_cell BK135.out 8).trans rfl
            have hcz46_9 : wc.cell? ⟨gb135, 9, none⟩ = some (.slice A0_9 l0_9.length c0_9) := (blk_cell BK135.out 9).trans rfl
            have hcz46_10 : wc.cell? ⟨gb135, 10, none⟩ = some (.slice A0_10 l0_10.length c0_10) := (blk_cell BK135.out 10).trans rfl
            have hfz46_0 := blk_frozen BK135.out 0
            have hfz46_1 := blk_frozen BK135.out 1
            have hfz46_2 := blk_frozen BK135.out 2
            have hfz46_3 := blk_frozen BK135.out 3
            have hfz46_4 := blk_frozen BK135.out 4
            have hfz46_5 := blk_frozen BK135.out 5
            have hfz46_6 := blk_frozen BK135.out 6
            have hfz46_7 := blk_frozen BK135.out 7
            have hfz46_8 := blk_frozen BK135.out 8
            have hfz46_9 := blk_frozen BK135.out 9
            have hfz46_10 := blk_frozen BK135.out 10
            have hcz47_0 : wc.cell? ⟨gb136, 0, none⟩ = some (.int .i64 a1_0) := (blk_cell BK136.out 0).trans rfl
            have hcz47_1 : wc.cell? ⟨gb136, 1, none⟩ = some (.string a1_1) := (blk_cell BK136.out 1).trans rfl
            have hcz47_2 : wc.cell? ⟨gb136, 2, none⟩ = some (.string a1_2) := (blk_cell BK136.out 2).trans rfl
            have hcz47_3 : wc.cell? ⟨gb136, 3, none⟩ = some (.string a1_3) := (blk_cell BK136.out 3).trans rfl
            have hcz47_4 : wc.cell? ⟨gb136, 4, none⟩ = some (.int .i64 a1_4) := (blk_cell BK136.out 4).trans rfl
            have hcz47_5 : wc.cell? ⟨gb136, 5, none⟩ = some (.int .i64 a1_5) := (blk_cell BK136.out 5).trans rfl
            have hcz47_6 : wc.cell? ⟨gb136, 6, none⟩ = some (.int .i64 a1_6) := (blk_cell BK136.out 6).trans rfl
            have hcz47_7 : wc.cell? ⟨gb136, 7, none⟩ = some (.int .i64 a1_7) := (blk_cell BK136.out 7).trans rfl
            have hcz47_8 : wc.cell? ⟨gb136, 8, none⟩ = some (.bool a1_8) := (blk_cell BK136.out 8).trans rfl
            have hcz47_9 : wc.cell? ⟨gb136, 9, none⟩ = some (.slice A1_9 l1_9.length c1_9) := (blk_cell BK136.out 9).trans rfl
            have hcz47_10 : wc.cell? ⟨gb136, 10, none⟩ = some (.slice A1_10 l1_10.length c1_10) := (blk_cell BK136.out 10).trans rfl
            have hfz47_0 := blk_frozen BK136.out 0
            have hfz47_1 := blk_frozen BK136.out 1
            have hfz47_2 := blk_frozen BK136.out 2
            have hfz47_3 := blk_frozen BK136.out 3
            have hfz47_4 := blk_frozen BK136.out 4
            have hfz47_5 := blk_frozen BK136.out 5
            have hfz47_6 := blk_frozen BK136.out 6
            have hfz47_7 := blk_frozen BK136.out 7
            have hfz47_8 := blk_frozen BK136.out 8
            have hfz47_9 := blk_frozen BK136.out 9
            have hfz47_10 := blk_frozen BK136.out 10
            go_wp2
            go_ret
            exact ⟨by first | rfl | (simp [errW_none, errW_some] <;> rfl) | (simp [*, errW_none, errW_some] <;> rfl), by repeat (first | (with_reducible first | exact HB.out | apply below_alloc | apply pw_below_drewN | apply below_drew1 | refine below_set ?_ GE135.out | refine below_set ?_ GE136.out) | exact HB.out)⟩
        · rw [if_neg c30] at H
          have c30b0 : (a0_6 == a1_6) = false := beq_eq_false_iff_ne.mpr c30
          have c30b1 : (a0_6 != a1_6) = true := bne_iff_ne.mpr c30
          obtain rfl := Option.some.inj H
          have hnb48 := NB135_136.out
          have hnc48 := NB136_135.out
          have hcz49_0 : wc.cell? ⟨gb135, 0, none⟩ = some (.int .i64 a0_0) := (blk_cell BK135.out 0).trans rfl
          have hcz49_1 : wc.cell? ⟨gb135, 1, none⟩ = some (.string a0_1) := (blk_cell BK135.out 1).trans rfl
          have hcz49_2 : wc.cell? ⟨gb135, 2, none⟩ = some (.string a0_2) := (blk_cell BK135.out 2).trans rfl
          have hcz49_3 : wc.cell? ⟨gb135, 3, none⟩ = some (.string a0_3) := (blk_cell BK135.out 3).trans rfl
          have hcz49_4 : wc.cell? ⟨gb135, 4, none⟩ = some (.int .i64 a0_4) := (blk_cell BK135.out 4).trans rfl
          have hcz49_5 : wc.cell? ⟨gb135, 5, none⟩ = some (.int .i64 a0_5) := (blk_cell BK135.out 5).trans rfl
          have hcz49_6 : wc.cell? ⟨gb135, 6, none⟩ = some (.int .i64 a0_6) := (blk_cell BK135.out 6).trans rfl
          have hcz49_7 : wc.cell? ⟨gb135, 7, none⟩ = some (.int .i64 a0_7) := (blk_cell BK135.out 7).trans rfl
          have hcz49_8 : wc.cell? ⟨gb135, 8, none⟩ = some (.bool a0_8) := (blk_cell BK135.out 8).trans rfl
          have hcz49_9 : wc.cell? ⟨gb135, 9, none⟩ = some (.slice A0_9 l0_9.length c0_9) := (blk_cell BK135.out 9).trans rfl
          have hcz49_10 : wc.cell? ⟨gb135, 10, none⟩ = some (.slice A0_10 l0_10.length c0_10) := (blk_cell BK135.out 10).trans rfl
          have hfz49_0 := blk_frozen BK135.out 0
          have hfz49_1 := blk_frozen BK135.out 1
          have hfz49_2 := blk_frozen BK135.out 2
          have hfz49_3 := blk_frozen BK135.out 3
          have hfz49_4 := blk_frozen BK135.out 4
          have hfz49_5 := blk_frozen BK135.out 5
          have hfz49_6 := blk_frozen BK135.out 6
          have hfz49_7 := blk_frozen BK135.out 7
          have hfz49_8 := blk_frozen BK135.out 8
          have hfz49_9 := blk_frozen BK135.out 9
          have hfz49_10 := blk_frozen BK135.out 10
          have hcz50_0 : wc.cell? ⟨gb136, 0, none⟩ = some (.int .i64 a1_0) := (blk_cell BK136.out 0).trans rfl
          have hcz50_1 : wc.cell? ⟨gb136, 1, none⟩ = some (.string a1_1) := (blk_cell BK136.out 1).trans rfl
          have hcz50_2 : wc.cell? ⟨gb136, 2, none⟩ = some (.string a1_2) := (blk_cell BK136.out 2).trans rfl
          have hcz50_3 : wc.cell? ⟨gb136, 3, none⟩ = some (.string a1_3) := (blk_cell BK136.out 3).trans rfl
          have hcz50_4 : wc.cell? ⟨gb136, 4, none⟩ = some (.int .i64 a1_4) := (blk_cell BK136.out 4).trans rfl
          have hcz50_5 : wc.cell? ⟨gb136, 5, none⟩ = some (.int .i64 a1_5) := (blk_cell BK136.out 5).trans rfl
          have hcz50_6 : wc.cell? ⟨gb136, 6, none⟩ = some (.int .i64 a1_6) := (blk_cell BK136.out 6).trans rfl
          have hcz50_7 : wc.cell? ⟨gb136, 7, none⟩ = some (.int .i64 a1_7) := (blk_cell BK136.out 7).trans rfl
          have hcz50_8 : wc.cell? ⟨gb136, 8, none⟩ = some (.bool a1_8) := (blk_cell BK136.out 8).trans rfl
          have hcz50_9 : wc.cell? ⟨gb136, 9, none⟩ = some (.slice A1_9 l1_9.length c1_9) := (blk_cell BK136.out 9).trans rfl
          have hcz50_10 : wc.cell? ⟨gb136, 10, none⟩ = some (.slice A1_10 l1_10.length c1_10) := (blk_cell BK136.out 10).trans rfl
          have hfz50_0 := blk_frozen BK136.out 0
          have hfz50_1 := blk_frozen BK136.out 1
          have hfz50_2 := blk_frozen BK136.out 2
          have hfz50_3 := blk_frozen BK136.out 3
          have hfz50_4 := blk_frozen BK136.out 4
          have hfz50_5 := blk_frozen BK136.out 5
          have hfz50_6 := blk_frozen BK136.out 6
          have hfz50_7 := blk_frozen BK136.out 7
          have hfz50_8 := blk_frozen BK136.out 8
          have hfz50_9 := blk_frozen BK136.out 9
          have hfz50_10 := blk_frozen BK136.out 10
          go_wp2
          go_ret
          exact ⟨by first | rfl | (simp [errW_none, errW_some] <;> rfl) | (simp [*, errW_none, errW_some] <;> rfl), by repeat (first | (with_reducible first | exact HB.out | apply below_alloc | apply pw_below_drewN | apply below_drew1 | refine below_set ?_ GE135.out | refine below_set ?_ GE136.out) | exact HB.out)⟩

end Go.Proofs.YtdfppdkhiejbdaaGreatDoor.PList

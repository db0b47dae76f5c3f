import Derived.Test.YtdfppdkhiejbdaaGreatDoorBa9
import Derived.Laws.Externs
import Derived.Test.YtdfppdkhiejbdaaGreatDoorProg
import Derived.Maps.OwnOps
import Derived.Maps.OwnSet
import Derived.Maps.Views
import Derived.StringKeys
import Derived.DeepKeys4
import Derived.WalkKit
import Derived.KernelRfl
section
/- Package list: slices.Clone, slices.Delete over items. -/
set_option linter.unusedVariables false
set_option linter.unusedSimpArgs false
namespace Go.Proofs.YtdfppdkhiejbdaaGreatDoor.Li
open Go.RowKit Go.Proofs.YtdfppdkhiejbdaaGreatDoor.PList Go.Proofs.YtdfppdkhiejbdaaGreatDoorW.PrintWords

set_option maxHeartbeats 2000000 in
set_option maxRecDepth 100000 in
theorem Clone_calls (A : Option Addr) (c : Nat) (xs : List S26) (w : World) (hC : Kd.C k26 w A xs.length xs) (hl : xs.length ≤ 1099511627776) :
    Calls Tryz.prog 27 #[.slice A xs.length c] w fun e w' => ∃ v, e = .returned v ∧ OwnI w.heap.size w' v xs ∧ Below w.heap.size w w' := by
  have q22 : ∀ (w : World) (a : Option Addr) (n c n' c' : Nat), (binOp .eql 22 (.slice a n c) (.slice none n' c')).run Tryz.prog w = .ok (.bool a.isNone) w := fun w a n c n' c' => Lib.run_eql_slice_nil w _ _ a n c n' c' Tryz.underlying22
  cases A with
  | none =>
    have h0 : xs = [] := by
      cases xs with
      | nil => rfl
      | cons x t =>
        obtain ⟨ad, hA, _⟩ := at_of_C hC 0 (by simp)
        cases hA
    subst h0
    clear hC
    go_enter Tryz.func27, Tryz.ntmps27
    go_wp2
    go_ret
    exact ⟨_, rfl, .inl ⟨rfl, rfl⟩, Below.refl _ _⟩
  | some ad =>
    have A := Lib.hid (cells_of_C hC)
    clear hC
    obtain ⟨i0, hi0, hz0, hz1, hz2⟩ := info_parts info26
    go_enter Tryz.func27, Tryz.ntmps27
    go_wp2_with (at_builtin; refine wpList_append_own _ rfl _ _ 22 rfl w.heap.size 26 i0 (.agg #[.string ⟨#[]⟩, .int .i64 0, .int .i64 0, .int .i64 0, .string ⟨#[]⟩, .bool false]) 6 64 Tryz.underlying22 hi0 hz0 hz1 hz2 rfl (by decide) _ _ _ rfl (World.ownsRow_made w #[] 0 (Nat.le_refl _) (Nat.zero_le _) (by simp)) ad xs.length c (cellsI xs) rfl ?qc1 ?qc2 ?qc3 ?qc4 ?qc5 ?qc6 ?_)
    case qc1 => exact cellsI_length xs
    case qc2 =>
      intro j u hj
      exact Lib.cell?_alloc_some _ (A.out j u hj)
    case qc3 => exact cellsI_one xs
    case qc4 => rw [Nat.zero_add]; unfold maxLen; omega
    case qc5 => rw [Nat.zero_add]; omega
    case qc6 => simp
    intro v' w1 hown hgrow hnil
    go_wp2
    go_ret
    refine ⟨v', rfl, OwnI.of_owns (by simpa using hown), ?_⟩
    exact ((Below.refl _ w).alloc (Nat.le_refl _) _).grown hgrow (by simp) (by intro k hk; simp [Value.ownBlock] at hk; omega)

theorem grown_drow (w : World) (g : Nat) (cs : Array Value) : w.grownBy (w.drew.setRow g cs) (some g) :=
  ⟨rfl, rfl, rfl, (grown_row w.drew g cs).size, fun k _ hk => setRow_other w.drew g k _ (fun e => hk (by simp [e]))⟩

set_option maxHeartbeats 1000000 in
set_option maxRecDepth 100000 in
theorem Delete_calls (g cap : Nat) (p q : List S26) (y : S26) (sp : List Value) (w : World) (hr : RowG w g cap (cellsI (p ++ y :: q) ++ sp)) (hc : (p ++ y :: q).length ≤ cap) :
    Calls Tryz.prog 28 #[.slice (some ⟨g, 0, none⟩) (p.length + q.length + 1) cap, .int .i64 (p.length : Int), .int .i64 ((p.length : Int) + 1)] w fun e w' =>
      e = .returned (.slice (some ⟨g, 0, none⟩) (p.length + q.length) cap) ∧ (∃ sp', RowG w' g cap (cellsI (p ++ q) ++ sp')) ∧ w.grownBy w' (some g) := by
  have hcm : cap ≤ 9223372036854775807 := by have := hr.2.2; unfold maxLen at this; omega
  have hlen : p.length + q.length + 1 ≤ cap := by simp at hc; omega
  have hL : cellsI (p ++ y :: q) ++ sp = cellsI p ++ ((cells1 y ++ cellsI q) ++ sp) := by
    rw [cellsI_append, cellsI]
    simp
  have hsplen : sp.length = (cap - (p.length + q.length + 1)) * 6 := by
    have h1 := hr.2.1
    rw [List.length_append, cellsI_length] at h1
    simp at h1
    omega
  have hL1 : splice (cellsI (p ++ y :: q) ++ sp) (p.length * 6) (cellsI q) = cellsI (p ++ q) ++ (((cells1 y ++ cellsI q).drop (q.length * 6)) ++ sp) := by
    rw [hL, show (cells1 y ++ cellsI q) ++ sp = (cells1 y ++ cellsI q).take (q.length * 6) ++ ((cells1 y ++ cellsI q).drop (q.length * 6) ++ sp) by rw [← List.append_assoc, List.take_append_drop]]
    rw [splice_eq _ _ _ _ _ (cellsI_length p) (by simp [cellsI_length, cells1_length]), cellsI_append, List.append_assoc]
  have hL2 : splice (cellsI (p ++ q) ++ (((cells1 y ++ cellsI q).drop (q.length * 6)) ++ sp)) ((p.length + q.length) * 6) zer6 = cellsI (p ++ q) ++ (zer6 ++ sp) := by
    refine splice_eq _ _ _ _ _ (by rw [cellsI_length]; simp) ?_
    simp [cellsI_length, cells1_length, zer6]
  have HR := Lib.hid hr
  have hsz : ∀ W, RowG W g cap (cellsI (p ++ y :: q) ++ sp) → ∀ ty, ∀ a : Addr, (a = ⟨g, (p.length + 1) * 6, none⟩ ∨ q = []) → ∀ cc,
      (Builtin.append_ #[22, 22] ty #[.slice (some ⟨g, 0, none⟩) p.length cap, .slice (some a) q.length cc]).run Tryz.prog W = .ok (.slice (some ⟨g, 0, none⟩) (p.length + q.length) cap) (W.setRow g (cellsI (p ++ q) ++ (((cells1 y ++ cellsI q).drop (q.length * 6)) ++ sp)).toArray) := by
    intro W hW ty a ha cc
    have := appendI hW ty p.length a q.length cc q rfl ?_ (by omega)
    · rw [hL1] at this; exact this
    · intro j v hv
      rcases ha with rfl | rfl
      · rw [Addr.add_lit, blk_cell hW.1, hL]
        have hj : j < (cellsI q).length := by
          rcases Nat.lt_or_ge j (cellsI q).length with h | h
          · exact h
          · rw [List.getElem?_eq_none h] at hv; cases hv
        simp only [List.getElem?_toArray]
        rw [List.getElem?_append_right (by rw [cellsI_length]; omega), cellsI_length, List.append_assoc, List.getElem?_append_right (by rw [cells1_length]; omega), cells1_length,
          List.getElem?_append_left (by omega), show (p.length + 1) * 6 + j - p.length * 6 - 6 = j by omega]
        exact hv
      · simp [cellsI] at hv
  have hw1 : ∀ W, RowG W g cap (cellsI (p ++ y :: q) ++ sp) → RowG (W.setRow g (cellsI (p ++ q) ++ (((cells1 y ++ cellsI q).drop (q.length * 6)) ++ sp)).toArray) g cap (cellsI (p ++ q) ++ (((cells1 y ++ cellsI q).drop (q.length * 6)) ++ sp)) := by
    intro W hW
    have := hW.put (p.length * 6) (cellsI q) (by rw [hW.2.1, cellsI_length]; omega)
    rwa [hL1] at this
  have hcl : ∀ W, RowG W g cap (cellsI (p ++ q) ++ (((cells1 y ++ cellsI q).drop (q.length * 6)) ++ sp)) → ∀ ty cc, (Builtin.clear_ #[22] ty #[.slice (some ⟨g, (p.length + q.length) * 6, none⟩) 1 cc]).run Tryz.prog W = .ok (.tuple #[]) (W.setRow g (cellsI (p ++ q) ++ (zer6 ++ sp)).toArray) := by
    intro W hW ty cc
    have := clearI hW ty (p.length + q.length) cc (by omega)
    rwa [hL2] at this
  have hw2 : ∀ W, RowG W g cap (cellsI (p ++ q) ++ (((cells1 y ++ cellsI q).drop (q.length * 6)) ++ sp)) → RowG (W.setRow g (cellsI (p ++ q) ++ (zer6 ++ sp)).toArray) g cap (cellsI (p ++ q) ++ (zer6 ++ sp)) := by
    intro W hW
    have := hW.put ((p.length + q.length) * 6) zer6 (by rw [hW.2.1]; show _ + 6 ≤ _; omega)
    rwa [hL2] at this
  clear hL hL1 hL2
  generalize (((cells1 y ++ cellsI q).drop (q.length * 6)) ++ sp) = T at hsz hw1 hcl hw2
  have HAP := Lib.hid hsz
  have HW1 := Lib.hid hw1
  have HCL := Lib.hid hcl
  have HW2 := Lib.hid hw2
  clear hr hsz hw1 hcl hw2
  obtain ⟨i, hi⟩ : ∃ i, p.length = i := ⟨_, rfl⟩
  obtain ⟨m, hm⟩ : ∃ m, q.length = m := ⟨_, rfl⟩
  rw [hi, hm] at HAP HCL hlen hsplen ⊢
  have HI := Lib.hid hi
  have HMM := Lib.hid hm
  clear hi hm hc hsplen
  have HRD := Lib.hid (show RowG w.drew g cap (cellsI (p ++ y :: q) ++ sp) from HR.out)
  have hF : i + m + 1 - i = m + 1 := by omega
  have hF2 : ∀ a : Nat, a + m - a = m := fun a => by omega
  by_cases hcap : cap = i + 1
  all_goals
    try (subst hcap; obtain rfl : m = 0 := (by omega); simp only [Nat.add_zero] at HAP HCL ⊢)
    go_enter Tryz.func28, Tryz.ntmps28
    go_upto_region 5 with fail
    refine QT.wp_region_quiet_tail (C := fun W => W = w.drew) 6 (by kernel_rfl) (by kernel_rfl) rfl ?_
    simp only [List.take_succ_cons, List.take_zero, List.drop_succ_cons, List.drop_zero]
    repeat (first | go_big_quiet_skip | (go_big_quiet_want; go_big_quiet_op; first | go_big_quiet_on | (refine ⟨_, fun _ _ => rfl, ?_⟩; go_big_quiet_on)))
    refine wpQuiet_nil ?_
    rintro W rfl
  · have hq0 : q = [] := List.length_eq_zero_iff.mp HMM.out
    refine Lib.wpList_append_run _ rfl _ _ _ _ rfl _ _ rfl rfl _ _ (HAP.out _ HRD.out _ _ (.inr hq0) _) ?_
    obtain ⟨W1, hW1⟩ : ∃ W1, W1 = w.drew.setRow g (cellsI (p ++ q) ++ T).toArray := ⟨_, rfl⟩
    rw [← hW1]
    have HR1 := Lib.hid (show RowG W1 g _ (cellsI (p ++ q) ++ T) by rw [hW1]; exact HW1.out _ HRD.out)
    have hg1 := Lib.hid (show w.grownBy W1 (some g) by rw [hW1]; exact grown_drow w g _)
    clear hW1
    have hcl := HCL.out W1 HR1.out
    have hg2 := Lib.hid (grown_row W1 g (cellsI (p ++ q) ++ (zer6 ++ sp)).toArray)
    have HR2 := Lib.hid (HW2.out W1 HR1.out)
    generalize W1.setRow g (cellsI (p ++ q) ++ (zer6 ++ sp)).toArray = W2 at *
    go_wp2_with fail
    go_ret
    exact ⟨rfl, ⟨_, HR2.out⟩, ⟨hg2.out.os.trans hg1.out.os, hg2.out.tape.trans hg1.out.tape, hg2.out.output.trans hg1.out.output, Nat.le_trans hg1.out.size hg2.out.size, fun k hk hn => (hg2.out.block k (Nat.lt_of_lt_of_le hk hg1.out.size) hn).trans (hg1.out.block k hk hn)⟩⟩
  · refine Lib.wpList_append_run _ rfl _ _ _ _ rfl _ _ rfl rfl _ _ (HAP.out _ HRD.out _ _ (.inl rfl) _) ?_
    obtain ⟨W1, hW1⟩ : ∃ W1, W1 = w.drew.setRow g (cellsI (p ++ q) ++ T).toArray := ⟨_, rfl⟩
    rw [← hW1]
    have HR1 := Lib.hid (show RowG W1 g _ (cellsI (p ++ q) ++ T) by rw [hW1]; exact HW1.out _ HRD.out)
    have hg1 := Lib.hid (show w.grownBy W1 (some g) by rw [hW1]; exact grown_drow w g _)
    clear hW1
    have hcl := HCL.out W1 HR1.out
    have hg2 := Lib.hid (grown_row W1 g (cellsI (p ++ q) ++ (zer6 ++ sp)).toArray)
    have HR2 := Lib.hid (HW2.out W1 HR1.out)
    generalize W1.setRow g (cellsI (p ++ q) ++ (zer6 ++ sp)).toArray = W2 at *
    go_wp2_with fail
    go_ret
    exact ⟨rfl, ⟨_, HR2.out⟩, ⟨hg2.out.os.trans hg1.out.os, hg2.out.tape.trans hg1.out.tape, hg2.out.output.trans hg1.out.output, Nat.le_trans hg1.out.size hg2.out.size, fun k hk hn => (hg2.out.block k (Nat.lt_of_lt_of_le hk hg1.out.size) hn).trans (hg1.out.block k hk hn)⟩⟩

end Go.Proofs.YtdfppdkhiejbdaaGreatDoor.Li
end

section
/- Package list: slices.Insert of one item. -/
set_option linter.unusedVariables false
set_option linter.unusedSimpArgs false
namespace Go.Proofs.YtdfppdkhiejbdaaGreatDoor.Li
open Go.RowKit Go.Proofs.YtdfppdkhiejbdaaGreatDoor.PList Go.Proofs.YtdfppdkhiejbdaaGreatDoorW.PrintWords

/-- A copy whose run is known by an equation. -/
theorem wp_copy_eq {P : Program} (w : World) {o : Oper} {a : Act} {K : Act → World → Prop} {Q : Exit → Act → World → Prop} (d s : Operand) (t t' : TypeId)
    (ho : o.op = .call { callee := .builtin .copy, args := #[d, s], argTypes := #[t, t'] }) (v u : Value) (hd : a.eval d = v) (hs : a.eval s = u) {v' : Value} {w' : World}
    (hr : (Builtin.copy_ #[t, t'] o.type #[v, u]).run P w = .ok v' w') (h : K (a.put o.dst v') w') : o.wp P a w K Q := by
  unfold Oper.wp execOp
  simp only [ho, resolve, invoke, builtin, Sem.run_bind, Sem.run_pure, Result.andThen_ok, List.map_toArray, List.map_cons, List.map_nil, hd, hs, hr]
  exact h
theorem wpList_copy_eq {P : Program} (w : World) {ops : Array Oper} {rest : List Oper} {o : Oper} {a : Act} {Q : Exit → Act → World → Prop} (hgd : o.guard = none) (d s : Operand) (t t' : TypeId)
    (ho : o.op = .call { callee := .builtin .copy, args := #[d, s], argTypes := #[t, t'] }) (v u : Value) (hd : a.eval d = v) (hs : a.eval s = u) {v' : Value} {w' : World}
    (hr : (Builtin.copy_ #[t, t'] o.type #[v, u]).run P w = .ok v' w') (h : wpList P ops Q rest (a.put o.dst v') w') : wpList P ops Q (o :: rest) a w :=
  wpList_plain hgd fun _ hK => wp_copy_eq w d s t t' ho v u hd hs hr (hK _ _ h)

theorem grown_both {w a b : World} {r : Option Nat} (h : w.grownBy a r) (k : a.grownBy b r) : w.grownBy b r :=
  ⟨k.os.trans h.os, k.tape.trans h.tape, k.output.trans h.output, Nat.le_trans h.size k.size, fun i hi hn => (k.block i (Nat.lt_of_lt_of_le hi h.size) hn).trans (h.block i hi hn)⟩

theorem src_one {w : World} {vb : Nat} {x : S26} (h : w.heap[vb]? = some (ib x)) : ∀ j v, (cellsI [x])[j]? = some v → w.cell? ((⟨vb, 0, none⟩ : Addr).add j) = some v := by
  intro j v hv
  rw [Addr.add_lit, Nat.zero_add]
  have hv' : (cells1 x)[j]? = some v := by simpa [cellsI] using hv
  rw [blk_cell h j]
  simpa [cells1] using hv'

theorem info26s (w : World) : (Go.sizeOf 26).run Tryz.prog w = .ok 6 w := by kernel_rfl

set_option maxHeartbeats 1000000 in
set_option maxRecDepth 100000 in
/-- At the end. -/
theorem Insert_end (base : Nat) (v : Value) (xs : List S26) (x : S26) (vb : Nat) (w : World) (ho : OwnI base w v xs) (hv : w.heap[vb]? = some (ib x)) (hb : base ≤ w.heap.size) (hl : xs.length ≤ 1099511627776) :
    Calls Tryz.prog 31 #[v, .int .i64 xs.length, .slice (some ⟨vb, 0, none⟩) 1 1] w fun e w' => ∃ v', e = .returned v' ∧ OwnI base w' v' (xs ++ [x]) ∧ w.grownBy w' v.ownBlock := by
  have HO := Lib.hid ho.owns
  have HS := Lib.hid (src_one hv)
  obtain ⟨i0, hi0, hz0, hz1, hz2⟩ := info_parts info26
  have hcase := ho
  clear ho hv
  rcases hcase with ⟨rfl, rfl⟩ | ⟨g, cap, sp, rfl, hB, hn, hg⟩
  · go_enter Tryz.func31, Tryz.ntmps31
    go_wp2_with (at_builtin; refine wpList_append_own _ rfl _ _ 22 rfl base 26 i0 (.agg #[.string ⟨#[]⟩, .int .i64 0, .int .i64 0, .int .i64 0, .string ⟨#[]⟩, .bool false]) 6 64 Tryz.underlying22 hi0 hz0 hz1 hz2 rfl (by decide) _ _ _ rfl HO.out ⟨vb, 0, none⟩ 1 1 (cellsI [x]) rfl ?qc1 ?qc2 ?qc3 ?qc4 ?qc5 ?qc6 ?_)
    case qc1 => rfl
    case qc2 => exact HS.out
    case qc3 => exact cellsI_one [x]
    case qc4 => decide
    case qc5 => decide
    case qc6 => exact hb
    intro v' w1 hown hgrow hnil
    go_wp2
    go_ret
    exact ⟨v', rfl, OwnI.of_owns (by simpa [cellsI] using hown), hgrow⟩
  · have hcm : cap ≤ 9223372036854775807 := by have := hg.2.2; unfold maxLen at this; omega
    clear hg
    by_cases hcap : cap = xs.length
    · subst hcap
      go_enter Tryz.func31, Tryz.ntmps31
      go_wp2_with (at_builtin; refine wpList_append_own _ rfl _ _ 22 rfl base 26 i0 (.agg #[.string ⟨#[]⟩, .int .i64 0, .int .i64 0, .int .i64 0, .string ⟨#[]⟩, .bool false]) 6 64 Tryz.underlying22 hi0 hz0 hz1 hz2 rfl (by decide) _ _ _ rfl HO.out ⟨vb, 0, none⟩ 1 1 (cellsI [x]) rfl ?qc1 ?qc2 ?qc3 ?qc4 ?qc5 ?qc6 ?_)
      case qc1 => rfl
      case qc2 => exact HS.out
      case qc3 => exact cellsI_one [x]
      case qc4 => unfold maxLen; omega
      case qc5 => omega
      case qc6 => exact hb
      intro v' w1 hown hgrow hnil
      go_wp2
      go_ret
      exact ⟨v', rfl, OwnI.of_owns (by rw [cellsI_append]; simpa using hown), hgrow⟩
    · go_enter Tryz.func31, Tryz.ntmps31
      go_wp2_with (at_builtin; refine wpList_append_own _ rfl _ _ 22 rfl base 26 i0 (.agg #[.string ⟨#[]⟩, .int .i64 0, .int .i64 0, .int .i64 0, .string ⟨#[]⟩, .bool false]) 6 64 Tryz.underlying22 hi0 hz0 hz1 hz2 rfl (by decide) _ _ _ rfl HO.out ⟨vb, 0, none⟩ 1 1 (cellsI [x]) rfl ?qc1 ?qc2 ?qc3 ?qc4 ?qc5 ?qc6 ?_)
      case qc1 => rfl
      case qc2 => exact HS.out
      case qc3 => exact cellsI_one [x]
      case qc4 => unfold maxLen; omega
      case qc5 => omega
      case qc6 => exact hb
      intro v' w1 hown hgrow hnil
      go_wp2
      go_ret
      exact ⟨v', rfl, OwnI.of_owns (by rw [cellsI_append]; simpa using hown), hgrow⟩

theorem get_mid {w : World} {g cap : Nat} {p q : List S26} {sp : List Value} (h : RowG w g cap (cellsI (p ++ q) ++ sp)) : ∀ j v, (cellsI q)[j]? = some v → w.cell? ((⟨g, p.length * 6, none⟩ : Addr).add j) = some v := by
  intro j v hv
  have hj : j < (cellsI q).length := by
    rcases Nat.lt_or_ge j (cellsI q).length with h | h
    · exact h
    · rw [List.getElem?_eq_none h] at hv; cases hv
  rw [Addr.add_lit, blk_cell h.1]
  simp only [List.getElem?_toArray]
  rw [cellsI_append, List.append_assoc, List.getElem?_append_right (by rw [cellsI_length]; omega), cellsI_length, List.getElem?_append_left (by omega), show p.length * 6 + j - p.length * 6 = j by omega]
  exact hv

set_option maxHeartbeats 1000000 in
set_option maxRecDepth 100000 in
/-- In the midst, with room. -/
theorem Insert_room (g cap : Nat) (p q : List S26) (x : S26) (sp : List Value) (vb : Nat) (w : World) (hr : RowG w g cap (cellsI (p ++ q) ++ sp)) (hv : w.heap[vb]? = some (ib x)) (hne : vb ≠ g) (hq : 0 < q.length) (hroom : p.length + q.length + 1 ≤ cap) :
    Calls Tryz.prog 31 #[.slice (some ⟨g, 0, none⟩) (p.length + q.length) cap, .int .i64 p.length, .slice (some ⟨vb, 0, none⟩) 1 1] w fun e w' =>
      e = .returned (.slice (some ⟨g, 0, none⟩) (p.length + q.length + 1) cap) ∧ (∃ sp', RowG w' g cap (cellsI (p ++ x :: q) ++ sp')) ∧ w.grownBy w' (some g) := by
  have hcm : cap ≤ 9223372036854775807 := by have := hr.2.2; unfold maxLen at this; omega
  have hsp : sp.length = (cap - (p.length + q.length)) * 6 := by
    have h1 := hr.2.1
    rw [List.length_append, cellsI_length] at h1
    simp at h1
    omega
  obtain ⟨Z, hZ⟩ : ∃ Z, (cellsI q ++ sp).take 6 = Z := ⟨_, rfl⟩
  obtain ⟨C, hC⟩ : ∃ C, sp.drop 6 = C := ⟨_, rfl⟩
  have hZl : Z.length = 6 := by rw [← hZ, List.length_take, List.length_append, cellsI_length]; omega
  have hL1 : splice (cellsI (p ++ q) ++ sp) ((p.length + 1) * 6) (cellsI q) = cellsI p ++ (Z ++ (cellsI q ++ C)) := by
    have e1 : cellsI (p ++ q) ++ sp = (cellsI p ++ Z) ++ (((cellsI q ++ sp).drop 6).take (q.length * 6) ++ C) := by
      have e2 : ((cellsI q ++ sp).drop 6).drop (q.length * 6) = C := by
        rw [List.drop_drop, ← hC, Nat.add_comm 6, ← List.drop_drop, ← cellsI_length q, List.drop_left]
      rw [cellsI_append, List.append_assoc, List.append_assoc, ← e2, List.take_append_drop, ← hZ, List.take_append_drop]
    rw [e1, splice_eq _ _ _ _ _ (by rw [List.length_append, cellsI_length, hZl]; omega) (by rw [List.length_take, List.length_drop, List.length_append, cellsI_length]; omega), List.append_assoc]
  have hL2 : splice (cellsI p ++ (Z ++ (cellsI q ++ C))) (p.length * 6) (cellsI [x]) = cellsI (p ++ x :: q) ++ C := by
    rw [splice_eq _ _ _ _ _ (cellsI_length p) (by rw [hZl]; rfl), cellsI_append]
    simp [cellsI]
  have hcp1 : ∀ W, RowG W g cap (cellsI (p ++ q) ++ sp) → ∀ dl sl, Nat.min sl dl = q.length → ∀ ty dc sc, (Builtin.copy_ #[22, 22] ty #[.slice (some ⟨g, (p.length + 1) * 6, none⟩) dl dc, .slice (some ⟨g, p.length * 6, none⟩) sl sc]).run Tryz.prog W = .ok (goInt q.length) (W.setRow g (cellsI p ++ (Z ++ (cellsI q ++ C))).toArray) := by
    intro W hW dl sl hmin ty dc sc
    have := copyI hW ty ((p.length + 1) * 6) dl dc ⟨g, p.length * 6, none⟩ sl sc q hmin.symm (get_mid hW) (by rw [hW.2.1]; omega)
    rwa [hL1, hmin] at this
  have hw1 : ∀ W, RowG W g cap (cellsI (p ++ q) ++ sp) → RowG (W.setRow g (cellsI p ++ (Z ++ (cellsI q ++ C))).toArray) g cap (cellsI p ++ (Z ++ (cellsI q ++ C))) := by
    intro W hW
    have := hW.put ((p.length + 1) * 6) (cellsI q) (by rw [hW.2.1, cellsI_length]; omega)
    rwa [hL1] at this
  have hcp2 : ∀ W, RowG W g cap (cellsI p ++ (Z ++ (cellsI q ++ C))) → W.heap[vb]? = some (ib x) → ∀ dl, Nat.min 1 dl = 1 → ∀ ty dc, (Builtin.copy_ #[22, 22] ty #[.slice (some ⟨g, p.length * 6, none⟩) dl dc, .slice (some ⟨vb, 0, none⟩) 1 1]).run Tryz.prog W = .ok (goInt 1) (W.setRow g (cellsI (p ++ x :: q) ++ C).toArray) := by
    intro W hW hv dl hmin ty dc
    have := copyI hW ty (p.length * 6) dl dc ⟨vb, 0, none⟩ 1 1 [x] hmin.symm (src_one hv) (by rw [hW.2.1]; show _ + 1 * 6 ≤ _; omega)
    rwa [hL2, hmin] at this
  have hw2 : ∀ W, RowG W g cap (cellsI p ++ (Z ++ (cellsI q ++ C))) → RowG (W.setRow g (cellsI (p ++ x :: q) ++ C).toArray) g cap (cellsI (p ++ x :: q) ++ C) := by
    intro W hW
    have := hW.put (p.length * 6) (cellsI [x]) (by rw [hW.2.1]; show _ + 6 ≤ _; omega)
    rwa [hL2] at this
  have hov : ∀ lb cb, (callFunc 48 #[.slice (some ⟨vb, 0, none⟩) 1 1, .slice (some ⟨g, (p.length + 1) * 6, none⟩) lb cb]).run Tryz.prog w = .ok (.value (.bool false)) w := fun lb cb => by
    rw [run_callFunc_extern Tryz.func48 (by kernel_rfl) (by kernel_rfl) (by kernel_rfl) (e := Extern.SlicesOverlaps.overlaps #[22, 22] #[4]) (by kernel_rfl),
      Lib.run_overlaps_apart w 22 4 26 Tryz.underlying22 6 info26s ⟨vb, 0, none⟩ ⟨g, (p.length + 1) * 6, none⟩ 1 1 lb cb hne 26 26 6 (cap * 6) (by simp [World.shape?, hv]) (by
        have := hr.2.1
        simp [World.shape?, hr.1, this]) (by omega) (blk_frozen hv 0) (blk_frozen hv 6)]
    rfl
  clear hL1 hL2
  generalize hX : cellsI (p ++ x :: q) ++ C = X2 at *
  generalize cellsI p ++ (Z ++ (cellsI q ++ C)) = X1 at *
  have HX := Lib.hid hX
  clear hX
  have HR := Lib.hid hr
  have HV := Lib.hid hv
  obtain ⟨i, hi⟩ : ∃ i, p.length = i := ⟨_, rfl⟩
  obtain ⟨m, hm⟩ : ∃ m, q.length = m := ⟨_, rfl⟩
  rw [hi, hm] at hcp1
  rw [hi] at hov hcp2
  rw [hi, hm] at hroom ⊢
  rw [hm] at hq
  have H1 := Lib.hid hcp1
  have H2 := Lib.hid hcp2
  have HW1 := Lib.hid hw1
  have HW2 := Lib.hid hw2
  clear hi hm hcp1 hcp2 hw1 hw2 hr hv hZ hC hZl hsp
  have HRD := Lib.hid (show RowG w.drew g cap (cellsI (p ++ q) ++ sp) from HR.out)
  go_enter Tryz.func31, Tryz.ntmps31
  go_upto_region 15 with (simp only [hov])
  refine QT.wp_region_quiet_tail (C := fun W => W = w.drew) 8 (by kernel_rfl) (by kernel_rfl) rfl ?_
  simp only [List.take_succ_cons, List.take_zero, List.drop_succ_cons, List.drop_zero]
  repeat (first | go_big_quiet_skip | (go_big_quiet_want; go_big_quiet_op; first | go_big_quiet_on | (refine ⟨_, fun _ _ => rfl, ?_⟩; go_big_quiet_on)))
  refine wpQuiet_nil ?_
  rintro W rfl
  refine wpList_copy_eq _ rfl _ _ _ _ rfl _ _ rfl rfl (H1.out _ HRD.out _ _ (by simp only [Nat.min_def]; split <;> omega) _ _ _) ?_
  obtain ⟨W1, hW1⟩ : ∃ W1, W1 = w.drew.setRow g X1.toArray := ⟨_, rfl⟩
  rw [← hW1]
  have HR1 := Lib.hid (show RowG W1 g cap X1 by rw [hW1]; exact HW1.out _ HRD.out)
  have hg1 := Lib.hid (show w.grownBy W1 (some g) by rw [hW1]; exact grown_drow w g _)
  have hv1 := Lib.hid (show W1.heap[vb]? = some (ib x) from blk_grown HV.out hg1.out (by simpa using hne))
  clear hW1
  try simp only [Act.put, List.setIfInBounds_toArray, List.set_cons_zero, List.set_cons_succ]
  go_wp2_with (refine wpList_copy_eq _ rfl (.tmp 80) (.tmp 81) 22 22 rfl _ _ rfl rfl (H2.out _ HR1.out hv1.out _ (by simp only [Nat.min_def]; split <;> omega) _ _) ?_)
  go_ret
  exact ⟨rfl, ⟨C, by rw [HX.out]; exact HW2.out _ HR1.out⟩, grown_both hg1.out (grown_row W1 g X2.toArray)⟩

set_option maxHeartbeats 1000000 in
set_option maxRecDepth 100000 in
/-- In the midst, without room. -/
theorem Insert_grow (base g cap : Nat) (p q : List S26) (x : S26) (sp : List Value) (vb : Nat) (w : World) (hr : RowG w g cap (cellsI (p ++ q) ++ sp)) (hv : w.heap[vb]? = some (ib x)) (hq : 0 < q.length) (hroom : p.length + q.length = cap) (hb : base ≤ w.heap.size) (hl : cap ≤ 1099511627776) :
    Calls Tryz.prog 31 #[.slice (some ⟨g, 0, none⟩) (p.length + q.length) cap, .int .i64 p.length, .slice (some ⟨vb, 0, none⟩) 1 1] w fun e w' =>
      ∃ v', e = .returned v' ∧ OwnI base w' v' (p ++ x :: q) ∧ w.grownBy w' none := by
  subst hroom
  obtain ⟨i0, hi0, hz0, hz1, hz2⟩ := info_parts info26
  have hgw : g < w.heap.size := blk_lt hr.1
  have hvw : vb < w.heap.size := blk_lt hv
  obtain ⟨G, hG⟩ : ∃ G, grownCap w (p.length + q.length + 1) (p.length + q.length) 26 = G := ⟨_, rfl⟩
  have hGn : p.length + q.length + 1 ≤ G := by rw [← hG]; exact grownCap_ge w _ _ _
  have hGm : G ≤ maxLen := by rw [← hG]; exact grownCap_le_maxLen w _ _ _ (by unfold maxLen; omega)
  have hG63 : G ≤ 9223372036854775807 := by unfold maxLen at hGm; omega
  obtain ⟨ZA, hZA⟩ : ∃ ZA, (Builtin.zeroCells (Value.agg #[.string ⟨#[]⟩, .int .i64 0, .int .i64 0, .int .i64 0, .string ⟨#[]⟩, .bool false]).cells (q.length + 1)).toList = ZA := ⟨_, rfl⟩
  obtain ⟨ZB, hZB⟩ : ∃ ZB, (Builtin.zeroCells (Value.agg #[.string ⟨#[]⟩, .int .i64 0, .int .i64 0, .int .i64 0, .string ⟨#[]⟩, .bool false]).cells (G - (p.length + q.length + 1))).toList = ZB := ⟨_, rfl⟩
  have hZAl : ZA.length = (q.length + 1) * 6 := by rw [← hZA, Array.length_toList, size_zeroCells]; rfl
  have hZBl : ZB.length = (G - (p.length + q.length + 1)) * 6 := by rw [← hZB, Array.length_toList, size_zeroCells]; rfl
  have hold : (Builtin.firstCells i0.size p.length (.slice (some ⟨g, 0, none⟩) p.length (p.length + q.length))).run Tryz.prog w.drew = .ok (cellsI p).toArray w.drew := by
    rw [hz1]
    refine run_firstCells_some w.drew 6 p.length ⟨g, 0, none⟩ p.length _ (cellsI p) (cellsI_length p) (fun j v hj => ?_)
    rw [Addr.add_lit, Nat.zero_add]
    show w.cell? _ = _
    have hjl : j < (cellsI p).length := by
      rcases Nat.lt_or_ge j (cellsI p).length with h | h
      · exact h
      · rw [List.getElem?_eq_none h] at hj; cases hj
    rw [blk_cell hr.1]
    simp only [List.getElem?_toArray]
    rw [cellsI_append, List.append_assoc, List.getElem?_append_left hjl]
    exact hj
  have hap : ∀ kk : Int, kk = (q.length : Int) + 1 → ∀ ty, (Builtin.append_ #[22, 3] ty #[.slice (some ⟨g, 0, none⟩) p.length (p.length + q.length), .int .i64 kk]).run Tryz.prog w =
      .ok (.slice (some ⟨w.heap.size, 0, none⟩) (p.length + q.length + 1) G) (w.drew.alloc (.cells (cellsI p ++ (ZA ++ ZB)).toArray 26)) := fun kk hkk ty => by
    have h := Lib.run_append_grow_zeros w 22 3 ty 26 i0 _ .i64 .i64 Tryz.underlying22 Tryz.underlying3 hi0 hz0 (some ⟨g, 0, none⟩) p.length (p.length + q.length) (cellsI p) hold (q.length + 1) (by omega) (by rw [hz1]; omega) (by omega) (by omega) (by rw [hz2]; omega)
      (by rw [hz2]; exact growslice_fits (by omega) (by omega))
    rw [← Nat.add_assoc, hG] at h
    rw [show kk = ((q.length + 1 : Nat) : Int) by omega, h]
    congr 3
    apply Array.ext'
    simp [← hZA, ← hZB]
  have hrow0 : RowG (w.drew.alloc (.cells (cellsI p ++ (ZA ++ ZB)).toArray 26)) w.heap.size G (cellsI p ++ (ZA ++ ZB)) :=
    ⟨blk_new w.drew _, by rw [List.length_append, List.length_append, cellsI_length, hZAl, hZBl]; omega, hGm⟩
  have hL1 : splice (cellsI p ++ (ZA ++ ZB)) (p.length * 6) (cellsI [x]) = cellsI (p ++ [x]) ++ (ZA.drop 6 ++ ZB) := by
    rw [show ZA ++ ZB = ZA.take 6 ++ (ZA.drop 6 ++ ZB) by rw [← List.append_assoc, List.take_append_drop]]
    rw [splice_eq _ _ _ _ _ (cellsI_length p) (by rw [List.length_take, hZAl]; show min 6 _ = 6; omega), cellsI_append, List.append_assoc]
  have hL2 : splice (cellsI (p ++ [x]) ++ (ZA.drop 6 ++ ZB)) ((p.length + 1) * 6) (cellsI q) = cellsI (p ++ x :: q) ++ ZB := by
    rw [splice_eq _ _ _ _ _ (by rw [cellsI_length]; simp) (by rw [List.length_drop, hZAl, cellsI_length]; omega)]
    rw [show p ++ x :: q = (p ++ [x]) ++ q by simp, cellsI_append (p ++ [x]) q, List.append_assoc]
  have hcp1 : ∀ W, RowG W w.heap.size G (cellsI p ++ (ZA ++ ZB)) → W.heap[vb]? = some (ib x) → ∀ dl, Nat.min 1 dl = 1 → ∀ ty dc, (Builtin.copy_ #[22, 22] ty #[.slice (some ⟨w.heap.size, p.length * 6, none⟩) dl dc, .slice (some ⟨vb, 0, none⟩) 1 1]).run Tryz.prog W = .ok (goInt 1) (W.setRow w.heap.size (cellsI (p ++ [x]) ++ (ZA.drop 6 ++ ZB)).toArray) := by
    intro W hW hv dl hmin ty dc
    have := copyI hW ty (p.length * 6) dl dc ⟨vb, 0, none⟩ 1 1 [x] hmin.symm (src_one hv) (by rw [hW.2.1]; show _ + 1 * 6 ≤ _; omega)
    rwa [hL1, hmin] at this
  have hw1 : ∀ W, RowG W w.heap.size G (cellsI p ++ (ZA ++ ZB)) → RowG (W.setRow w.heap.size (cellsI (p ++ [x]) ++ (ZA.drop 6 ++ ZB)).toArray) w.heap.size G (cellsI (p ++ [x]) ++ (ZA.drop 6 ++ ZB)) := by
    intro W hW
    have := hW.put (p.length * 6) (cellsI [x]) (by rw [hW.2.1]; show _ + 6 ≤ _; omega)
    rwa [hL1] at this
  have hcp2 : ∀ W, RowG W w.heap.size G (cellsI (p ++ [x]) ++ (ZA.drop 6 ++ ZB)) → RowG W g (p.length + q.length) (cellsI (p ++ q) ++ sp) → ∀ dl sl, Nat.min sl dl = q.length → ∀ ty dc sc, (Builtin.copy_ #[22, 22] ty #[.slice (some ⟨w.heap.size, (p.length + 1) * 6, none⟩) dl dc, .slice (some ⟨g, p.length * 6, none⟩) sl sc]).run Tryz.prog W = .ok (goInt q.length) (W.setRow w.heap.size (cellsI (p ++ x :: q) ++ ZB).toArray) := by
    intro W hW hr dl sl hmin ty dc sc
    have := copyI hW ty ((p.length + 1) * 6) dl dc ⟨g, p.length * 6, none⟩ sl sc q hmin.symm (get_mid hr) (by rw [hW.2.1]; omega)
    rwa [hL2, hmin] at this
  have hw2 : ∀ W, RowG W w.heap.size G (cellsI (p ++ [x]) ++ (ZA.drop 6 ++ ZB)) → RowG (W.setRow w.heap.size (cellsI (p ++ x :: q) ++ ZB).toArray) w.heap.size G (cellsI (p ++ x :: q) ++ ZB) := by
    intro W hW
    have := hW.put ((p.length + 1) * 6) (cellsI q) (by rw [hW.2.1, cellsI_length]; omega)
    rwa [hL2] at this
  clear hL1 hL2
  have HR := Lib.hid hr
  have HV := Lib.hid hv
  obtain ⟨N, hN⟩ : ∃ N, w.heap.size = N := ⟨_, rfl⟩
  have HN := Lib.hid hN
  obtain ⟨W0, hW0⟩ : ∃ W0, w.drew.alloc (.cells (cellsI p ++ (ZA ++ ZB)).toArray 26) = W0 := ⟨_, rfl⟩
  have hg0 := Lib.hid (show w.grownBy W0 none by rw [← hW0]; exact ⟨rfl, rfl, rfl, by rw [World.size_alloc]; exact Nat.le_succ _, fun k hk _ => Below.heap_alloc w.drew _ k hk⟩)
  have hv0 := Lib.hid (show W0.heap[vb]? = some (ib x) from blk_grown hv hg0.out (by simp))
  have hr0 := Lib.hid (show RowG W0 g (p.length + q.length) (cellsI (p ++ q) ++ sp) from ⟨blk_grown hr.1 hg0.out (by simp), hr.2⟩)
  rw [hW0] at hrow0 hap
  rw [hN] at hrow0 hap hcp1 hw1 hcp2 hw2 hgw hvw hb
  have HROW0 := Lib.hid hrow0
  obtain ⟨X1, hX1⟩ : ∃ X1, cellsI p ++ (ZA ++ ZB) = X1 := ⟨_, rfl⟩
  obtain ⟨X2, hX2⟩ : ∃ X2, cellsI (p ++ [x]) ++ (ZA.drop 6 ++ ZB) = X2 := ⟨_, rfl⟩
  obtain ⟨X3, hX3⟩ : ∃ X3, cellsI (p ++ x :: q) ++ ZB = X3 := ⟨_, rfl⟩
  rw [hX1] at hcp1 hw1 HROW0
  rw [hX2] at hcp1 hw1 hcp2 hw2
  rw [hX3] at hcp2 hw2
  have HX3 := Lib.hid hX3
  have H1 := Lib.hid hcp1
  have H2 := Lib.hid hcp2
  have HW1 := Lib.hid hw1
  have HW2 := Lib.hid hw2
  have HNG : g ≠ N := by omega
  have HNV : vb ≠ N := by omega
  have HL : (p ++ x :: q).length = p.length + q.length + 1 := by simp; omega
  have HLH := Lib.hid HL
  obtain ⟨i, hi⟩ : ∃ i, p.length = i := ⟨_, rfl⟩
  obtain ⟨m, hm⟩ : ∃ m, q.length = m := ⟨_, rfl⟩
  rw [hi, hm] at hap hcp2 H2 hr0 HLH hGn hl ⊢
  rw [hm] at hq
  rw [hi] at H1
  have HAP := Lib.hid hap
  clear hi hm hcp1 hcp2 hw1 hw2 hr hv hZA hZB hZAl hZBl hold hap hrow0 hW0 hX1 hX2 hX3 HL hG hN hz0 hz1 hz2 hi0 i0
  go_enter Tryz.func31, Tryz.ntmps31
  go_upto_region 9 with fail
  go_upto_region 10 with (at_builtin; refine Lib.wpList_append_run _ rfl (.tmp 34) (.tmp 39) _ _ rfl _ _ rfl rfl _ _ (HAP.out _ (by omega) _) ?_)
  have hcA := fun ty dc => H1.out W0 HROW0.out hv0.out (i + m + 1 - i) (by simp only [Nat.min_def]; split <;> omega) ty dc
  go_upto_region 11 with fail
  clear hcA
  obtain ⟨W1, hW1⟩ : ∃ W1, W1 = W0.setRow N X2.toArray := ⟨_, rfl⟩
  rw [← hW1]
  have HR1 := Lib.hid (show RowG W1 N G X2 by rw [hW1]; exact HW1.out _ HROW0.out)
  have hg1 := Lib.hid (show W0.grownBy W1 (some N) by rw [hW1]; exact grown_row W0 N _)
  have hr1 := Lib.hid (show RowG W1.drew g (i + m) (cellsI (p ++ q) ++ sp) from ⟨blk_drew (blk_grown hr0.out.1 hg1.out (by simpa using HNG)), hr0.out.2⟩)
  have HR1D := Lib.hid (show RowG W1.drew N G X2 from HR1.out)
  clear hW1
  refine QT.wp_region_quiet_tail (C := fun W => W = W1.drew) 8 (by kernel_rfl) (by kernel_rfl) rfl ?_
  simp only [List.take_succ_cons, List.take_zero, List.drop_succ_cons, List.drop_zero]
  repeat (first | go_big_quiet_skip | (go_big_quiet_want; go_big_quiet_op; first | go_big_quiet_on | (refine ⟨_, fun _ _ => rfl, ?_⟩; go_big_quiet_on)))
  refine wpQuiet_nil ?_
  rintro W rfl
  refine wpList_copy_eq _ rfl _ _ _ _ rfl _ _ rfl rfl (H2.out _ HR1D.out hr1.out _ _ (by simp only [Nat.min_def]; split <;> omega) _ _ _) ?_
  obtain ⟨W2, hW2⟩ : ∃ W2, W2 = W1.drew.setRow N X3.toArray := ⟨_, rfl⟩
  rw [← hW2]
  have HR2 := Lib.hid (show RowG W2 N G X3 by rw [hW2]; exact HW2.out _ HR1D.out)
  have hg2 := Lib.hid (show W1.grownBy W2 (some N) by rw [hW2]; exact grown_drow W1 N _)
  clear hW2
  try simp only [Act.put, List.setIfInBounds_toArray, List.set_cons_zero, List.set_cons_succ]
  go_wp2_with fail
  go_ret
  refine ⟨_, rfl, .inr ⟨N, G, ZB, (by rw [HLH.out]; rfl), hb, (by rw [HLH.out]; exact hGn), (by rw [HX3.out]; exact HR2.out)⟩, ?_⟩
  have hgg := grown_both hg1.out hg2.out
  exact ⟨hgg.os.trans hg0.out.os, hgg.tape.trans hg0.out.tape, hgg.output.trans hg0.out.output, Nat.le_trans hg0.out.size hgg.size, fun k hk hn => (hgg.block k (Nat.lt_of_lt_of_le hk hg0.out.size) (by have := HN.out; intro e; injection e; omega)).trans (hg0.out.block k hk hn)⟩

/-- One item laid in. -/
theorem Insert_calls (base : Nat) (v : Value) (p q : List S26) (x : S26) (vb : Nat) (w : World) (ho : OwnI base w v (p ++ q)) (hv : w.heap[vb]? = some (ib x)) (hne : v.ownBlock ≠ some vb) (hb : base ≤ w.heap.size) (hl : (p ++ q).length ≤ 1099511627776) :
    Calls Tryz.prog 31 #[v, .int .i64 p.length, .slice (some ⟨vb, 0, none⟩) 1 1] w fun e w' => ∃ v', e = .returned v' ∧ OwnI base w' v' (p ++ x :: q) ∧ Below base w w' := by
  have hgb : ∀ {w'}, w.grownBy w' v.ownBlock → Below base w w' := fun {w'} hg => by
    refine (Below.refl base w).grown hg hb ?_
    rcases ho with ⟨rfl, _⟩ | ⟨g, cap, sp, rfl, hB, _⟩
    · intro k hk; simp [Value.ownBlock] at hk
    · intro k hk; simp [Value.ownBlock] at hk; omega
  by_cases hq : q = []
  · subst hq
    rw [List.append_nil] at ho hl
    refine Calls.mono (Insert_end base v p x vb w ho hv hb hl) ?_
    rintro e w' ⟨v', he, h1, h2⟩
    exact ⟨v', he, h1, hgb h2⟩
  · have hql : 0 < q.length := List.length_pos_iff.mpr hq
    rcases ho with ⟨rfl, h0⟩ | ⟨g, cap, sp, rfl, hB, hn, hr⟩
    · exact absurd (List.append_eq_nil_iff.mp h0).2 hq
    · rw [List.length_append] at hn hl ⊢
      by_cases hroom : p.length + q.length + 1 ≤ cap
      · refine Calls.mono (Insert_room g cap p q x sp vb w hr hv (by simpa [Value.ownBlock, eq_comm] using hne) hql hroom) ?_
        rintro e w' ⟨he, ⟨sp', h1⟩, h2⟩
        refine ⟨_, he, .inr ⟨g, cap, sp', ?_, hB, ?_, h1⟩, hgb (by simpa [Value.ownBlock] using h2)⟩
        · congr 1; simp; omega
        · simp; omega
      · refine Calls.mono (Insert_grow base g cap p q x sp vb w hr hv hql (by omega) hb (by omega)) ?_
        rintro e w' ⟨v', he, h1, h2⟩
        refine ⟨v', he, h1, ?_⟩
        exact (Below.refl base w).grown h2 hb (by intro k hk; cases hk)

end Go.Proofs.YtdfppdkhiejbdaaGreatDoor.Li
end

section
/- A map from items to bools that the call has made, read as a set. -/
set_option linter.unusedVariables false
set_option linter.unusedSimpArgs false
namespace Go.Proofs.YtdfppdkhiejbdaaGreatDoor.SetK
open Go.RowKit Go.Maps

open Go.Proofs.YtdfppdkhiejbdaaGreatDoor.PList Go.Proofs.YtdfppdkhiejbdaaGreatDoor.Li
theorem laidOut : laidOutB Tryz.prog = true := by kernel_rfl
theorem row : (26 : TypeId) < Tryz.prog.types.size := of_decide_eq_true (by kernel_rfl)
theorem wide : (match Tryz.prog.underlying 26 with | some (.array _ _) | some (.struct _) => true | _ => false) = true := by kernel_rfl
set_option maxRecDepth 1000000 in
theorem klaw : WideMaps.KeyLaw Tryz.prog 26 := deep_law_laid laidOut (m := 2) (by omega) row (by kernel_rfl) wide
theorem law : Keyed Tryz.prog 26 := Keyed.of_law klaw

/-- A key as bytes. -/
noncomputable def kb (x : S26) : List UInt8 := match keyOf Tryz.prog 26 (iv x) with | some (.string l) => l | _ => []

def Kx (x : S26) : Prop := x.f0.size ≤ maxLen ∧ (Lit.int .i64 x.f1).wf = true ∧ (Lit.int .i64 x.f2).wf = true ∧ (Lit.int .i64 x.f3).wf = true ∧ x.f4.size ≤ maxLen

set_option maxRecDepth 1000000 in
theorem key_some (x : S26) (h : Kx x) : keyOf Tryz.prog 26 (iv x) = some (.string (kb x)) := by
  obtain ⟨h0, h1, h2, h3, h4⟩ := h
  have hk : Tryz.prog.keyType 26 = true := by kernel_rfl
  have hc : Tryz.prog.cellsOf 26 = 6 := by kernel_rfl
  have c9 : Tryz.prog.cellsOf 9 = 1 := by kernel_rfl
  have c3 : Tryz.prog.cellsOf 3 = 1 := by kernel_rfl
  have c4 : Tryz.prog.cellsOf 4 = 1 := by kernel_rfl
  obtain ⟨m, hm⟩ : ∃ m, Tryz.prog.types.size = m + 1 := ⟨Tryz.prog.types.size - 1, (Nat.succ_pred_eq_of_pos (Nat.lt_of_le_of_lt (Nat.zero_le _) row)).symm⟩
  have hf : (iv x).formed Tryz.prog 26 = true := by simp [Value.formed, Tryz.underlying26, hc]
  have : ∃ l, keyOf Tryz.prog 26 (iv x) = some (.string l) := by
    unfold keyOf
    rw [Tryz.underlying26]
    simp only [hk, hf, hm, Bool.and_self, if_true]
    simp [Program.keyLits, Tryz.underlying26, Tryz.underlying9, Tryz.underlying3, Tryz.underlying4, hc, c9, c3, c4, h0, h1, h2, h3, h4, Value.cells]
  obtain ⟨l, hl⟩ := this
  unfold kb
  rw [hl]

theorem kb_inj {x y : S26} (hx : Kx x) (hy : Kx y) (h : kb x = kb y) : x = y := by
  have h1 := key_some x hx
  have h2 := key_some y hy
  rw [h] at h1
  have := klaw.inj h1 h2
  cases x; cases y
  simp at this
  obtain ⟨a, b, c, d, e, f⟩ := this
  subst a b c d e f
  rfl
theorem zeroE (w : World) : (zeroValue 4).run Tryz.prog w = .ok (.bool false) w := by kernel_rfl

/-- Block b is a map in which just the texts of xs stand, each with 'true'. -/
def SetK (w : World) (b n : Nat) (xs : List (List UInt8)) : Prop :=
  ∃ D : DataW Unit, w.ownsMap Tryz.prog 26 (plainElem Tryz.prog 4) b n D ∧ IsMap D ∧ ∀ l : List UInt8, D.atKey (.string l) (.lit (.bool false)) = .lit (.bool (decide (l ∈ xs)))

theorem made (w : World) : SetK (w.alloc (.map #[] 0)) w.heap.size 0 [] :=
  ⟨.map [], World.ownsMap_made _ _ _ _, isMap_empty, fun l => by rw [atKey_of_not_has rfl]; simp⟩

theorem kept {w w' : World} {b n : Nat} {xs : List (List UInt8)} (h : SetK w b n xs) {row : Option Nat} (hg : w.grownBy w' row) (hne : some b ≠ row) : SetK w' b n xs := by
  obtain ⟨D, h1, h2⟩ := h
  exact ⟨D, h1.kept hg hne, h2⟩

theorem below {w w' : World} {b n : Nat} {xs : List (List UInt8)} (h : SetK w b n xs) (hb : Below w.heap.size w w') : SetK w' b n xs :=
  kept h (row := none) ⟨hb.os, hb.tape, hb.output, hb.size, fun k hk _ => hb.block k hk⟩ (by simp)

theorem alloc {w : World} {b n : Nat} {xs : List (List UInt8)} (h : SetK w b n xs) (o : Obj) : SetK (w.alloc o) b n xs := by
  obtain ⟨D, h1, h2⟩ := h
  exact ⟨D, h1.alloc o, h2⟩

theorem lt {w : World} {b n : Nat} {xs : List (List UInt8)} (h : SetK w b n xs) : b < w.heap.size := by
  obtain ⟨D, h1, _⟩ := h
  exact h1.lt

set_option maxRecDepth 1000000 in
theorem look {w : World} {b n : Nat} {xs : List (List UInt8)} (h : SetK w b n xs) (v : Value) (l0 : List UInt8) (hs : keyOf Tryz.prog 26 v = some (.string l0)) :
    (Instr.lookup 43 (.map (some b)) v false).run Tryz.prog w = .ok (.bool (decide (l0 ∈ xs))) w := by
  obtain ⟨D, h1, _, h3⟩ := h
  obtain ⟨vv, ps, hrun, hv⟩ := h1.lookup law Tryz.underlying43 (zeroE w) (plainElem_bool Tryz.underlying4 false) hs
  rw [h3] at hv
  rw [hrun]
  have hb := Tryz.underlying4
  unfold plainElem at hv
  rw [hb] at hv
  cases vv <;> simp at hv
  rw [hv.1]

theorem put {w : World} {b n : Nat} {xs : List (List UInt8)} (h : SetK w b n xs) (v : Value) (l0 : List UInt8) (hs : keyOf Tryz.prog 26 v = some (.string l0)) (hn : n < maxLen) :
    ∃ w', (Instr.mapUpdate 43 (.map (some b)) v (.bool true)).run Tryz.prog w = .ok () w' ∧ SetK w' b (n + 1) (l0 :: xs) ∧ w.grownBy w' (some b) := by
  obtain ⟨D, h1, h2, h3⟩ := h
  obtain ⟨w', hrun, h4, h5⟩ := h1.update law Tryz.underlying43 hn hs (plainElem_bool Tryz.underlying4 true)
  refine ⟨w', hrun, ⟨_, h4, h2.put _ _, fun l => ?_⟩, h5⟩
  by_cases e : l = l0
  · subst e
    rw [atKey_put_same h2 (show WideAt.IsKeyLit (.string l) from trivial)]
    simp
  · rw [atKey_put_other (by simpa using e), h3]
    simp [e]

end Go.Proofs.YtdfppdkhiejbdaaGreatDoor.SetK
end

section
/- A map from numbers to bools that the call has made, read as a set. -/
set_option linter.unusedVariables false
set_option linter.unusedSimpArgs false
namespace Go.Proofs.YtdfppdkhiejbdaaGreatDoor.SetI
open Go.RowKit Go.Maps

theorem law : Keyed Tryz.prog 3 := int_keyed Tryz.underlying3
theorem zeroE (w : World) : (zeroValue 4).run Tryz.prog w = .ok (.bool false) w := by kernel_rfl

/-- Block b is a map in which just the texts of xs stand, each with 'true'. -/
def SetI (w : World) (b n : Nat) (xs : List Int) : Prop :=
  ∃ D : DataW Unit, w.ownsMap Tryz.prog 3 (plainElem Tryz.prog 4) b n D ∧ IsMap D ∧ ∀ l : Int, D.atKey (.int .i64 l) (.lit (.bool false)) = .lit (.bool (decide (l ∈ xs)))

theorem made (w : World) : SetI (w.alloc (.map #[] 0)) w.heap.size 0 [] :=
  ⟨.map [], World.ownsMap_made _ _ _ _, isMap_empty, fun l => by rw [atKey_of_not_has rfl]; simp⟩

theorem kept {w w' : World} {b n : Nat} {xs : List Int} (h : SetI w b n xs) {row : Option Nat} (hg : w.grownBy w' row) (hne : some b ≠ row) : SetI w' b n xs := by
  obtain ⟨D, h1, h2⟩ := h
  exact ⟨D, h1.kept hg hne, h2⟩

theorem below {w w' : World} {b n : Nat} {xs : List Int} (h : SetI w b n xs) (hb : Below w.heap.size w w') : SetI w' b n xs :=
  kept h (row := none) ⟨hb.os, hb.tape, hb.output, hb.size, fun k hk _ => hb.block k hk⟩ (by simp)

theorem alloc {w : World} {b n : Nat} {xs : List Int} (h : SetI w b n xs) (o : Obj) : SetI (w.alloc o) b n xs := by
  obtain ⟨D, h1, h2⟩ := h
  exact ⟨D, h1.alloc o, h2⟩

theorem lt {w : World} {b n : Nat} {xs : List Int} (h : SetI w b n xs) : b < w.heap.size := by
  obtain ⟨D, h1, _⟩ := h
  exact h1.lt

set_option maxRecDepth 100000 in
theorem look {w : World} {b n : Nat} {xs : List Int} (h : SetI w b n xs) (s : Int) (hs : (Lit.int .i64 s).wf = true) :
    (Instr.lookup 59 (.map (some b)) (.int .i64 s) false).run Tryz.prog w = .ok (.bool (decide (s ∈ xs))) w := by
  obtain ⟨D, h1, _, h3⟩ := h
  obtain ⟨v, ps, hrun, hv⟩ := h1.lookup law Tryz.underlying59 (zeroE w) (plainElem_bool Tryz.underlying4 false) (keyOf_int_mk Tryz.underlying3 hs)
  rw [h3] at hv
  rw [hrun]
  have hb := Tryz.underlying4
  unfold plainElem at hv
  rw [hb] at hv
  cases v <;> simp at hv
  rw [hv.1]

theorem put {w : World} {b n : Nat} {xs : List Int} (h : SetI w b n xs) (s : Int) (hs : (Lit.int .i64 s).wf = true) (hn : n < maxLen) :
    ∃ w', (Instr.mapUpdate 59 (.map (some b)) (.int .i64 s) (.bool true)).run Tryz.prog w = .ok () w' ∧ SetI w' b (n + 1) (s :: xs) ∧ w.grownBy w' (some b) := by
  obtain ⟨D, h1, h2, h3⟩ := h
  obtain ⟨w', hrun, h4, h5⟩ := h1.update law Tryz.underlying59 hn (keyOf_int_mk Tryz.underlying3 hs) (plainElem_bool Tryz.underlying4 true)
  refine ⟨w', hrun, ⟨_, h4, h2.put _ _, fun l => ?_⟩, h5⟩
  by_cases e : l = s
  · subst e
    rw [atKey_put_same h2 (show WideAt.IsKeyLit (.int .i64 l) from trivial)]
    simp
  · rw [atKey_put_other (by simpa using e), h3]
    simp [e]

end Go.Proofs.YtdfppdkhiejbdaaGreatDoor.SetI
end

section
/- Package list: free, Place, Room. -/
set_option linter.unusedVariables false
set_option linter.unusedSimpArgs false
namespace Go.Proofs.YtdfppdkhiejbdaaGreatDoor.Li
open Go.RowKit Go.Proofs.YtdfppdkhiejbdaaGreatDoor.PList Go.Proofs.YtdfppdkhiejbdaaGreatDoorW.PrintWords

def freeB : Nat → Int → List Int → Int
  | 0, n, _ => n
  | f + 1, n, xs => if n ∈ xs then freeB f (n + 1) xs else n
def freeL (xs : List Int) : Int := freeB (xs.length + 1) 1 xs

theorem pigeon : ∀ (n : Nat) (xs : List Int), (∀ j : Nat, 1 ≤ j → j ≤ n → (j : Int) ∈ xs) → n ≤ xs.length
  | 0, xs, _ => Nat.zero_le _
  | n + 1, xs, h => by
    have hm : ((n + 1 : Nat) : Int) ∈ xs := h (n + 1) (by omega) (Nat.le_refl _)
    have := pigeon n (xs.erase ((n + 1 : Nat) : Int)) fun j h1 h2 => (List.mem_erase_of_ne (by omega)).mpr (h j h1 (by omega))
    rw [List.length_erase_of_mem hm] at this
    have hp : 0 < xs.length := List.length_pos_of_mem hm
    omega

theorem free_tells (xs : List Int) : ∀ (f k : Nat), f + k = xs.length + 1 → (∀ j : Nat, 1 ≤ j → j ≤ k → (j : Int) ∈ xs) →
    1 ≤ freeB f (1 + (k : Int)) xs ∧ freeB f (1 + (k : Int)) xs ≤ (xs.length : Int) + 1 ∧ freeB f (1 + (k : Int)) xs ∉ xs
  | 0, k, hk, h => by have := pigeon k xs h; omega
  | f + 1, k, hk, h => by
    unfold freeB
    by_cases hm : 1 + (k : Int) ∈ xs
    · rw [if_pos hm]
      have := free_tells xs f (k + 1) (by omega) fun j h1 h2 => by
        by_cases e : j = k + 1
        · subst e; rw [show ((k + 1 : Nat) : Int) = 1 + (k : Int) by omega]; exact hm
        · exact h j h1 (by omega)
      rwa [show (1 : Int) + ((k + 1 : Nat) : Int) = 1 + (k : Int) + 1 by omega] at this
    · rw [if_neg hm]
      have := pigeon k xs h
      exact ⟨by omega, by omega, hm⟩

theorem freeL_tells (xs : List Int) : 1 ≤ freeL xs ∧ freeL xs ≤ (xs.length : Int) + 1 ∧ freeL xs ∉ xs :=
  free_tells xs (xs.length + 1) 0 rfl (fun j h1 h2 => by omega)

theorem wf_small {n : Int} (h0 : -9223372036854775808 ≤ n) (h1 : n ≤ 9223372036854775807) : (Lit.int .i64 n).wf = true := by
  have e1 : IntKind.i64.min = -9223372036854775808 := by decide
  have e2 : IntKind.i64.max = 9223372036854775807 := by decide
  simp only [Lit.wf, e1, e2, Bool.and_eq_true, decide_eq_true_eq]
  exact ⟨h0, h1⟩

set_option maxHeartbeats 1000000 in
set_option maxRecDepth 100000 in
theorem free_calls (xs : List Int) (b n : Nat) (w : World) (h : SetI.SetI w b n xs) (hl : xs.length ≤ 1099511627776) :
    Calls Tryz.prog 33 #[.map (some b)] w fun e w' => e = .returned (.int .i64 (freeL xs)) ∧ w' = w := by
  have H := Lib.hid h
  obtain ⟨R, hR⟩ : ∃ R, freeL xs = R := ⟨_, rfl⟩
  rw [hR]
  have HR := Lib.hid hR
  clear h hR
  go_enter Tryz.func33, Tryz.ntmps33
  go_wp2_with fail
  go_loopw [3] (fun x wr => ∃ k : Nat, k ≤ xs.length ∧ x = .int .i64 (1 + (k : Int)) ∧ wr = w ∧ Hid (∀ j : Nat, 1 ≤ j → j ≤ k → (j : Int) ∈ xs) ∧ Hid (freeL xs = freeB (xs.length + 1 - k) (1 + (k : Int)) xs)) (fun x _ => xs.length + 2 - (intOf x).toNat)
  case atStart => exact ⟨0, Nat.zero_le _, rfl, rfl, Lib.hid (fun j h1 h2 => by omega), Lib.hid rfl⟩
  case round =>
    obtain ⟨k, hk, rfl, rfl, hall, heq⟩ := hrel
    have hlook := SetI.look H.out (1 + (k : Int)) (wf_small (by omega) (by omega))
    by_cases hm : (1 + (k : Int)) ∈ xs
    · rw [decide_eq_true hm] at hlook
      have hall2 : Hid (∀ j : Nat, 1 ≤ j → j ≤ k + 1 → (j : Int) ∈ xs) := Lib.hid fun j h1 h2 => by
        by_cases e : j = k + 1
        · subst e; rw [show ((k + 1 : Nat) : Int) = 1 + (k : Int) by omega]; exact hm
        · exact hall.out j h1 (by omega)
      have hp := pigeon (k + 1) xs hall2.out
      have heq2 : Hid (freeL xs = freeB (xs.length + 1 - (k + 1)) (1 + ((k + 1 : Nat) : Int)) xs) := Lib.hid (by
        rw [heq.out, show xs.length + 1 - k = (xs.length + 1 - (k + 1)) + 1 by omega]
        conv => lhs; unfold freeB
        rw [if_pos hm, show (1 : Int) + (k : Int) + 1 = 1 + ((k + 1 : Nat) : Int) by omega])
      clear hm
      go_wp2_with fail
      exact ⟨⟨k + 1, by omega, by go_num, trivial, hall2, heq2⟩, by simp [intOf]; omega⟩
    · rw [decide_eq_false hm] at hlook
      have hf : Hid (R = 1 + (k : Int)) := Lib.hid (by
        rw [← HR.out, heq.out, show xs.length + 1 - k = (xs.length - k) + 1 by omega]
        unfold freeB
        rw [if_neg hm])
      clear hm
      go_wp2_with fail
      go_ret
      exact ⟨by rw [hf.out]; rfl, rfl⟩

/-- The numbers of items are whole numbers of 64 bits. -/
def Rg (xs : List S26) : Prop := ∀ x ∈ xs, (Lit.int .i64 x.f1).wf = true ∧ (Lit.int .i64 x.f2).wf = true ∧ (Lit.int .i64 x.f3).wf = true

theorem fold_length (f : List Int → S26 → List Int) (h : ∀ acc x, (f acc x).length ≤ acc.length + 1) : ∀ (xs : List S26) (acc : List Int), (xs.foldl f acc).length ≤ acc.length + xs.length
  | [], acc => by simp
  | x :: xs, acc => by
    have := fold_length f h xs (f acc x)
    have := h acc x
    rw [List.foldl_cons, List.length_cons]
    omega

def stepR (acc : List Int) (x : S26) : List Int := if isG x then x.f1 :: acc else acc
def takenR (xs : List S26) : List Int := xs.foldl (stepR) []

set_option maxHeartbeats 4000000 in
set_option maxRecDepth 100000 in
theorem Room_calls (t : Int) (A : Option Addr) (c : Nat) (xs : List S26) (w : World) (hC : Kd.C k26 w A xs.length xs) (hl : xs.length ≤ 1099511627776) (hr : Rg xs) :
    Calls Tryz.prog 15 #[.agg #[.slice A xs.length c, .int .i64 t]] w fun e w' => e = .returned (.int .i64 (freeL (takenR xs))) ∧ Below w.heap.size w w' := by
  have HC := Lib.hid hC
  have HR2 := Lib.hid hr
  have hmade := SetI.made (w.alloc (.cells #[.slice A xs.length c, .int .i64 t] 24))
  rw [World.size_alloc] at hmade
  have HM := Lib.hid hmade
  have hmm := @run_makeMap Tryz.prog
  obtain ⟨R, hR⟩ : ∃ R, freeL (takenR xs) = R := ⟨_, rfl⟩
  rw [hR]
  have HR := Lib.hid hR
  clear hC hr hmade hR
  go_enter Tryz.func15, Tryz.ntmps15
  go_wp2_with fail
  go_loopw [10] (fun x wr => ∃ k : Nat, k ≤ xs.length ∧ x = .int .i64 k ∧ Hid (Below w.heap.size w wr) ∧ Hid (∃ cn seen, cn ≤ k ∧ SetI.SetI wr (w.heap.size + 1) cn seen ∧ takenR xs = (xs.drop k).foldl (stepR) seen)) (fun x _ => xs.length - (intOf x).toNat)
  case atStart =>
    exact ⟨0, Nat.zero_le _, rfl, up (bel1 _ _) (bel1 _ _), ⟨0, [], Nat.le_refl _, HM.out, rfl⟩⟩
  case round =>
    obtain ⟨k, hk, rfl, hb, hse⟩ := hrel
    obtain ⟨cn, seen, hcn, hset, heq⟩ := hse
    have HSe := Lib.hid hset
    have HEq := Lib.hid heq
    clear hset heq HM
    by_cases hlt : k < xs.length
    · have hCr := Kd.C_below HC.out hb.out
      obtain ⟨ad, hA, q0, q1, q2, q3, q4, q5⟩ := at_T26 hCr (k : Int) (by omega) (by omega)
      have hrd : rd_T26 xs (k : Int) = xs[k] := by simp [rd_T26, hlt]
      rw [hrd] at q0 q1 q2 q3 q4 q5
      subst hA
      simp only [Int.toNat_natCast] at q0 q1 q2 q3 q4 q5
      have hdrop : xs.drop k = xs[k] :: xs.drop (k + 1) := List.drop_eq_getElem_cons hlt
      have hi := isG_calls xs[k] (wr.alloc (ib xs[k]))
      clear hrd hCr
      cases hG : isG xs[k] with
      | false =>
        have hF : Hid (takenR xs = (xs.drop (k + 1)).foldl (stepR) seen) := Lib.hid (by rw [HEq.out, hdrop, List.foldl_cons]; congr 1; unfold stepR; rw [hG]; simp)
        have HF := hF
        rw [hG] at hi
        have HI := Lib.hid hi
        clear hG hdrop hi
        go_wp2_with fail
        refine Calls.mono (HI.out) ?_
        rintro en w1 ⟨rfl, hb1⟩
        obtain ⟨z0, z1, z2, z3, z4, z5, f0, f1, f2, f3, f4, f5⟩ := cells6 (blk_below (blk_new wr _) hb1)
        have HB1 := Lib.hid (up (up hb.out (bel1 wr (ib xs[k]))) hb1)
        have HS1 := Lib.hid (SetI.below (SetI.alloc HSe.out (ib xs[k])) hb1)
        clear hb1 HI HSe
        go_wp2_with fail
        exact ⟨⟨k + 1, by omega, by go_num, HB1.out, ⟨cn, seen, by omega, HS1.out, HF.out⟩⟩, by simp [intOf]; omega⟩
      | true =>
        have hF : Hid (takenR xs = (xs.drop (k + 1)).foldl (stepR) (xs[k].f1 :: seen)) := Lib.hid (by rw [HEq.out, hdrop, List.foldl_cons]; congr 1; unfold stepR; rw [hG]; simp)
        have HF := hF
        rw [hG] at hi
        have HI := Lib.hid hi
        clear hG hdrop hi
        go_wp2_with fail
        refine Calls.mono (HI.out) ?_
        rintro en w1 ⟨rfl, hb1⟩
        obtain ⟨z0, z1, z2, z3, z4, z5, f0, f1, f2, f3, f4, f5⟩ := cells6 (blk_below (blk_new wr _) hb1)
        have HB1 := Lib.hid (up (up hb.out (bel1 wr (ib xs[k]))) hb1)
        have HS1 := Lib.hid (SetI.below (SetI.alloc HSe.out (ib xs[k])) hb1)
        clear hb1 HI HSe
        obtain ⟨w2, hrun2, hset2, hg2⟩ := SetI.put HS1.out xs[k].f1 (HR2.out _ (List.getElem_mem hlt)).1 (by unfold maxLen; omega)
        have HB2 := Lib.hid (HB1.out.grown hg2 HB1.out.size (by intro q hq; injection hq; omega))
        have HS2 := Lib.hid hset2
        clear hset2 hg2
        go_wp2_with fail
        exact ⟨⟨k + 1, by omega, by go_num, HB2.out, ⟨cn + 1, _, by omega, HS2.out, HF.out⟩⟩, by simp [intOf]; omega⟩
    · obtain rfl : k = xs.length := by omega
      rw [List.drop_length] at HEq
      have hln := fold_length (stepR) (by intro acc x; unfold stepR; split <;> simp) xs []
      have HFr := Lib.hid (fun W (h : SetI.SetI W (w.heap.size + 1) cn seen) => free_calls seen (w.heap.size + 1) cn W h (by rw [← show _ = seen from HEq.out]; unfold takenR; simp at hln ⊢; omega))
      have hRs : Hid (R = freeL seen) := Lib.hid (by rw [← HR.out, HEq.out]; rfl)
      clear hln
      go_wp2_with fail
      refine Calls.mono (HFr.out _ HSe.out) ?_
      rintro en w2 ⟨rfl, rfl⟩
      go_wp2_with fail
      go_ret
      exact ⟨by rw [hRs.out]; rfl, hb.out⟩

def stepP (g : Int) (acc : List Int) (x : S26) : List Int := if (!isG x && x.f1 == g) then x.f2 :: acc else acc
def takenP (g : Int) (xs : List S26) : List Int := xs.foldl (stepP g) []

set_option maxHeartbeats 4000000 in
set_option maxRecDepth 100000 in
theorem Place_calls (g : Int) (t : Int) (A : Option Addr) (c : Nat) (xs : List S26) (w : World) (hC : Kd.C k26 w A xs.length xs) (hl : xs.length ≤ 1099511627776) (hr : Rg xs) :
    Calls Tryz.prog 12 #[.agg #[.slice A xs.length c, .int .i64 t], .int .i64 g] w fun e w' => e = .returned (.int .i64 (freeL (takenP g xs))) ∧ Below w.heap.size w w' := by
  have HC := Lib.hid hC
  have HR2 := Lib.hid hr
  have hmade := SetI.made (w.alloc (.cells #[.slice A xs.length c, .int .i64 t] 24))
  rw [World.size_alloc] at hmade
  have HM := Lib.hid hmade
  have hmm := @run_makeMap Tryz.prog
  obtain ⟨R, hR⟩ : ∃ R, freeL (takenP g xs) = R := ⟨_, rfl⟩
  rw [hR]
  have HR := Lib.hid hR
  clear hC hr hmade hR
  go_enter Tryz.func12, Tryz.ntmps12
  go_wp2_with fail
  go_loopw [12] (fun x wr => ∃ k : Nat, k ≤ xs.length ∧ x = .int .i64 k ∧ Hid (Below w.heap.size w wr) ∧ Hid (∃ cn seen, cn ≤ k ∧ SetI.SetI wr (w.heap.size + 1) cn seen ∧ takenP g xs = (xs.drop k).foldl (stepP g) seen)) (fun x _ => xs.length - (intOf x).toNat)
  case atStart =>
    exact ⟨0, Nat.zero_le _, rfl, up (bel1 _ _) (bel1 _ _), ⟨0, [], Nat.le_refl _, HM.out, rfl⟩⟩
  case round =>
    obtain ⟨k, hk, rfl, hb, hse⟩ := hrel
    obtain ⟨cn, seen, hcn, hset, heq⟩ := hse
    have HSe := Lib.hid hset
    have HEq := Lib.hid heq
    clear hset heq HM
    by_cases hlt : k < xs.length
    · have hCr := Kd.C_below HC.out hb.out
      obtain ⟨ad, hA, q0, q1, q2, q3, q4, q5⟩ := at_T26 hCr (k : Int) (by omega) (by omega)
      have hrd : rd_T26 xs (k : Int) = xs[k] := by simp [rd_T26, hlt]
      rw [hrd] at q0 q1 q2 q3 q4 q5
      subst hA
      simp only [Int.toNat_natCast] at q0 q1 q2 q3 q4 q5
      have hdrop : xs.drop k = xs[k] :: xs.drop (k + 1) := List.drop_eq_getElem_cons hlt
      have hi := isG_calls xs[k] (wr.alloc (ib xs[k]))
      clear hrd hCr
      cases hG : isG xs[k] with
      | true =>
        have hF : Hid (takenP g xs = (xs.drop (k + 1)).foldl (stepP g) seen) := Lib.hid (by rw [HEq.out, hdrop, List.foldl_cons]; congr 1; unfold stepP; rw [hG]; simp)
        have HF := hF
        rw [hG] at hi
        have HI := Lib.hid hi
        clear hG hdrop hi
        go_wp2_with fail
        refine Calls.mono (HI.out) ?_
        rintro en w1 ⟨rfl, hb1⟩
        obtain ⟨z0, z1, z2, z3, z4, z5, f0, f1, f2, f3, f4, f5⟩ := cells6 (blk_below (blk_new wr _) hb1)
        have HB1 := Lib.hid (up (up hb.out (bel1 wr (ib xs[k]))) hb1)
        have HS1 := Lib.hid (SetI.below (SetI.alloc HSe.out (ib xs[k])) hb1)
        clear hb1 HI HSe
        go_wp2_with fail
        exact ⟨⟨k + 1, by omega, by go_num, HB1.out, ⟨cn, seen, by omega, HS1.out, HF.out⟩⟩, by simp [intOf]; omega⟩
      | false =>
        by_cases hq : xs[k].f1 = g
        · have hF : Hid (takenP g xs = (xs.drop (k + 1)).foldl (stepP g) (xs[k].f2 :: seen)) := Lib.hid (by rw [HEq.out, hdrop, List.foldl_cons]; congr 1; unfold stepP; rw [hG, hq]; simp)
          have HF := hF
          rw [hG] at hi
          have HI := Lib.hid hi
          have HQ := Lib.hid hq
          clear hG hdrop hi hq
          go_wp2_with fail
          refine Calls.mono (HI.out) ?_
          rintro en w1 ⟨rfl, hb1⟩
          obtain ⟨z0, z1, z2, z3, z4, z5, f0, f1, f2, f3, f4, f5⟩ := cells6 (blk_below (blk_new wr _) hb1)
          have HB1 := Lib.hid (up (up hb.out (bel1 wr (ib xs[k]))) hb1)
          have HS1 := Lib.hid (SetI.below (SetI.alloc HSe.out (ib xs[k])) hb1)
          clear hb1 HI HSe
          have hq1 : (xs[k].f1 == g) = true := by rw [HQ.out]; simp
          obtain ⟨w2, hrun2, hset2, hg2⟩ := SetI.put HS1.out xs[k].f2 (HR2.out _ (List.getElem_mem hlt)).2.1 (by unfold maxLen; omega)
          have HB2 := Lib.hid (HB1.out.grown hg2 HB1.out.size (by intro q hq; injection hq; omega))
          have HS2 := Lib.hid hset2
          clear hset2 hg2
          go_wp2_with fail
          exact ⟨⟨k + 1, by omega, by go_num, HB2.out, ⟨cn + 1, _, by omega, HS2.out, HF.out⟩⟩, by simp [intOf]; omega⟩
        · have hF : Hid (takenP g xs = (xs.drop (k + 1)).foldl (stepP g) seen) := Lib.hid (by rw [HEq.out, hdrop, List.foldl_cons]; congr 1; unfold stepP; rw [hG]; simp [hq])
          have HF := hF
          rw [hG] at hi
          have HI := Lib.hid hi
          clear hG hdrop hi
          go_wp2_with fail
          refine Calls.mono (HI.out) ?_
          rintro en w1 ⟨rfl, hb1⟩
          obtain ⟨z0, z1, z2, z3, z4, z5, f0, f1, f2, f3, f4, f5⟩ := cells6 (blk_below (blk_new wr _) hb1)
          have HB1 := Lib.hid (up (up hb.out (bel1 wr (ib xs[k]))) hb1)
          have HS1 := Lib.hid (SetI.below (SetI.alloc HSe.out (ib xs[k])) hb1)
          clear hb1 HI HSe
          go_wp2_with fail
          exact ⟨⟨k + 1, by omega, by go_num, HB1.out, ⟨cn, seen, by omega, HS1.out, HF.out⟩⟩, by simp [intOf]; omega⟩
    · obtain rfl : k = xs.length := by omega
      rw [List.drop_length] at HEq
      have hln := fold_length (stepP g) (by intro acc x; unfold stepP; split <;> simp) xs []
      have HFr := Lib.hid (fun W (h : SetI.SetI W (w.heap.size + 1) cn seen) => free_calls seen (w.heap.size + 1) cn W h (by rw [← show _ = seen from HEq.out]; unfold takenP; simp at hln ⊢; omega))
      have hRs : Hid (R = freeL seen) := Lib.hid (by rw [← HR.out, HEq.out]; rfl)
      clear hln
      go_wp2_with fail
      refine Calls.mono (HFr.out _ HSe.out) ?_
      rintro en w2 ⟨rfl, rfl⟩
      go_wp2_with fail
      go_ret
      exact ⟨by rw [hRs.out]; rfl, hb.out⟩

end Go.Proofs.YtdfppdkhiejbdaaGreatDoor.Li
end

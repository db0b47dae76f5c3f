import Derived.Test.YtdfppdkhiejbdaaGreatDoorBa13
import Derived.LoopN
import Derived.BigRegion
import Derived.StillTail
section
/- Package list: SortStableFunc at one item and at two items that change places. -/
set_option linter.unusedVariables false
set_option linter.unusedSimpArgs false
namespace Go.Proofs.YtdfppdkhiejbdaaGreatDoor.Li
open Go.RowKit Go.Proofs.YtdfppdkhiejbdaaGreatDoor.PList Go.Proofs.YtdfppdkhiejbdaaGreatDoorW.PrintWords

set_option maxHeartbeats 1000000 in
set_option maxRecDepth 100000 in
theorem Ins_one (B : Option Addr) (cap : Nat) (w : World) :
    Calls Tryz.prog 66 #[.slice B 1 cap, .int .i64 0, .int .i64 1, .func (.func 20) #[] #[]] w fun e w' => e = .returned (.tuple #[]) ∧ w' = w := by
  go_enter Tryz.func66, Tryz.ntmps66
  go_wp2_with fail
  refine wp_loop_rounds 1 ?_
  rw [rounds_succ]
  go_wp2_with fail
  go_end0
  exact ⟨rfl, rfl⟩

/-- Row g holds a and b. -/
def Gs (w : World) (g cap : Nat) (L : List Value) (W : World) : Prop := RowG W g cap L ∧ Below w.heap.size w W
theorem Gs.step {w : World} {g cap : Nat} {L : List Value} {W W' : World} (h : Gs w g cap L W) (hb : Below W.heap.size W W') : Gs w g cap L W' := ⟨⟨blk_below h.1.1 hb, h.1.2⟩, up h.2 hb⟩
theorem cmp_s {w : World} {g cap : Nat} {L : List Value} (y z : S26) (W : World) (h : Gs w g cap L W) :
    Calls Tryz.prog 20 #[iv y, iv z] W fun e w' => e = .returned (.int .i64 (cmpB y z)) ∧ Gs w g cap L w' :=
  Calls.mono (compareItems_calls y z W) fun e w' ⟨he, hb⟩ => ⟨he, h.step hb⟩

theorem grown_drew2 {w W : World} {r : Option Nat} (h : w.grownBy W r) : w.grownBy W.drew r := ⟨h.os, h.tape, h.output, h.size, h.block⟩
theorem grown_cell {w W : World} {g : Nat} (h : w.grownBy W (some g)) (i : Nat) (v : Value) : w.grownBy (W.setCell ⟨g, i, none⟩ v) (some g) :=
  ⟨h.os, h.tape, h.output, by simpa [World.setCell] using h.size, fun k hk hn => (Below.heap_setCell _ _ _ _ (by simpa using fun e => hn (by rw [e]))).trans (h.block k hk hn)⟩

theorem two_cells {w : World} {g cap : Nat} {a b : S26} {sp : List Value} (h : RowG w g cap (cellsI [a, b] ++ sp)) :
    (w.cell? ⟨g, 0, none⟩ = some (.string a.f0) ∧ w.cell? ⟨g, 1, none⟩ = some (.int .i64 a.f1) ∧ w.cell? ⟨g, 2, none⟩ = some (.int .i64 a.f2) ∧ w.cell? ⟨g, 3, none⟩ = some (.int .i64 a.f3) ∧ w.cell? ⟨g, 4, none⟩ = some (.string a.f4) ∧ w.cell? ⟨g, 5, none⟩ = some (.bool a.f5)) ∧
    (w.cell? ⟨g, 6, none⟩ = some (.string b.f0) ∧ w.cell? ⟨g, 7, none⟩ = some (.int .i64 b.f1) ∧ w.cell? ⟨g, 8, none⟩ = some (.int .i64 b.f2) ∧ w.cell? ⟨g, 9, none⟩ = some (.int .i64 b.f3) ∧ w.cell? ⟨g, 10, none⟩ = some (.string b.f4) ∧ w.cell? ⟨g, 11, none⟩ = some (.bool b.f5)) ∧ (∀ i, w.frozen? ⟨g, i, none⟩ = false) :=
  ⟨⟨blk_cell h.1 0, blk_cell h.1 1, blk_cell h.1 2, blk_cell h.1 3, blk_cell h.1 4, blk_cell h.1 5⟩, ⟨blk_cell h.1 6, blk_cell h.1 7, blk_cell h.1 8, blk_cell h.1 9, blk_cell h.1 10, blk_cell h.1 11⟩, blk_frozen h.1⟩

set_option maxHeartbeats 1000000 in
set_option maxRecDepth 100000 in
theorem Ins_two (g cap : Nat) (a b : S26) (sp : List Value) (w : World) (hr : RowG w g cap (cellsI [a, b] ++ sp)) (hlt : cmpB b a < 0) (hc : 2 ≤ cap) :
    Calls Tryz.prog 66 #[.slice (some ⟨g, 0, none⟩) 2 cap, .int .i64 0, .int .i64 2, .func (.func 20) #[] #[]] w fun e w' => e = .returned (.tuple #[]) ∧ RowG w' g cap (cellsI [b, a] ++ sp) ∧ w.grownBy w' (some g) := by
  have eg := enters_of (P := Tryz.prog) Tryz.func20 (by kernel_rfl) rfl
  have HGD := Lib.hid (show Gs w g cap (cellsI [a, b] ++ sp) w.drew from ⟨hr, (Below.refl _ _).drew⟩)
  have HR := Lib.hid hr
  clear hr
  go_enter Tryz.func66, Tryz.ntmps66
  go_wp2_with fail
  refine wp_loop_rounds 2 ?_
  rw [rounds_succ]
  go_wp2_with fail
  refine wp_loop_rounds 2 ?_
  rw [rounds_succ]
  go_upto_region 4 with fail
  refine wp_region_quiet (C := Gs w g cap (cellsI [a, b] ++ sp)) (by kernel_rfl) (by kernel_rfl) HGD.out ?_
  dsimp only
  repeat (first | go_big_quiet_skip | (go_big_quiet_want; go_big_quiet_op; first | go_big_quiet_on | (refine ⟨_, fun _ _ => rfl, ?_⟩; go_big_quiet_on)))
  go_big_quiet_want
  refine ⟨iv b, fun W hW => ?_, ?_⟩
  · obtain ⟨-, ⟨p0, p1, p2, p3, p4, p5⟩, -⟩ := two_cells hW.1
    clear hW
    go_simp
  go_big_quiet_on
  try simp only [Act.put, List.setIfInBounds_toArray, List.set_cons_zero, List.set_cons_succ]
  repeat (first | go_big_quiet_skip | (go_big_quiet_want; go_big_quiet_op; first | go_big_quiet_on | (refine ⟨_, fun _ _ => rfl, ?_⟩; go_big_quiet_on)))
  go_big_quiet_want
  refine ⟨iv a, fun W hW => ?_, ?_⟩
  · obtain ⟨⟨p0, p1, p2, p3, p4, p5⟩, -, -⟩ := two_cells hW.1
    clear hW
    go_simp
  go_big_quiet_on
  try simp only [Act.put, List.setIfInBounds_toArray, List.set_cons_zero, List.set_cons_succ]
  repeat (first | go_big_quiet_skip | (go_big_quiet_want; go_big_quiet_op; first | go_big_quiet_on | (refine ⟨_, fun _ _ => rfl, ?_⟩; go_big_quiet_on)))
  go_big_quiet_want
  refine ⟨.int .i64 (cmpB b a), fun W hW => ?_, ?_⟩
  · have HCALL := Lib.hid (cmp_s b a W hW)
    clear hW
    go_simp
    exact HCALL.out
  go_big_quiet_on
  try simp only [Act.put, List.setIfInBounds_toArray, List.set_cons_zero, List.set_cons_succ]
  repeat (first | go_big_quiet_skip | (go_big_quiet_want; go_big_quiet_op; first | go_big_quiet_on | (refine ⟨_, fun _ _ => rfl, ?_⟩; go_big_quiet_on)))
  refine wpQuiet_nil ?_
  intro W hW
  have HW := Lib.hid hW
  clear hW
  go_upto_region 6 with fail
  obtain ⟨⟨p0, p1, p2, p3, p4, p5⟩, ⟨q0, q1, q2, q3, q4, q5⟩, hf⟩ := two_cells HW.out.1
  go_big_region
  obtain ⟨X, hX⟩ : ∃ X, X = (((((((((((((W).setCell ⟨g, 6, none⟩ (.string a.f0)).setCell ⟨g, 7, none⟩ (.int .i64 a.f1)).setCell ⟨g, 8, none⟩ (.int .i64 a.f2)).setCell ⟨g, 9, none⟩ (.int .i64 a.f3)).setCell ⟨g, 10, none⟩ (.string a.f4)).setCell ⟨g, 11, none⟩ (.bool a.f5)).setCell ⟨g, 0, none⟩ (.string b.f0)).setCell ⟨g, 1, none⟩ (.int .i64 b.f1)).setCell ⟨g, 2, none⟩ (.int .i64 b.f2)).setCell ⟨g, 3, none⟩ (.int .i64 b.f3)).setCell ⟨g, 4, none⟩ (.string b.f4)).setCell ⟨g, 5, none⟩ (.bool b.f5)).drew := ⟨_, rfl⟩
  have HX := Lib.hid (show RowG X g cap (cellsI [b, a] ++ sp) by
    refine ⟨?_, ?_, HW.out.1.2.2⟩
    · rw [hX, blk_drew (blk_set (blk_set (blk_set (blk_set (blk_set (blk_set (blk_set (blk_set (blk_set (blk_set (blk_set (blk_set HW.out.1.1 6 (.string a.f0)) 7 (.int .i64 a.f1)) 8 (.int .i64 a.f2)) 9 (.int .i64 a.f3)) 10 (.string a.f4)) 11 (.bool a.f5)) 0 (.string b.f0)) 1 (.int .i64 b.f1)) 2 (.int .i64 b.f2)) 3 (.int .i64 b.f3)) 4 (.string b.f4)) 5 (.bool b.f5))]
      simp [cellsI, cells1]
    · have := HW.out.1.2.1
      simp [cellsI, cells1] at this ⊢
      omega)
  have HXG := Lib.hid (show w.grownBy X (some g) by
    have h0 : w.grownBy W (some g) := ⟨HW.out.2.os, HW.out.2.tape, HW.out.2.output, HW.out.2.size, fun k hk _ => HW.out.2.block k hk⟩
    rw [hX]
    refine grown_drew2 ?_
    repeat (refine grown_cell ?_ _ _)
    exact h0)
  rw [← hX]
  clear hX p0 p1 p2 p3 p4 p5 q0 q1 q2 q3 q4 q5 hf
  go_wp2_with fail
  rw [rounds_succ]
  go_upto_region 4 with fail
  refine wp_region_quiet (C := fun W' => W' = X.drew) (by kernel_rfl) (by kernel_rfl) rfl ?_
  dsimp only
  repeat (first | go_big_quiet_skip | (go_big_quiet_want; go_big_quiet_op; first | go_big_quiet_on | (refine ⟨_, fun _ _ => rfl, ?_⟩; go_big_quiet_on)))
  refine wpQuiet_nil ?_
  rintro W' rfl
  go_wp2_with fail
  rw [rounds_succ]
  go_wp2_with fail
  go_end0
  exact ⟨rfl, HX.out, ⟨HXG.out.os, HXG.out.tape, HXG.out.output, HXG.out.size, HXG.out.block⟩⟩

end Go.Proofs.YtdfppdkhiejbdaaGreatDoor.Li
end

section
/- Package list: Put of one item, of two items that change places. -/
set_option linter.unusedVariables false
set_option linter.unusedSimpArgs false
namespace Go.Proofs.YtdfppdkhiejbdaaGreatDoor.Li
open Go.RowKit Go.Proofs.YtdfppdkhiejbdaaGreatDoor.PList Go.Proofs.YtdfppdkhiejbdaaGreatDoorW.PrintWords

set_option maxHeartbeats 1000000 in
set_option maxRecDepth 100000 in
theorem Stable_one (B : Option Addr) (cap : Nat) (w : World) :
    Calls Tryz.prog 57 #[.slice B 1 cap, .int .i64 1, .func (.func 20) #[] #[]] w fun e w' => e = .returned (.tuple #[]) ∧ w' = w := by
  go_enter Tryz.func57, Tryz.ntmps57
  go_wp2_with fail
  refine wp_loop_rounds 1 ?_
  rw [rounds_succ]
  go_wp2_with fail
  refine Calls.mono (Ins_one B cap w) ?_
  rintro en w1 ⟨rfl, rfl⟩
  go_wp2_with fail
  refine wp_loop_rounds 1 ?_
  rw [rounds_succ]
  go_wp2_with fail
  go_end0
  exact ⟨rfl, rfl⟩

set_option maxHeartbeats 1000000 in
set_option maxRecDepth 100000 in
theorem Stable_two (g cap : Nat) (a b : S26) (sp : List Value) (w : World) (hr : RowG w g cap (cellsI [a, b] ++ sp)) (hlt : cmpB b a < 0) (hc : 2 ≤ cap) :
    Calls Tryz.prog 57 #[.slice (some ⟨g, 0, none⟩) 2 cap, .int .i64 2, .func (.func 20) #[] #[]] w fun e w' => e = .returned (.tuple #[]) ∧ RowG w' g cap (cellsI [b, a] ++ sp) ∧ w.grownBy w' (some g) := by
  have HI := Lib.hid (Ins_two g cap a b sp w hr hlt hc)
  clear hr
  go_enter Tryz.func57, Tryz.ntmps57
  go_wp2_with fail
  refine wp_loop_rounds 1 ?_
  rw [rounds_succ]
  go_wp2_with fail
  refine Calls.mono HI.out ?_
  rintro en w1 ⟨rfl, h1, h2⟩
  have H1 := Lib.hid h1
  have H2 := Lib.hid h2
  clear h1 h2
  go_wp2_with fail
  refine wp_loop_rounds 1 ?_
  rw [rounds_succ]
  go_wp2_with fail
  go_end0
  exact ⟨rfl, H1.out, H2.out⟩

set_option maxHeartbeats 1000000 in
theorem Sort_one (B : Option Addr) (cap : Nat) (w : World) :
    Calls Tryz.prog 44 #[.slice B 1 cap, .func (.func 20) #[] #[]] w fun e w' => e = .returned (.tuple #[]) ∧ w' = w := by
  go_enter Tryz.func44, Tryz.ntmps44
  go_wp2_with fail
  refine Calls.mono (Stable_one B cap w) ?_
  rintro en w1 ⟨rfl, rfl⟩
  go_wp2_with fail
  go_end0
  exact ⟨rfl, rfl⟩

set_option maxHeartbeats 1000000 in
theorem Sort_two (g cap : Nat) (a b : S26) (sp : List Value) (w : World) (hr : RowG w g cap (cellsI [a, b] ++ sp)) (hlt : cmpB b a < 0) (hc : 2 ≤ cap) :
    Calls Tryz.prog 44 #[.slice (some ⟨g, 0, none⟩) 2 cap, .func (.func 20) #[] #[]] w fun e w' => e = .returned (.tuple #[]) ∧ RowG w' g cap (cellsI [b, a] ++ sp) ∧ w.grownBy w' (some g) := by
  have HI := Lib.hid (Stable_two g cap a b sp w hr hlt hc)
  clear hr
  go_enter Tryz.func44, Tryz.ntmps44
  go_wp2_with fail
  refine Calls.mono HI.out ?_
  rintro en w1 ⟨rfl, h1, h2⟩
  have H1 := Lib.hid h1
  have H2 := Lib.hid h2
  clear h1 h2
  go_wp2_with fail
  go_end0
  exact ⟨rfl, H1.out, H2.out⟩

/-- A row that is put into its order. -/
def Sorts (xs ys : List S26) : Prop := ∀ (g cap : Nat) (sp : List Value) (w : World), RowG w g cap (cellsI xs ++ sp) → xs.length ≤ cap →
  Calls Tryz.prog 44 #[.slice (some ⟨g, 0, none⟩) xs.length cap, .func (.func 20) #[] #[]] w fun e w' => e = .returned (.tuple #[]) ∧ RowG w' g cap (cellsI ys ++ sp) ∧ w.grownBy w' (some g)
theorem sorts_one (a : S26) : Sorts [a] [a] := fun g cap sp w hr hc => Calls.mono (Sort_one _ cap w) fun e w' ⟨he, hw⟩ => ⟨he, by rw [hw]; exact hr, by rw [hw]; exact ⟨rfl, rfl, rfl, Nat.le_refl _, fun _ _ _ => rfl⟩⟩
theorem sorts_two (a b : S26) (h : cmpB b a < 0) : Sorts [a, b] [b, a] := fun g cap sp w hr hc => Sort_two g cap a b sp w hr h hc

def PutTells (w : World) (ys : List S26) (t : Int) (e : Ending) (w' : World) : Prop :=
  (if checkB ys t = true then ∃ A c, e = .returned (.tuple #[.agg #[.slice A ys.length c, .int .i64 t], .int .i64 0]) ∧ Kd.C k26 w' A ys.length ys ∧ ys.length ≤ c
    else e = .returned (.tuple #[.agg #[.slice none 0 0, .int .i64 0], .int .i64 170])) ∧ Below w.heap.size w w'

set_option maxHeartbeats 1000000 in
set_option maxRecDepth 100000 in
theorem Put_calls (t : Int) (A : Option Addr) (c : Nat) (xs ys : List S26) (w : World) (hC : Kd.C k26 w A xs.length xs) (hl : xs.length ≤ 1000000) (hx : 0 < xs.length) (hlen : ys.length = xs.length) (hso : Sorts xs ys) (hs : Sm ys) (hr : Rg ys) :
    Calls Tryz.prog 21 #[.int .i64 t, .slice A xs.length c] w (PutTells w ys t) := by
  have hz := blk_new w (.cells #[.slice none 0 0, .int .i64 0] 24)
  have HZ := Lib.hid hz
  have HB0 := Lib.hid (bel1 w (.cells #[.slice none 0 0, .int .i64 0] 24))
  have HCL := Lib.hid (Clone_calls A c xs (w.alloc (.cells #[.slice none 0 0, .int .i64 0] 24)) (Kd.C_below hC HB0.out) (by omega))
  have HSO := Lib.hid hso
  have HS := Lib.hid hs
  have HR := Lib.hid hr
  have HLEN := Lib.hid hlen
  clear hC hso hs hr hlen hz
  go_enter Tryz.func21, Tryz.ntmps21
  go_wp2_with fail
  refine Calls.mono HCL.out ?_
  rintro en w1 ⟨v1, rfl, ho1, hb1⟩
  have HB1 := Lib.hid (up HB0.out hb1)
  have HZ1 := Lib.hid (blk_below HZ.out hb1)
  rcases ho1 with ⟨_, h0⟩ | ⟨g, cap, sp, rfl, hB, hn, hg⟩
  · subst h0; simp at hx
  · have HG1 := Lib.hid hg
    rw [World.size_alloc] at hB
    have hlt1 := blk_lt hg.1
    have hltz := blk_lt HZ1.out
    clear hb1 hg HCL
    obtain ⟨W1, hW1⟩ : ∃ W1, W1 = w1.alloc (.cells #[.slice (some ⟨g, 0, none⟩) xs.length cap, .int .i64 t] 24) := ⟨_, rfl⟩
    have HL := Lib.hid (show W1.heap[w1.heap.size]? = some (.cells #[.slice (some ⟨g, 0, none⟩) xs.length cap, .int .i64 t] 24 (0, 0)) by rw [hW1]; exact blk_new _ _)
    have HZ2 := Lib.hid (show W1.heap[w.heap.size]? = some (.cells #[.slice none 0 0, .int .i64 0] 24 (0, 0)) by rw [hW1]; exact blk_alloc HZ1.out _)
    have HG2 := Lib.hid (show RowG W1 g cap (cellsI xs ++ sp) by rw [hW1]; exact ⟨blk_alloc HG1.out.1 _, HG1.out.2⟩)
    have HB2 := Lib.hid (show Below w.heap.size w W1 by rw [hW1]; exact up HB1.out (bel1 _ _))
    have hnl : g ≠ w1.heap.size := by omega
    have hnz : w.heap.size < w1.heap.size := hltz
    obtain ⟨nl, hnl2⟩ : ∃ nl, w1.heap.size = nl := ⟨_, rfl⟩
    go_upto_region 2 with fail
    rw [← hW1]
    rw [hnl2] at HL hnl hnz
    have hlt2 := blk_lt HL.out
    clear hW1 hnl2 hlt1 hltz
    obtain ⟨a0, a1, -⟩ := cells2 HL.out
    have HSR := Lib.hid (HSO.out g cap sp W1 HG2.out hn)
    go_wp2_with fail
    refine Calls.mono HSR.out ?_
    rintro en w2 ⟨rfl, hr2, hg2⟩
    have HG3 := Lib.hid hr2
    have HL3 := Lib.hid (blk_grown HL.out hg2 (by intro h; injection h; omega))
    have HZ3 := Lib.hid (blk_grown HZ2.out hg2 (by intro h; injection h; omega))
    have HB3 := Lib.hid (HB2.out.grown hg2 HB2.out.size (by intro k hk; injection hk; omega))
    clear hr2 hg2 a0 a1 HSR hlt2
    obtain ⟨a0, a1, -⟩ := cells2 HL3.out
    have hcy : Kd.C k26 w2 (some ⟨g, 0, none⟩) ys.length ys := OwnI.CA (base := 0) (n := ys.length) (c := cap) (.inr ⟨g, cap, sp, rfl, Nat.zero_le _, by rw [HLEN.out]; exact hn, HG3.out⟩) HS.out.1
    have HCY := Lib.hid hcy
    have hck := Check_calls t (some ⟨g, 0, none⟩) cap ys w2 hcy HS.out HR.out
    rw [HLEN.out] at hck
    have HCK := Lib.hid hck
    clear hcy hck
    go_wp2_with fail
    refine Calls.mono HCK.out ?_
    rintro en w3 ⟨rfl, hb3⟩
    have HB4 := Lib.hid (up HB3.out hb3)
    have HL4 := Lib.hid (blk_below HL3.out hb3)
    have HZ4 := Lib.hid (blk_below HZ3.out hb3)
    have HG4 := Lib.hid (show RowG w3 g cap (cellsI ys ++ sp) from ⟨blk_below HG3.out.1 hb3, HG3.out.2⟩)
    clear hb3 a0 a1 HCK
    obtain ⟨a0, a1, -⟩ := cells2 HL4.out
    obtain ⟨af, -⟩ := cells2f HL4.out
    obtain ⟨z0, z1, -⟩ := cells2 HZ4.out
    obtain ⟨zf, -⟩ := cells2f HZ4.out
    cases hcb : checkB ys t with
    | true =>
      have HCB := Lib.hid hcb
      clear hcb
      go_wp2_with fail
      refine bodyPost_ret (v := .tuple #[.agg #[.slice (some ⟨g, 0, none⟩) xs.length cap, .int .i64 t], .int .i64 0]) ?hr rfl ⟨?hc, ?hb⟩
      case hr => simp [results, Tryz.results21, go_sem, a0, a1, z0, z1, zf]
      case hc =>
        rw [if_pos HCB.out]
        refine ⟨_, cap, by rw [HLEN.out], ?_, by rw [HLEN.out]; exact hn⟩
        refine OwnI.CA (base := w.heap.size + 1) (n := ys.length) (c := cap) ?_ HS.out.1
        refine OwnI.set (OwnI.set (?_ : OwnI (w.heap.size + 1) w3 _ ys) _ _ (Nat.lt_succ_self _)) _ _ (Nat.lt_succ_self _)
        exact .inr ⟨g, cap, sp, rfl, hB, by rw [HLEN.out]; exact hn, HG4.out⟩
      case hb =>
        refine (show Below w.heap.size w _ from ?_)
        repeat (with_reducible refine below_set (g := w.heap.size) ?_ (Nat.le_refl _))
        exact HB4.out
    | false =>
      have HCB := Lib.hid hcb
      clear hcb
      go_wp2_with fail
      refine bodyPost_ret (v := .tuple #[.agg #[.slice none 0 0, .int .i64 0], .int .i64 170]) ?hr rfl ⟨?hc, ?hb⟩
      case hr => simp [results, Tryz.results21, go_sem, a0, a1, z0, z1, zf]
      case hc => rw [if_neg (by rw [HCB.out]; exact Bool.false_ne_true)]
      case hb =>
        refine (show Below w.heap.size w _ from ?_)
        repeat (with_reducible refine below_set (g := w.heap.size) ?_ (Nat.le_refl _))
        exact HB4.out

end Go.Proofs.YtdfppdkhiejbdaaGreatDoor.Li
end

section
/- Package list: the items of 'live'. -/
set_option linter.unusedVariables false
set_option linter.unusedSimpArgs false
namespace Go.Proofs.YtdfppdkhiejbdaaGreatDoor.Li
open Go.RowKit Go.Proofs.YtdfppdkhiejbdaaGreatDoor.PList Go.Proofs.YtdfppdkhiejbdaaGreatDoorW.PrintWords

def joe : S26 := ⟨⟨#[106, 111, 101]⟩, 1, 1, 0, ⟨#[]⟩, false⟩
def ann : S26 := ⟨⟨#[97, 110, 110]⟩, 1, 2, 0, ⟨#[]⟩, false⟩
def friends : S26 := ⟨⟨#[70, 114, 105, 101, 110, 100, 115]⟩, 1, 0, 1, ⟨#[]⟩, false⟩
def gone : S26 := ⟨⟨#[]⟩, 1, 0, 1, ⟨#[]⟩, false⟩

theorem live_cmp : cmpB friends joe < 0 := by decide
theorem live_check : checkB [friends, joe] 7 = true := by kernel_rfl
theorem live_check0 : checkB [joe] 0 = false := by kernel_rfl
theorem live_buddy : findB (alike ⟨#[74, 111, 101]⟩) [friends, joe] = (joe, true) := by kernel_rfl
theorem live_del : applyB [friends, joe] 22 gone = ([friends, joe], 10) := by kernel_rfl
theorem live_place : freeL (takenP 1 [friends, joe]) = 2 := by kernel_rfl
theorem live_room : freeL (takenR [friends, joe]) = 2 := by kernel_rfl
theorem live_add : applyB [friends, joe] 20 ann = ([friends, joe, ann], 0) := by kernel_rfl
theorem live_title : findB (inG 1) [friends, joe] = (friends, true) := by kernel_rfl
theorem live_sm : Sm [friends, joe] := ⟨by decide, by intro x hx; simp at hx; rcases hx with rfl | rfl <;> exact ⟨by decide, by decide⟩⟩
theorem live_rg : Rg [friends, joe] := by intro x hx; simp at hx; rcases hx with rfl | rfl <;> exact ⟨by decide, by decide, by decide⟩
theorem live_sm1 : Sm [joe] := ⟨by decide, by intro x hx; simp at hx; subst hx; exact ⟨by decide, by decide⟩⟩
theorem live_rg1 : Rg [joe] := by intro x hx; simp at hx; subst hx; exact ⟨by decide, by decide, by decide⟩
theorem live_mono (x : S26) (h : cmpB joe x < 0 → cmpB friends x < 0) : MonoB x [friends, joe] := by
  intro a b hab ha hb hlt
  simp at ha hb
  rcases (show b = 0 ∨ b = 1 by omega) with rfl | rfl
  · obtain rfl : a = 0 := by omega
    exact hlt
  · rcases (show a = 0 ∨ a = 1 by omega) with rfl | rfl
    · exact h hlt
    · exact hlt
theorem live_mono_gone : MonoB gone [friends, joe] := live_mono _ (by decide)
theorem live_mono_ann : MonoB ann [friends, joe] := live_mono _ (by decide)

end Go.Proofs.YtdfppdkhiejbdaaGreatDoor.Li
end

section
/- A region that draws its order, by what each operation leaves when it has come (and not by orders): one obligation an operation. -/
set_option linter.unusedVariables false
namespace Go.Proofs.YtdfppdkhiejbdaaGreatDoor.QI

/-- What is known once operation j has come. -/
def Lst (L : Array Bool) (j : Nat) (p : Prop) : Prop := L.getD j false = true → p
theorem Lst.get {L : Array Bool} {j : Nat} {p : Prop} (h : Lst L j p) (hj : L.getD j false = true) : p := h hj
theorem Lst.other {L : Array Bool} {i j : Nat} {p : Prop} (h : Lst L j p) (hij : i ≠ j) : Lst (L.setIfInBounds i true) j p := fun hj => h (by rw [getD_set_ne false hij] at hj; exact hj)
theorem Lst.self {L : Array Bool} {i : Nat} {p : Prop} (h : p) : Lst (L.setIfInBounds i true) i p := fun _ => h
theorem Lst.map {L : Array Bool} {j : Nat} {p q : Prop} (h : Lst L j p) (f : p → q) : Lst L j q := fun hj => f (h hj)
theorem Lst.start {n j : Nat} {p : Prop} : Lst (Array.replicate n false) j p := fun hj => by rw [getD_replicate_false] at hj; cases hj

section
variable {P : Program}

/-- Where an operation has come, all that it waits for has come. -/
def Closed (ops : Array Oper) (L : Array Bool) : Prop := ∀ j oj, ops[j]? = some oj → L.getD j false = true → ∀ e ∈ oj.after, Region.binds .any e = true → L.getD e.on false = true
theorem Closed.set {ops : Array Oper} {L : Array Bool} (h : Closed ops L) {i : Nat} {o : Oper} (ho : ops[i]? = some o) (hd : ∀ e ∈ o.after, Region.binds .any e = true → L.getD e.on false = true) : Closed ops (L.setIfInBounds i true) := by
  intro j oj hj hl e he hb
  by_cases hij : i = j
  · subst hij
    have : oj = o := Option.some.inj (hj.symm.trans ho)
    subst this
    exact getD_set_true (hd e he hb)
  · rw [getD_set_ne false hij] at hl
    exact getD_set_true (h j oj hj hl e he hb)
/-- What waits for an operation that has not come has not come. -/
theorem Closed.not {ops : Array Oper} {L : Array Bool} (h : Closed ops L) {i j : Nat} {oj : Oper} (hu : L.getD i true = false) (hj : ops[j]? = some oj) (e : Edge) (he : e ∈ oj.after) (hb : Region.binds .any e = true) (hon : e.on = i) {p : Prop} : Lst L j p := by
  intro hl
  have := h j oj hj hl e he hb
  rw [hon, getD_both hu] at this
  cases this

/-- One operation: where it comes, what is to hold then is handed on. -/
def Step (P : Program) (ops : Array Oper) (Q : Exit → Act → World → Prop) (J : Array Bool → Act → World → Prop) (i : Nat) (o : Oper) : Prop :=
  ∀ (L : Array Bool) (a : Act) (w : World) (K : Act → World → Prop), (∀ a' w', J (L.setIfInBounds i true) a' w' → K a' w') → J L a w → Closed ops L →
    (∀ e ∈ o.after, Region.binds .any e = true → L.getD e.on false = true) → L.getD i true = false → if Region.wanted o (yielded ops a.tmps) = true then o.wp P a w K Q else K (a.put o.dst undef) w

def steps (P : Program) (ops : Array Oper) (Q : Exit → Act → World → Prop) (J : Array Bool → Act → World → Prop) : List Oper → Nat → Prop
  | [], _ => True
  | o :: r, i => Step P ops Q J i o ∧ steps P ops Q J r (i + 1)

theorem steps_at {ops : Array Oper} {Q : Exit → Act → World → Prop} {J : Array Bool → Act → World → Prop} : ∀ (l : List Oper) (k i : Nat) (o : Oper), steps P ops Q J l k → l[i]? = some o → Step P ops Q J (k + i) o
  | [], k, i, o, _, h => by simp at h
  | x :: r, k, 0, o, hs, h => by simp at h; subst h; exact hs.1
  | x :: r, k, i + 1, o, hs, h => by
    have := steps_at r (k + 1) i o hs.2 (by simpa using h)
    rwa [show k + 1 + i = k + (i + 1) by omega] at this

/-- An operation waits only for what stands ahead of it. -/
def aheadB (ops : Array Oper) : Bool := (List.range ops.size).all fun i => match ops[i]? with | some o => o.after.all fun e => !Region.binds .any e || decide (e.on < i) | none => true

theorem all_listed {ops : Array Oper} (hB : aheadB ops = true) {L : Array Bool} (hL : L.size = ops.size) (hr : Region.ready .any ops L = []) : ∀ i, i < ops.size → L.getD i false = true := by
  intro i
  induction i using Nat.strongRecOn with
  | _ i ih =>
    intro hi
    cases hg : L.getD i false with
    | true => rfl
    | false =>
      exfalso
      have ho : ops[i]? = some ops[i] := Array.getElem?_eq_getElem hi
      have hmem : i ∈ Region.ready .any ops L := by
        refine mem_ready.2 ⟨getD_in (by rw [hL]; exact hi) hg, ops[i], ho, fun e he hb => ?_⟩
        have h1 := List.all_eq_true.1 hB i (List.mem_range.2 hi)
        simp only [ho] at h1
        have h2 := (Array.all_eq_true'.1 h1) e he
        simp only [hb, Bool.not_true, Bool.false_or, decide_eq_true_eq] at h2
        exact ih e.on h2 (by omega)
      rw [hr] at hmem
      cases hmem

def unl (L : Array Bool) : Nat := L.toList.countP (fun b => !b)
theorem unl_set {L : Array Bool} {i : Nat} (hi : L.getD i true = false) : unl (L.setIfInBounds i true) + 1 = unl L := by
  have hlt : i < L.size := by
    rcases Nat.lt_or_ge i L.size with h | h
    · exact h
    · simp [Array.getElem?_eq_none h] at hi
  have hv : L[i] = false := by simpa [hlt] using hi
  unfold unl
  rw [Array.toList_setIfInBounds, List.countP_set (by simpa using hlt)]
  have hv' : L.toList[i]'(by simpa using hlt) = false := by simpa using hv
  simp only [hv', Bool.not_false, Bool.not_true, if_true]
  have hp : 0 < L.toList.countP (fun b => !b) := List.countP_pos_iff.2 ⟨false, by rw [← hv']; exact List.getElem_mem _, rfl⟩
  rw [if_neg Bool.false_ne_true, Nat.add_zero]
  omega

theorem wpAny_of_inv {ops : Array Oper} {J : Array Bool → Act → World → Prop} {Q' : Exit → Act → World → Prop} (hB : aheadB ops = true)
    (hs : ∀ i o, ops[i]? = some o → Step P ops Q' J i o) (hend : ∀ L a w, (∀ i, i < ops.size → L.getD i false = true) → J L a w → Q' .normal a w) :
    ∀ (f : Nat) (L : Array Bool) (a : Act) (w : World), L.size = ops.size → Closed ops L → unl L = f → J L a w → wpAny P .any ops Q' f L a w
  | 0, L, a, w, hL, hc, hu, hJ => by
    have hr : Region.ready .any ops L = [] := by
      cases h : Region.ready .any ops L with
      | nil => rfl
      | cons i r =>
        exfalso
        have hi : i ∈ Region.ready .any ops L := by rw [h]; exact List.mem_cons_self
        have := unl_set (mem_ready.1 hi).1
        omega
    exact ⟨hr, hend L a w (all_listed hB hL hr) hJ⟩
  | f + 1, L, a, w, hL, hc, hu, hJ => by
    refine ⟨fun hr => hend L a w (all_listed hB hL hr) hJ, fun i hi => ?_⟩
    obtain ⟨hun, o, ho, hall⟩ := mem_ready.1 hi
    have h1 := hs i o ho L a w (wpAny P .any ops Q' f (L.setIfInBounds i true)) (fun a' w' hJ' => wpAny_of_inv hB hs hend f _ a' w' (by simp [hL]) (hc.set ho hall) (by have := unl_set hun; omega) hJ') hJ hc hall hun
    unfold wpOp
    simp only [ho]
    split
    · rename_i hw; rw [if_pos hw] at h1; exact .inl h1
    · rename_i hw; rw [if_neg hw] at h1; exact h1

theorem unl_replicate (n : Nat) : unl (Array.replicate n false) = n := by simp [unl, List.countP_replicate]

theorem wp_region_inv {id : Nat} {Q : Exit → Act → World → Prop} {a : Act} {w : World} {l : List Oper} (J : Array Bool → Act → World → Prop) (hm : P.follows .mixedOrders = true) (hB : aheadB l.toArray = true)
    (h0 : J (Array.replicate l.length false) a w.drew) (hs : steps P l.toArray Q J l 0) (hend : ∀ L a w, (∀ i, i < l.length → L.getD i false = true) → J L a w → Q .normal a w) : (Code.region id l.toArray true).wp P Q a w := by
  refine wp_region_any hm ?_
  refine wpAny_of_inv (J := J) hB (fun i o ho => ?_) (fun L a w h hJ => hend L a w (by simpa using h) hJ) _ _ _ _ (by simp) (fun j oj _ hl => by rw [getD_replicate_false] at hl; cases hl) (by simp [unl_replicate]) (by simpa using h0)
  have := steps_at l 0 i o hs (by simpa using ho)
  rwa [Nat.zero_add] at this
/-- The same, what holds said of the frame at the start. -/
theorem wp_region_from {id : Nat} {Q : Exit → Act → World → Prop} {a : Act} {w : World} {l : List Oper} (J : Act → Array Bool → Act → World → Prop) (hm : P.follows .mixedOrders = true) (hB : aheadB l.toArray = true)
    (h0 : J a (Array.replicate l.length false) a w.drew) (hs : steps P l.toArray Q (J a) l 0) (hend : ∀ L a' w, (∀ i, i < l.length → L.getD i false = true) → J a L a' w → Q .normal a' w) : (Code.region id l.toArray true).wp P Q a w :=
  wp_region_inv (J a) hm hB h0 hs hend
end
end Go.Proofs.YtdfppdkhiejbdaaGreatDoor.QI
end

section
/- What a law's walk keeps: blocks, rows of items; boxes of lists. -/
set_option linter.unusedVariables false
set_option linter.unusedSimpArgs false
namespace Go.Proofs.YtdfppdkhiejbdaaGreatDoor.Li
open Go.RowKit Go.Proofs.YtdfppdkhiejbdaaGreatDoor.PList Go.Proofs.YtdfppdkhiejbdaaGreatDoorW.PrintWords

theorem C_of_far {w : World} {ad : Addr} {xs : List S26} (hl : xs.length ≤ 4398046511104) (h : ∀ j, ∀ hj : j < xs.length, AtI w (ad.add (j * 6)) xs[j]) : Kd.C k26 w (some ad) xs.length xs := by
  refine ⟨rfl, by omega, fun _ => ⟨ad, rfl, fun j p hp => ?_⟩⟩
  obtain ⟨hj, rfl⟩ := List.getElem?_eq_some_iff.mp hp
  refine ⟨_, rfl, k26_mk w xs[j], ?_⟩
  intro i u hu
  obtain ⟨h0, h1, h2, h3, h4, h5⟩ := h j hj
  rw [show k26.sz = 6 from rfl, ← add_add]
  match i, hu with
  | 0, hu => simp at hu; subst hu; exact h0
  | 1, hu => simp at hu; subst hu; exact h1
  | 2, hu => simp at hu; subst hu; exact h2
  | 3, hu => simp at hu; subst hu; exact h3
  | 4, hu => simp at hu; subst hu; exact h4
  | 5, hu => simp at hu; subst hu; exact h5
  | i + 6, hu => simp at hu

/-- A row of items is kept by a store into a list's box. -/
theorem C_set {w : World} {nb : Nat} {a : Option Addr} {n c : Nat} {t0 : Value} {ty : TypeId} (h : w.heap[nb]? = some (.cells #[.slice a n c, t0] ty (0, 0))) (ht : ∀ s, t0 ≠ .string s) {A : Option Addr} {xs : List S26} (hl : xs.length ≤ 4398046511104) (hC : Kd.C k26 w A xs.length xs) (i : Nat) (u : Value) : Kd.C k26 (w.setCell ⟨nb, i, none⟩ u) A xs.length xs := by
  cases xs with
  | nil => exact ⟨hC.1, hC.2.1, fun h => absurd h (by simp)⟩
  | cons x t =>
    obtain ⟨ad, rfl, h0⟩ := at_of_C hC 0 (by simp)
    rw [Nat.zero_mul] at h0
    have e0 : ad.add 0 = ad := rfl
    have hs : w.cell? ad = some (.string x.f0) := by have := h0.1; rwa [e0] at this
    have hne : ad.block ≠ nb := by
      intro e
      have hsp := World.cell?_spot hs
      obtain ⟨b, o, s⟩ := ad
      simp only at e hsp
      subst e hsp
      rw [blk_cell h o] at hs
      match o, hs with
      | 0, hs => simp at hs
      | 1, hs => simp at hs; exact ht _ hs
      | o + 2, hs => simp at hs
    refine C_of_far hl (at_of_cells _ ad fun j v hv => ?_)
    have := cells_of_C hC j v hv
    rw [World.cell?_setCell_other]
    · exact this
    · intro e
      have : (ad.add j).block = nb := by rw [← e]
      unfold Addr.add at this
      split at this <;> exact hne this

/-- Blocks and rows of items that are kept since w. -/
def GK (w : World) (fs : List (Nat × Obj)) (rs : List (Option Addr × List S26)) (W : World) : Prop :=
  (∀ p ∈ fs, W.heap[p.1]? = some p.2) ∧ (∀ r ∈ rs, Kd.C k26 W r.1 r.2.length r.2 ∧ r.2.length ≤ 4398046511104) ∧ Below w.heap.size w W
theorem GK.start (w : World) : GK w [] [] w := ⟨fun p hp => by (cases hp), fun r hr => by (cases hr), Below.refl _ _⟩
theorem GK.step {w : World} {fs : List (Nat × Obj)} {rs : List (Option Addr × List S26)} {W W' : World} (h : GK w fs rs W) (hb : Below W.heap.size W W') : GK w fs rs W' :=
  ⟨fun p hp => blk_below (h.1 p hp) hb, fun r hr => ⟨Kd.C_below (h.2.1 r hr).1 hb, (h.2.1 r hr).2⟩, up h.2.2 hb⟩
theorem GK.drew {w : World} {fs : List (Nat × Obj)} {rs : List (Option Addr × List S26)} {W : World} (h : GK w fs rs W) : GK w fs rs W.drew := h.step (Below.refl _ _).drew
theorem GK.blk {w : World} {fs : List (Nat × Obj)} {rs : List (Option Addr × List S26)} {W : World} (h : GK w fs rs W) (i : Nat) (o : Obj) (hi : (i, o) ∈ fs) : W.heap[i]? = some o := h.1 (i, o) hi
theorem GK.row {w : World} {fs : List (Nat × Obj)} {rs : List (Option Addr × List S26)} {W : World} (h : GK w fs rs W) (A : Option Addr) (xs : List S26) (hi : (A, xs) ∈ rs) : Kd.C k26 W A xs.length xs := (h.2.1 (A, xs) hi).1
theorem GK.addB {w : World} {fs : List (Nat × Obj)} {rs : List (Option Addr × List S26)} {W : World} (h : GK w fs rs W) {i : Nat} {o : Obj} (hi : W.heap[i]? = some o) : GK w ((i, o) :: fs) rs W :=
  ⟨fun p hp => (by
    rcases List.mem_cons.mp hp with e | hp
    · rw [e]; exact hi
    · exact h.1 p hp), h.2⟩
theorem GK.addR {w : World} {fs : List (Nat × Obj)} {rs : List (Option Addr × List S26)} {W : World} (h : GK w fs rs W) {A : Option Addr} {xs : List S26} (hC : Kd.C k26 W A xs.length xs) (hl : xs.length ≤ 4398046511104) : GK w fs ((A, xs) :: rs) W :=
  ⟨h.1, fun r hr => (by
    rcases List.mem_cons.mp hr with e | hr
    · rw [e]; exact ⟨hC, hl⟩
    · exact h.2.1 r hr), h.2.2⟩
theorem GK.lt {w : World} {fs : List (Nat × Obj)} {rs : List (Option Addr × List S26)} {W : World} (h : GK w fs rs W) : ∀ p ∈ fs, p.1 < W.heap.size := fun p hp => blk_lt (h.1 p hp)

/-- A box of a list that the call has laid, apart from the blocks that are kept. -/
def Bx (w : World) (fs : List (Nat × Obj)) (u : Value) (W : World) : Prop := ∃ nb a n c t0, u = .pointer (some ⟨nb, 0, none⟩) ∧ W.heap[nb]? = some (.cells #[.slice a n c, .int .i64 t0] 24 (0, 0)) ∧ w.heap.size ≤ nb ∧ ∀ p ∈ fs, nb ≠ p.1
theorem Bx.below {w : World} {fs : List (Nat × Obj)} {u : Value} {W W' : World} (h : Bx w fs u W) (hb : Below W.heap.size W W') : Bx w fs u W' := by
  obtain ⟨nb, a, n, c, t0, h1, h2, h3⟩ := h
  exact ⟨nb, a, n, c, t0, h1, blk_below h2 hb, h3⟩
/-- A box in which such a list lies. -/
def BxOf (w : World) (fs : List (Nat × Obj)) (xs : List S26) (t : Int) (u : Value) (W : World) : Prop := ∃ nb B c', u = .pointer (some ⟨nb, 0, none⟩) ∧ W.heap[nb]? = some (.cells #[.slice B xs.length c', .int .i64 t] 24 (0, 0)) ∧ Kd.C k26 W B xs.length xs ∧ xs.length ≤ c' ∧ w.heap.size ≤ nb ∧ ∀ p ∈ fs, nb ≠ p.1
theorem BxOf.below {w : World} {fs : List (Nat × Obj)} {xs : List S26} {t : Int} {u : Value} {W W' : World} (h : BxOf w fs xs t u W) (hb : Below W.heap.size W W') : BxOf w fs xs t u W' := by
  obtain ⟨nb, B, c', h1, h2, h3, h4⟩ := h
  exact ⟨nb, B, c', h1, blk_below h2 hb, Kd.C_below h3 hb, h4⟩
/-- A list as a value. -/
def Lv (xs : List S26) (t : Int) (u : Value) (W : World) : Prop := ∃ B c', u = .agg #[.slice B xs.length c', .int .i64 t] ∧ Kd.C k26 W B xs.length xs ∧ xs.length ≤ c'
theorem Lv.below {xs : List S26} {t : Int} {u : Value} {W W' : World} (h : Lv xs t u W) (hb : Below W.heap.size W W') : Lv xs t u W' := by
  obtain ⟨B, c', h1, h2, h3⟩ := h
  exact ⟨B, c', h1, Kd.C_below h2 hb, h3⟩
/-- What a change has given. -/
def Res (xs : List S26) (t c : Int) (u : Value) (W : World) : Prop := ∃ B c', u = .tuple #[.agg #[.slice B xs.length c', .int .i64 t], .int .i64 c] ∧ Kd.C k26 W B xs.length xs ∧ xs.length ≤ c'
theorem Res.below {xs : List S26} {t c : Int} {u : Value} {W W' : World} (h : Res xs t c u W) (hb : Below W.heap.size W W') : Res xs t c u W' := by
  obtain ⟨B, c', h1, h2, h3⟩ := h
  exact ⟨B, c', h1, Kd.C_below h2 hb, h3⟩
section
variable {w W : World} {fs : List (Nat × Obj)} {nb : Nat} {a : Option Addr} {n c : Nat} {t0 : Int} (hb : W.heap[nb]? = some (.cells #[.slice a n c, .int .i64 t0] 24 (0, 0)))
include hb
theorem GK.set {rs : List (Option Addr × List S26)} (h : GK w fs rs W) (h1 : w.heap.size ≤ nb) (h2 : ∀ p ∈ fs, nb ≠ p.1) (i : Nat) (u : Value) : GK w fs rs (W.setCell ⟨nb, i, none⟩ u) :=
  ⟨fun p hp => by rw [Below.heap_setCell _ _ _ _ (Ne.symm (h2 p hp))]; exact h.1 p hp, fun r hr => ⟨C_set hb (by simp) (h.2.1 r hr).2 (h.2.1 r hr).1 i u, (h.2.1 r hr).2⟩, h.2.2.setCell (p := ⟨nb, i, none⟩) h1 u⟩
theorem Lv.set {xs : List S26} {t : Int} {v : Value} (h : Lv xs t v W) (hl : xs.length ≤ 4398046511104) (i : Nat) (u : Value) : Lv xs t v (W.setCell ⟨nb, i, none⟩ u) := by
  obtain ⟨B, c', h1, h2, h3⟩ := h
  exact ⟨B, c', h1, C_set hb (by simp) hl h2 i u, h3⟩
theorem Res.set {xs : List S26} {t k : Int} {v : Value} (h : Res xs t k v W) (hl : xs.length ≤ 4398046511104) (i : Nat) (u : Value) : Res xs t k v (W.setCell ⟨nb, i, none⟩ u) := by
  obtain ⟨B, c', h1, h2, h3⟩ := h
  exact ⟨B, c', h1, C_set hb (by simp) hl h2 i u, h3⟩
end
theorem put2 {w : World} {g : Nat} {t : TypeId} {a b a' b' : Value} (h : w.heap[g]? = some (.cells #[a, b] t (0, 0))) : ((w.setCell ⟨g, 0, none⟩ a').setCell ⟨g, 1, none⟩ b').heap[g]? = some (.cells #[a', b'] t (0, 0)) :=
  blk_put (blk_put h 0 a' rfl) 1 b' rfl

end Go.Proofs.YtdfppdkhiejbdaaGreatDoor.Li
end

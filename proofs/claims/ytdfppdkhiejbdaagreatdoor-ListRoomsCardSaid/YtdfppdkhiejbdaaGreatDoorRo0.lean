import Derived.Test.YtdfppdkhiejbdaaGreatDoorBa16
section
/- Package list's laws: ListRooms, plain. -/
set_option linter.unusedVariables false
set_option linter.unusedSimpArgs false
namespace Go.Proofs.YtdfppdkhiejbdaaGreatDoor.Li
open Go.RowKit Go.Proofs.YtdfppdkhiejbdaaGreatDoor.PList Go.Proofs.YtdfppdkhiejbdaaGreatDoorW.PrintWords

theorem fold_keeps {f : List Int → S26 → List Int} (hf : ∀ acc x n, n ∈ acc → n ∈ f acc x) {n : Int} : ∀ (xs : List S26) (acc : List Int), n ∈ acc → n ∈ xs.foldl f acc
  | [], acc, h => h
  | x :: xs, acc, h => fold_keeps hf xs (f acc x) (hf acc x n h)
theorem fold_mem {f : List Int → S26 → List Int} (hf : ∀ acc x n, n ∈ acc → n ∈ f acc x) {n : Int} {y : S26} (hy : ∀ acc, n ∈ f acc y) : ∀ (xs : List S26) (acc : List Int), y ∈ xs → n ∈ xs.foldl f acc
  | x :: xs, acc, h => by
    rcases List.mem_cons.mp h with rfl | h
    · exact fold_keeps hf xs _ (hy acc)
    · exact fold_mem hf hy xs _ h
theorem takenP_len (g : Int) (xs : List S26) : (takenP g xs).length ≤ xs.length := by
  have := fold_length (stepP g) (fun acc x => by unfold stepP; split <;> simp) xs []
  simpa [takenP] using this
theorem takenR_len (xs : List S26) : (takenR xs).length ≤ xs.length := by
  have := fold_length stepR (fun acc x => by unfold stepR; split <;> simp) xs []
  simpa [takenR] using this
theorem takenP_mem {g : Int} {xs : List S26} {x : S26} (hx : x ∈ xs) (h : isG x = false) (hg : x.f1 = g) : x.f2 ∈ takenP g xs :=
  fold_mem (fun acc y n hn => by unfold stepP; split <;> simp [hn]) (fun acc => by unfold stepP; simp [h, hg]) xs [] hx
theorem takenR_mem {xs : List S26} {x : S26} (hx : x ∈ xs) (h : isG x = true) : x.f1 ∈ takenR xs :=
  fold_mem (fun acc y n hn => by unfold stepR; split <;> simp [hn]) (fun acc => by unfold stepR; simp [h]) xs [] hx

theorem unique_found {p : S26 → Bool} {xs : List S26} {x : S26} (hx : x ∈ xs) (hp : p x = true) (hu : ∀ y ∈ xs, p y = true → y = x) : findB p xs = (x, true) := by
  unfold findB
  cases h : xs.find? p with
  | none => exact absurd hp (List.find?_eq_none.mp h x hx)
  | some y => rw [hu y (List.mem_of_find?_eq_some h) (List.find?_some h)]

theorem pw_eq {R : S26 → S26 → Prop} {xs : List S26} (h : xs.Pairwise R) {x y : S26} (hx : x ∈ xs) (hy : y ∈ xs) (h1 : ¬ R x y) (h2 : ¬ R y x) : x = y := by
  induction h with
  | nil => cases hx
  | cons ha _ ih =>
    rcases List.mem_cons.mp hx with rfl | hx' <;> rcases List.mem_cons.mp hy with rfl | hy'
    · rfl
    · exact absurd (ha y hy') h1
    · exact absurd (ha x hx') h2
    · exact ih hx' hy'

/-- What the walk of ListRooms asks. -/
structure RoomsOk (g : Int) (xs : List S26) (p r : Int) : Prop where
  p1 : 1 ≤ p
  r1 : 1 ≤ r
  p2 : p ≤ (xs.length : Int) + 1
  r2 : r ≤ (xs.length : Int) + 1
  ti : (findB (inG r) xs).1.f0 = ⟨#[]⟩
  place : ∀ x ∈ xs, ¬ (x.f3 = 0 ∧ x.f1 = g ∧ x.f2 = p)
  room : ∀ x ∈ xs, ¬ (x.f3 = 1 ∧ x.f1 = r)
  title : ∀ x ∈ xs, x.f3 = 1 → (findB (inG x.f1) xs).1.f0 = x.f0
  group : ∀ x ∈ xs, x.f3 = 1 → findB (called x.f0) xs = (x, true)

theorem rooms_ok (g : Int) {xs : List S26} (hg : Good xs) : RoomsOk g xs (freeL (takenP g xs)) (freeL (takenR xs)) := by
  obtain ⟨p1, p2, p3⟩ := freeL_tells (takenP g xs)
  obtain ⟨r1, r2, r3⟩ := freeL_tells (takenR xs)
  have lp := takenP_len g xs
  have lr := takenR_len xs
  have hroom : ∀ x ∈ xs, ¬ (x.f3 = 1 ∧ x.f1 = freeL (takenR xs)) := fun x hx ⟨h1, h2⟩ => r3 (by rw [← h2]; exact takenR_mem hx (by unfold isG; simp [h1]))
  refine ⟨p1, r1, by omega, by omega, ?_, fun x hx ⟨h1, h2, h3⟩ => p3 (by rw [← h3]; exact takenP_mem hx (by unfold isG; simp [h1]) h2), hroom, fun x hx h1 => ?_, fun x hx h1 => ?_⟩
  · unfold findB
    cases h : xs.find? (inG (freeL (takenR xs))) with
    | none => rfl
    | some y =>
      have := List.find?_some h
      unfold inG isG at this
      simp at this
      exact absurd this (hroom y (List.mem_of_find?_eq_some h))
  · rw [unique_found (x := x) hx (by unfold inG isG; simp [h1]) ?_]
    intro y hy hp
    unfold inG isG at hp
    simp at hp
    have f2 : ∀ z ∈ xs, z.f3 = 1 → z.f2 = 0 := by
      intro z hz h
      have := hg.fits z hz
      unfold fitsB isG at this
      rw [h] at this
      simp at this
      exact this.1.2
    have e1 := f2 x hx h1
    have e2 := f2 y hy hp.1
    exact pw_eq hg.ord hy hx (by unfold LtI; omega) (by unfold LtI; omega)
  · refine unique_found hx (by unfold called isG; simp [h1]) ?_
    intro y hy hp
    unfold called isG at hp
    simp at hp
    have hk : keyB y = keyB x := by
      have hgx : isG x = true := by unfold isG; simp [h1]
      have hgy : isG y = true := by unfold isG; simp [hp.1]
      unfold keyB
      rw [if_pos hgx, if_pos hgy, toList_inj hp.2, hp.1, h1]
    exact pw_eq hg.keys hy hx (by simp [hk]) (by simp [hk])

end Go.Proofs.YtdfppdkhiejbdaaGreatDoor.Li
end

section
/- Package list's laws: ListRooms, walked. -/
set_option linter.unusedVariables false
set_option linter.unusedSimpArgs false
namespace Go.Proofs.YtdfppdkhiejbdaaGreatDoor.Li
open Go.RowKit Go.Proofs.YtdfppdkhiejbdaaGreatDoor.PList Go.Proofs.YtdfppdkhiejbdaaGreatDoorW.PrintWords
attribute [local go_sem high] eqA26

/-- A box of an item that the call has laid, apart from the blocks that are kept. -/
def Ix (w : World) (fs : List (Nat × Obj)) (u : Value) (W : World) : Prop := ∃ nb y, u = .pointer (some ⟨nb, 0, none⟩) ∧ W.heap[nb]? = some (ib y) ∧ w.heap.size ≤ nb ∧ ∀ p ∈ fs, nb ≠ p.1
theorem Ix.below {w : World} {fs : List (Nat × Obj)} {u : Value} {W W' : World} (h : Ix w fs u W) (hb : Below W.heap.size W W') : Ix w fs u W' := by
  obtain ⟨nb, y, h1, h2, h3⟩ := h
  exact ⟨nb, y, h1, blk_below h2 hb, h3⟩
/-- A box in which such an item lies. -/
def IxOf (w : World) (fs : List (Nat × Obj)) (x : S26) (u : Value) (W : World) : Prop := ∃ nb, u = .pointer (some ⟨nb, 0, none⟩) ∧ W.heap[nb]? = some (ib x) ∧ w.heap.size ≤ nb ∧ ∀ p ∈ fs, nb ≠ p.1
theorem IxOf.below {w : World} {fs : List (Nat × Obj)} {x : S26} {u : Value} {W W' : World} (h : IxOf w fs x u W) (hb : Below W.heap.size W W') : IxOf w fs x u W' := by
  obtain ⟨nb, h1, h2, h3⟩ := h
  exact ⟨nb, h1, blk_below h2 hb, h3⟩
theorem GK.setI {w W : World} {fs : List (Nat × Obj)} {nb : Nat} (h : GK w fs [] W) (h1 : w.heap.size ≤ nb) (h2 : ∀ p ∈ fs, nb ≠ p.1) (i : Nat) (u : Value) : GK w fs [] (W.setCell ⟨nb, i, none⟩ u) :=
  ⟨fun p hp => by rw [Below.heap_setCell _ _ _ _ (Ne.symm (h2 p hp))]; exact h.1 p hp, fun r hr => (by cases hr), h.2.2.setCell (p := ⟨nb, i, none⟩) h1 u⟩
theorem put6i {w : World} {g : Nat} {t : TypeId} {a0 a1 a2 a3 a4 a5 b0 b1 b2 b3 b4 b5 : Value} (h : w.heap[g]? = some (.cells #[a0, a1, a2, a3, a4, a5] t (0, 0))) :
    ((((((w.setCell ⟨g, 0, none⟩ b0).setCell ⟨g, 1, none⟩ b1).setCell ⟨g, 2, none⟩ b2).setCell ⟨g, 3, none⟩ b3).setCell ⟨g, 4, none⟩ b4).setCell ⟨g, 5, none⟩ b5).heap[g]? = some (.cells #[b0, b1, b2, b3, b4, b5] t (0, 0)) :=
  blk_put (blk_put (blk_put (blk_put (blk_put (blk_put h 0 b0 rfl) 1 b1 rfl) 2 b2 rfl) 3 b3 rfl) 4 b4 rfl) 5 b5 rfl
theorem GK.set6 {w W : World} {fs : List (Nat × Obj)} {nb : Nat} (h : GK w fs [] W) (h1 : w.heap.size ≤ nb) (h2 : ∀ p ∈ fs, nb ≠ p.1) (b0 b1 b2 b3 b4 b5 : Value) :
    GK w fs [] ((((((W.setCell ⟨nb, 0, none⟩ b0).setCell ⟨nb, 1, none⟩ b1).setCell ⟨nb, 2, none⟩ b2).setCell ⟨nb, 3, none⟩ b3).setCell ⟨nb, 4, none⟩ b4).setCell ⟨nb, 5, none⟩ b5) :=
  GK.setI (GK.setI (GK.setI (GK.setI (GK.setI (GK.setI h h1 h2 _ _) h1 h2 _ _) h1 h2 _ _) h1 h2 _ _) h1 h2 _ _) h1 h2 _ _

set_option maxHeartbeats 1500000 in
set_option maxRecDepth 1000000 in
theorem Rooms_no1 (t g : Int) (A : Option Addr) (c : Nat) (xs : List S26) (w : World) (hC : Kd.C k26 w A xs.length xs) (hcap : xs.length ≤ c) (hcame : Came xs) (hit : ∀ w, Kd.C k26 w A xs.length xs → Calls Tryz.prog 6 #[.slice A xs.length c] w fun e w' => e = .returned (.bool false) ∧ Below w.heap.size w w') :
    Calls Tryz.prog 5 #[.agg #[.slice A xs.length c, .int .i64 t], .int .i64 g] w fun e w' => e = .returned (.bool true) ∧ Below w.heap.size w w' := by
  have HG0 : Hid (GK w [(w.heap.size, .cells #[.slice A xs.length c, .int .i64 t] 24 (0, 0))] [] (w.alloc (.cells #[.slice A xs.length c, .int .i64 t] 24))) := Lib.hid (((GK.start w).step (bel1 _ _)).addB (blk_new _ _))
  obtain ⟨V, hV⟩ : ∃ V, w.alloc (.cells #[.slice A xs.length c, .int .i64 t] 24) = V := ⟨_, rfl⟩
  rw [hV] at HG0
  have HV := Lib.hid hV
  have HC := Lib.hid hC
  have HIT := Lib.hid (hit V (Kd.C_below hC HG0.out.2.2))
  have HCAME := Lib.hid hcame
  clear hV hit hcame hC
  obtain ⟨a0, a1, -⟩ := cells2 (HG0.out.blk w.heap.size _ (.head _))
  go_enter Tryz.func5, Tryz.ntmps5
  go_upto_region 1 with fail
  rw [HV.out]
  go_wp2_with fail
  refine Calls.mono HIT.out ?_
  rintro en w1 ⟨rfl, hb1⟩
  have HG1 := Lib.hid (HG0.out.step hb1)
  clear hb1 HIT a0 a1
  go_wp2_with fail
  refine Calls.mono (live_calls _) ?_
  rintro en w9 ⟨rfl, hb9⟩
  have HG9 := Lib.hid (HG1.out.step hb9)
  clear hb9
  go_wp2_with fail
  go_ret
  exact ⟨rfl, HG9.out.2.2⟩

set_option maxHeartbeats 1500000 in
set_option maxRecDepth 1000000 in
theorem Rooms_no2 (t g : Int) (A : Option Addr) (c : Nat) (xs : List S26) (w : World) (hC : Kd.C k26 w A xs.length xs) (hcap : xs.length ≤ c) (hcame : Came xs) (hit : ∀ w, Kd.C k26 w A xs.length xs → Calls Tryz.prog 6 #[.slice A xs.length c] w fun e w' => e = .returned (.bool true) ∧ Below w.heap.size w w') (hsm : Sm xs) (hck : (if checkB xs t = true then (0 : Int) else 170) = 170) :
    Calls Tryz.prog 5 #[.agg #[.slice A xs.length c, .int .i64 t], .int .i64 g] w fun e w' => e = .returned (.bool true) ∧ Below w.heap.size w w' := by
  have HCKB := Lib.hid hck
  clear hck
  have HG0 : Hid (GK w [(w.heap.size, .cells #[.slice A xs.length c, .int .i64 t] 24 (0, 0))] [] (w.alloc (.cells #[.slice A xs.length c, .int .i64 t] 24))) := Lib.hid (((GK.start w).step (bel1 _ _)).addB (blk_new _ _))
  obtain ⟨V, hV⟩ : ∃ V, w.alloc (.cells #[.slice A xs.length c, .int .i64 t] 24) = V := ⟨_, rfl⟩
  rw [hV] at HG0
  have HV := Lib.hid hV
  have HC := Lib.hid hC
  have HIT := Lib.hid (hit V (Kd.C_below hC HG0.out.2.2))
  have HCAME := Lib.hid hcame
  clear hV hit hcame hC
  obtain ⟨a0, a1, -⟩ := cells2 (HG0.out.blk w.heap.size _ (.head _))
  go_enter Tryz.func5, Tryz.ntmps5
  go_upto_region 1 with fail
  rw [HV.out]
  go_wp2_with fail
  refine Calls.mono HIT.out ?_
  rintro en w1 ⟨rfl, hb1⟩
  have HG1 := Lib.hid (HG0.out.step hb1)
  clear hb1 HIT a0 a1
  obtain ⟨a0, a1, -⟩ := cells2 (HG1.out.blk w.heap.size _ (.head _))
  have HCK := Lib.hid (Check_calls t A c xs w1 (Kd.C_below HC.out HG1.out.2.2) hsm HCAME.out.rg)
  rw [HCKB.out] at HCK
  go_wp2_with fail
  refine Calls.mono HCK.out ?_
  rintro en w2 ⟨rfl, hb2⟩
  have HG2 := Lib.hid (HG1.out.step hb2)
  clear hb2 HCK a0 a1
  go_wp2_with fail
  refine Calls.mono (wharflaw17_num.calls 170 170 _ rfl) ?_
  rintro en w3 ⟨rfl, hd3⟩
  have HG3 := Lib.hid (HG2.out.step hd3.below)
  clear hd3
  go_wp2_with fail
  refine Calls.mono (live_calls _) ?_
  rintro en w9 ⟨rfl, hb9⟩
  have HG9 := Lib.hid (HG3.out.step hb9)
  clear hb9
  go_wp2_with fail
  go_ret
  exact ⟨rfl, HG9.out.2.2⟩

set_option maxHeartbeats 1500000 in
set_option maxRecDepth 1000000 in
theorem Rooms_main (t g : Int) (A : Option Addr) (c : Nat) (xs : List S26) (w : World) (hC : Kd.C k26 w A xs.length xs) (hcap : xs.length ≤ c) (hcame : Came xs) (hit : ∀ w, Kd.C k26 w A xs.length xs → Calls Tryz.prog 6 #[.slice A xs.length c] w fun e w' => e = .returned (.bool true) ∧ Below w.heap.size w w') (hsm : Sm xs) (hlen : xs.length ≤ 120) (hck : (if checkB xs t = true then (0 : Int) else 170) = 0) (hgood : Good xs) (pl rm : Int) (hpl : freeL (takenP g xs) = pl) (hrm : freeL (takenR xs) = rm) (hro : RoomsOk g xs pl rm) :
    Calls Tryz.prog 5 #[.agg #[.slice A xs.length c, .int .i64 t], .int .i64 g] w fun e w' => e = .returned (.bool true) ∧ Below w.heap.size w w' := by
  have HCKB := Lib.hid hck
  have HGOOD := Lib.hid hgood
  clear hck hgood
  have HRO := Lib.hid hro
  have HPV := Lib.hid hpl
  have HRV := Lib.hid hrm
  have p1 := hro.p1
  have r1 := hro.r1
  have p2 := hro.p2
  have r2 := hro.r2
  clear hro hpl hrm
  have HG0 : Hid (GK w [(w.heap.size, .cells #[.slice A xs.length c, .int .i64 t] 24 (0, 0))] [] (w.alloc (.cells #[.slice A xs.length c, .int .i64 t] 24))) := Lib.hid (((GK.start w).step (bel1 _ _)).addB (blk_new _ _))
  obtain ⟨V, hV⟩ : ∃ V, w.alloc (.cells #[.slice A xs.length c, .int .i64 t] 24) = V := ⟨_, rfl⟩
  rw [hV] at HG0
  have HV := Lib.hid hV
  have HC := Lib.hid hC
  have HIT := Lib.hid (hit V (Kd.C_below hC HG0.out.2.2))
  have HCAME := Lib.hid hcame
  clear hV hit hcame hC
  obtain ⟨a0, a1, -⟩ := cells2 (HG0.out.blk w.heap.size _ (.head _))
  go_enter Tryz.func5, Tryz.ntmps5
  go_upto_region 1 with fail
  rw [HV.out]
  go_wp2_with fail
  refine Calls.mono HIT.out ?_
  rintro en w1 ⟨rfl, hb1⟩
  have HG1 := Lib.hid (HG0.out.step hb1)
  clear hb1 HIT a0 a1
  obtain ⟨a0, a1, -⟩ := cells2 (HG1.out.blk w.heap.size _ (.head _))
  have HCK := Lib.hid (Check_calls t A c xs w1 (Kd.C_below HC.out HG1.out.2.2) hsm HCAME.out.rg)
  rw [HCKB.out] at HCK
  go_wp2_with fail
  refine Calls.mono HCK.out ?_
  rintro en w2 ⟨rfl, hb2⟩
  have HG2 := Lib.hid (HG1.out.step hb2)
  clear hb2 HCK a0 a1
  go_wp2_with fail
  refine Calls.mono (wharflaw17_num.calls 0 0 _ rfl) ?_
  rintro en w3 ⟨rfl, hd3⟩
  have HG3 := Lib.hid (HG2.out.step hd3.below)
  clear hd3
  go_upto_region 3 with fail
  refine wp_region_quiet (C := GK w [(w.heap.size, .cells #[.slice A xs.length c, .int .i64 t] 24 (0, 0))] []) (by kernel_rfl) (by kernel_rfl) HG3.out.drew ?_
  dsimp only
  repeat (first | go_big_quiet_skip | (go_big_quiet_want; go_big_quiet_op; first | go_big_quiet_on | (refine ⟨_, fun _ _ => rfl, ?_⟩; go_big_quiet_on)))
  go_big_quiet_want
  refine ⟨(.agg #[.slice A xs.length c, .int .i64 t]), fun W hW => ?_, ?_⟩
  · obtain ⟨a0, a1, -⟩ := cells2 (hW.blk w.heap.size _ (.head _))
    clear hW
    go_simp
  go_big_quiet_on
  try simp only [Act.put, List.setIfInBounds_toArray, List.set_cons_zero, List.set_cons_succ]
  repeat (first | go_big_quiet_skip | (go_big_quiet_want; go_big_quiet_op; first | go_big_quiet_on | (refine ⟨_, fun _ _ => rfl, ?_⟩; go_big_quiet_on)))
  go_big_quiet_want
  refine ⟨.int .i64 pl, fun W hW => ?_, ?_⟩
  · have hcall := (Place_calls g t A c xs W (Kd.C_below HC.out hW.2.2) (by omega) HCAME.out.rg).mono fun e w' h => (⟨h.1, hW.step h.2⟩ : e = _ ∧ GK w [(w.heap.size, .cells #[.slice A xs.length c, .int .i64 t] 24 (0, 0))] [] w')
    rw [HPV.out] at hcall
    have HCALL := Lib.hid hcall
    clear hW hcall
    go_simp
    exact HCALL.out
  go_big_quiet_on
  try simp only [Act.put, List.setIfInBounds_toArray, List.set_cons_zero, List.set_cons_succ]
  repeat (first | go_big_quiet_skip | (go_big_quiet_want; go_big_quiet_op; first | go_big_quiet_on | (refine ⟨_, fun _ _ => rfl, ?_⟩; go_big_quiet_on)))
  go_big_quiet_want
  refine ⟨(.agg #[.slice A xs.length c, .int .i64 t]), fun W hW => ?_, ?_⟩
  · obtain ⟨a0, a1, -⟩ := cells2 (hW.blk w.heap.size _ (.head _))
    clear hW
    go_simp
  go_big_quiet_on
  try simp only [Act.put, List.setIfInBounds_toArray, List.set_cons_zero, List.set_cons_succ]
  repeat (first | go_big_quiet_skip | (go_big_quiet_want; go_big_quiet_op; first | go_big_quiet_on | (refine ⟨_, fun _ _ => rfl, ?_⟩; go_big_quiet_on)))
  go_big_quiet_want
  refine ⟨.int .i64 rm, fun W hW => ?_, ?_⟩
  · have hcall := (Room_calls t A c xs W (Kd.C_below HC.out hW.2.2) (by omega) HCAME.out.rg).mono fun e w' h => (⟨h.1, hW.step h.2⟩ : e = _ ∧ GK w [(w.heap.size, .cells #[.slice A xs.length c, .int .i64 t] 24 (0, 0))] [] w')
    rw [HRV.out] at hcall
    have HCALL := Lib.hid hcall
    clear hW hcall
    go_simp
    exact HCALL.out
  go_big_quiet_on
  try simp only [Act.put, List.setIfInBounds_toArray, List.set_cons_zero, List.set_cons_succ]
  repeat (first | go_big_quiet_skip | (go_big_quiet_want; go_big_quiet_op; first | go_big_quiet_on | (refine ⟨_, fun _ _ => rfl, ?_⟩; go_big_quiet_on)))
  refine wpQuiet_nil ?_
  intro W4 hW
  have HG4 := Lib.hid hW
  clear hW HPV HRV
  obtain ⟨a0, a1, -⟩ := cells2 (HG4.out.blk w.heap.size _ (.head _))
  have HT := Lib.hid (Title_calls rm t A c xs W4 (Kd.C_below HC.out HG4.out.2.2) hsm)
  rw [HRO.out.ti] at HT
  go_upto_region 4 with fail
  go_wp2_with fail
  refine Calls.mono HT.out ?_
  rintro en w5 ⟨rfl, hb5⟩
  have HG5 := Lib.hid (HG4.out.step hb5)
  clear hb5 HT a0 a1
  go_wp2_with fail
  go_loopw [7] (fun v wr => ∃ k : Nat, k ≤ xs.length ∧ v = .int .i64 k ∧ Hid (GK w [(w.heap.size, .cells #[.slice A xs.length c, .int .i64 t] 24 (0, 0))] [] wr)) (fun v _ => xs.length - (intOf v).toNat)
  case atStart => exact ⟨0, Nat.zero_le _, rfl, HG5⟩
  case round =>
    obtain ⟨k, hk, rfl, HG6⟩ := hrel
    obtain ⟨a0, a1, -⟩ := cells2 (HG6.out.blk w.heap.size _ (.head _))
    obtain ⟨af, -⟩ := cells2f (HG6.out.blk w.heap.size _ (.head _))
    by_cases hlt : k < xs.length
    · have hx := List.getElem_mem hlt
      have hCr := Kd.C_below HC.out HG6.out.2.2
      obtain ⟨ad, hA, q0, q1, q2, q3, q4, q5⟩ := at_T26 hCr (k : Int) (by omega) (by omega)
      have hrd : rd_T26 xs (k : Int) = xs[k] := by simp [rd_T26, hlt]
      rw [hrd] at q0 q1 q2 q3 q4 q5
      simp only [Int.toNat_natCast] at q0 q1 q2 q3 q4 q5
      obtain ⟨x, hxk⟩ : ∃ x, xs[k] = x := ⟨_, rfl⟩
      rw [hxk] at q0 q1 q2 q3 q4 q5 hx
      have HX := Lib.hid hx
      have hty := item_type (HGOOD.out.item x hx)
      have hpl := HRO.out.place x hx
      have hro := HRO.out.room x hx
      have htt := HRO.out.title x hx
      have hgp := HRO.out.group x hx
      have hs0 := (hsm.2 x hx).1
      subst hA
      clear hrd hCr hxk hx
      go_upto_region 10 with fail
      obtain ⟨nx, hnx⟩ : ∃ nx, wr.heap.size = nx := ⟨_, rfl⟩
      obtain ⟨W7, hW7⟩ : ∃ W7, W7 = wr.alloc (ib x) := ⟨_, rfl⟩
      have HG7 : Hid (GK w [(nx, ib x), (w.heap.size, .cells #[.slice (some ad) xs.length c, .int .i64 t] 24 (0, 0))] [] W7) := Lib.hid (by rw [hW7, ← hnx]; exact (HG6.out.step (bel1 _ _)).addB (blk_new _ _))
      have hW7' : wr.alloc (.cells #[.string x.f0, .int .i64 x.f1, .int .i64 x.f2, .int .i64 x.f3, .string x.f4, .bool x.f5] 26) = W7 := hW7.symm
      first | rw [hW7'] | skip
      rw [hnx]
      clear hW7 hW7' hnx q0 q1 q2 q3 q4 q5 a0 a1 af HG6
      obtain ⟨x0, x1, x2, x3, x4, x5, _, _, _, _, _, _⟩ := cells6 (HG7.out.blk nx _ (.head _))
      obtain ⟨f0, f1, f2, f3, f4, f5⟩ := x
      dsimp only at *
      rcases hty with h3 | h3
      · subst h3
        by_cases hg1 : f1 = g
        · have e1 : (f1 == g) = true := by simp [hg1]
          have e2 : (f2 == pl) = false := by simp; exact fun h => hpl ⟨rfl, hg1, h⟩
          clear hpl hro htt hgp
          go_wp2_with fail
          exact ⟨⟨k + 1, by omega, by go_num, Lib.hid ⟨fun p hp => HG7.out.1 p (List.mem_cons_of_mem _ hp), HG7.out.2⟩⟩, by simp [intOf]; omega⟩
        · have e1 : (f1 == g) = false := by simp [hg1]
          clear hpl hro htt hgp
          go_wp2_with fail
          exact ⟨⟨k + 1, by omega, by go_num, Lib.hid ⟨fun p hp => HG7.out.1 p (List.mem_cons_of_mem _ hp), HG7.out.2⟩⟩, by simp [intOf]; omega⟩
      · subst h3
        have e1 : (f1 == rm) = false := by simp; exact fun h => hro ⟨rfl, h⟩
        have htt := htt rfl
        have hgp := hgp rfl
        have HTT := Lib.hid htt
        have HGP := Lib.hid hgp
        clear hpl hro htt hgp
        go_upto_region 13 with fail
        have hHX := HX.out
        refine QI.wp_region_from (fun a0 L a W => ∃ u97 u98 u99 u100 u101 u102 u96 u103 u104 u9 u10 : Value, a = (((((((((((a0.put (some 97) u97).put (some 98) u98).put (some 99) u99).put (some 100) u100).put (some 101) u101).put (some 102) u102).put (some 96) u96).put (some 103) u103).put (some 104) u104).put (some 9) u9).put (some 10) u10) ∧ GK w [(nx, ib ⟨f0, f1, f2, 1, f4, f5⟩), (w.heap.size, .cells #[.slice (some ad) xs.length c, .int .i64 t] 24 (0, 0))] [] W ∧ QI.Lst L 0 (u97 = .agg #[.slice (some ad) xs.length c, .int .i64 t]) ∧ QI.Lst L 1 (u98 = .agg #[.slice (some ad) xs.length c, .int .i64 t]) ∧ QI.Lst L 2 (u99 = .pointer (some ⟨nx, 1, none⟩)) ∧ QI.Lst L 3 (u100 = .int .i64 f1) ∧ QI.Lst L 4 (u101 = .string f0) ∧ QI.Lst L 5 (u102 = .tuple #[iv ⟨f0, f1, f2, 1, f4, f5⟩, .bool true]) ∧ QI.Lst L 6 (u96 = .tuple #[iv ⟨f0, f1, f2, 1, f4, f5⟩, .bool true]) ∧ QI.Lst L 7 (u103 = iv ⟨f0, f1, f2, 1, f4, f5⟩) ∧ QI.Lst L 8 (u104 = .bool true) ∧ QI.Lst L 9 (Ix w [(nx, ib ⟨f0, f1, f2, 1, f4, f5⟩), (w.heap.size, .cells #[.slice (some ad) xs.length c, .int .i64 t] 24 (0, 0))] u9 W) ∧ QI.Lst L 10 (IxOf w [(nx, ib ⟨f0, f1, f2, 1, f4, f5⟩), (w.heap.size, .cells #[.slice (some ad) xs.length c, .int .i64 t] 24 (0, 0))] ⟨f0, f1, f2, 1, f4, f5⟩ u9 W) ∧ QI.Lst L 11 (u10 = .bool true)) (by kernel_rfl) (by kernel_rfl) ?start ?steps ?theend
        case start => exact ⟨_, _, _, _, _, _, _, _, _, _, _, (by simp only [Act.put, List.setIfInBounds_toArray, List.set_cons_zero, List.set_cons_succ]; rfl), HG7.out.drew, QI.Lst.start, QI.Lst.start, QI.Lst.start, QI.Lst.start, QI.Lst.start, QI.Lst.start, QI.Lst.start, QI.Lst.start, QI.Lst.start, QI.Lst.start, QI.Lst.start, QI.Lst.start⟩
        case steps =>
          refine ⟨?_, ?_, ?_, ?_, ?_, ?_, ?_, ?_, ?_, ?_, ?_, ?_, trivial⟩
          · rintro L a W K hK ⟨u97, u98, u99, u100, u101, u102, u96, u103, u104, u9, u10, rfl, hG, h0, h1, h2, h3, h4, h5, h6, h7, h8, h9, h10, h11⟩ hcl hd hu
            clear hd
            have HK := Lib.hid hK
            clear hK
            have HG := Lib.hid hG
            clear hG
            rw [if_pos (by rfl)]
            simp only [Act.put, List.setIfInBounds_toArray, List.set_cons_zero, List.set_cons_succ]
            obtain ⟨a0, a1, -⟩ := cells2 (HG.out.blk w.heap.size _ (.tail _ (.head _)))
            go_simp
            refine HK.out _ _ ⟨.agg #[.slice (some ad) xs.length c, .int .i64 t], u98, u99, u100, u101, u102, u96, u103, u104, u9, u10, (by first | (simp only [Act.put, List.setIfInBounds_toArray, List.set_cons_zero, List.set_cons_succ]; done) | (simp only [Act.put, List.setIfInBounds_toArray, List.set_cons_zero, List.set_cons_succ]; rfl)), HG.out, QI.Lst.self (rfl), h1.other (by decide), h2.other (by decide), h3.other (by decide), h4.other (by decide), h5.other (by decide), h6.other (by decide), h7.other (by decide), h8.other (by decide), h9.other (by decide), h10.other (by decide), h11.other (by decide)⟩
          · rintro L a W K hK ⟨u97, u98, u99, u100, u101, u102, u96, u103, u104, u9, u10, rfl, hG, h0, h1, h2, h3, h4, h5, h6, h7, h8, h9, h10, h11⟩ hcl hd hu
            clear hd
            have HK := Lib.hid hK
            clear hK
            have HG := Lib.hid hG
            clear hG
            rw [if_pos (by rfl)]
            simp only [Act.put, List.setIfInBounds_toArray, List.set_cons_zero, List.set_cons_succ]
            obtain ⟨a0, a1, -⟩ := cells2 (HG.out.blk w.heap.size _ (.tail _ (.head _)))
            go_simp
            refine HK.out _ _ ⟨u97, .agg #[.slice (some ad) xs.length c, .int .i64 t], u99, u100, u101, u102, u96, u103, u104, u9, u10, (by first | (simp only [Act.put, List.setIfInBounds_toArray, List.set_cons_zero, List.set_cons_succ]; done) | (simp only [Act.put, List.setIfInBounds_toArray, List.set_cons_zero, List.set_cons_succ]; rfl)), HG.out, h0.other (by decide), QI.Lst.self (rfl), h2.other (by decide), h3.other (by decide), h4.other (by decide), h5.other (by decide), h6.other (by decide), h7.other (by decide), h8.other (by decide), h9.other (by decide), h10.other (by decide), h11.other (by decide)⟩
          · rintro L a W K hK ⟨u97, u98, u99, u100, u101, u102, u96, u103, u104, u9, u10, rfl, hG, h0, h1, h2, h3, h4, h5, h6, h7, h8, h9, h10, h11⟩ hcl hd hu
            clear hd
            have HK := Lib.hid hK
            clear hK
            have HG := Lib.hid hG
            clear hG
            rw [if_pos (by rfl)]
            simp only [Act.put, List.setIfInBounds_toArray, List.set_cons_zero, List.set_cons_succ]
            go_simp
            refine HK.out _ _ ⟨u97, u98, .pointer (some ⟨nx, 1, none⟩), u100, u101, u102, u96, u103, u104, u9, u10, (by first | (simp only [Act.put, List.setIfInBounds_toArray, List.set_cons_zero, List.set_cons_succ]; done) | (simp only [Act.put, List.setIfInBounds_toArray, List.set_cons_zero, List.set_cons_succ]; rfl)), HG.out, h0.other (by decide), h1.other (by decide), QI.Lst.self (rfl), h3.other (by decide), h4.other (by decide), h5.other (by decide), h6.other (by decide), h7.other (by decide), h8.other (by decide), h9.other (by decide), h10.other (by decide), h11.other (by decide)⟩
          · rintro L a W K hK ⟨u97, u98, u99, u100, u101, u102, u96, u103, u104, u9, u10, rfl, hG, h0, h1, h2, h3, h4, h5, h6, h7, h8, h9, h10, h11⟩ hcl hd hu
            have d2 := hd ⟨2, .data⟩ (by simp) rfl
            clear hd
            have HK := Lib.hid hK
            clear hK
            have HG := Lib.hid hG
            clear hG
            rw [if_pos (by rfl)]
            simp only [Act.put, List.setIfInBounds_toArray, List.set_cons_zero, List.set_cons_succ]
            obtain rfl := h2.get d2
            obtain ⟨x0, x1, x2, x3, x4, x5, _, _, _, _, _, _⟩ := cells6 (HG.out.blk nx _ (.head _))
            go_simp
            refine HK.out _ _ ⟨u97, u98, .pointer (some ⟨nx, 1, none⟩), .int .i64 f1, u101, u102, u96, u103, u104, u9, u10, (by first | (simp only [Act.put, List.setIfInBounds_toArray, List.set_cons_zero, List.set_cons_succ]; done) | (simp only [Act.put, List.setIfInBounds_toArray, List.set_cons_zero, List.set_cons_succ]; rfl)), HG.out, h0.other (by decide), h1.other (by decide), h2.other (by decide), QI.Lst.self (rfl), h4.other (by decide), h5.other (by decide), h6.other (by decide), h7.other (by decide), h8.other (by decide), h9.other (by decide), h10.other (by decide), h11.other (by decide)⟩
          · rintro L a W K hK ⟨u97, u98, u99, u100, u101, u102, u96, u103, u104, u9, u10, rfl, hG, h0, h1, h2, h3, h4, h5, h6, h7, h8, h9, h10, h11⟩ hcl hd hu
            have d1 := hd ⟨1, .data⟩ (by simp) rfl
            have d3 := hd ⟨3, .data⟩ (by simp) rfl
            clear hd
            have HK := Lib.hid hK
            clear hK
            have HG := Lib.hid hG
            clear hG
            rw [if_pos (by rfl)]
            simp only [Act.put, List.setIfInBounds_toArray, List.set_cons_zero, List.set_cons_succ]
            obtain rfl := h1.get d1
            obtain rfl := h3.get d3
            have HCALL := Lib.hid (Title_calls f1 t (some ad) c xs W (Kd.C_below HC.out HG.out.2.2) hsm)
            rw [HTT.out] at HCALL
            go_simp
            refine Calls.mono HCALL.out ?_
            rintro en W' ⟨rfl, hbW⟩
            go_simp
            refine HK.out _ _ ⟨u97, .agg #[.slice (some ad) xs.length c, .int .i64 t], u99, .int .i64 f1, .string f0, u102, u96, u103, u104, u9, u10, (by first | (simp only [Act.put, List.setIfInBounds_toArray, List.set_cons_zero, List.set_cons_succ]; done) | (simp only [Act.put, List.setIfInBounds_toArray, List.set_cons_zero, List.set_cons_succ]; rfl)), HG.out.step hbW, h0.other (by decide), h1.other (by decide), h2.other (by decide), h3.other (by decide), QI.Lst.self (rfl), h5.other (by decide), h6.other (by decide), h7.other (by decide), h8.other (by decide), (h9.other (by decide)).map (fun h => h.below hbW), (h10.other (by decide)).map (fun h => h.below hbW), h11.other (by decide)⟩
          · rintro L a W K hK ⟨u97, u98, u99, u100, u101, u102, u96, u103, u104, u9, u10, rfl, hG, h0, h1, h2, h3, h4, h5, h6, h7, h8, h9, h10, h11⟩ hcl hd hu
            have d0 := hd ⟨0, .data⟩ (by simp) rfl
            have d4 := hd ⟨4, .data⟩ (by simp) rfl
            clear hd
            have HK := Lib.hid hK
            clear hK
            have HG := Lib.hid hG
            clear hG
            rw [if_pos (by rfl)]
            simp only [Act.put, List.setIfInBounds_toArray, List.set_cons_zero, List.set_cons_succ]
            obtain rfl := h0.get d0
            obtain rfl := h4.get d4
            have HCALL := Lib.hid (Group_calls f0 t (some ad) c xs W (Kd.C_below HC.out HG.out.2.2) hsm hs0)
            rw [HGP.out] at HCALL
            go_simp
            refine Calls.mono HCALL.out ?_
            rintro en W' ⟨rfl, hbW⟩
            go_simp
            refine HK.out _ _ ⟨.agg #[.slice (some ad) xs.length c, .int .i64 t], u98, u99, u100, .string f0, .tuple #[iv ⟨f0, f1, f2, 1, f4, f5⟩, .bool true], u96, u103, u104, u9, u10, (by first | (simp only [Act.put, List.setIfInBounds_toArray, List.set_cons_zero, List.set_cons_succ]; done) | (simp only [Act.put, List.setIfInBounds_toArray, List.set_cons_zero, List.set_cons_succ]; rfl)), HG.out.step hbW, h0.other (by decide), h1.other (by decide), h2.other (by decide), h3.other (by decide), h4.other (by decide), QI.Lst.self (rfl), h6.other (by decide), h7.other (by decide), h8.other (by decide), (h9.other (by decide)).map (fun h => h.below hbW), (h10.other (by decide)).map (fun h => h.below hbW), h11.other (by decide)⟩
          · rintro L a W K hK ⟨u97, u98, u99, u100, u101, u102, u96, u103, u104, u9, u10, rfl, hG, h0, h1, h2, h3, h4, h5, h6, h7, h8, h9, h10, h11⟩ hcl hd hu
            have d5 := hd ⟨5, .data⟩ (by simp) rfl
            clear hd
            have HK := Lib.hid hK
            clear hK
            have HG := Lib.hid hG
            clear hG
            rw [if_pos (by rfl)]
            simp only [Act.put, List.setIfInBounds_toArray, List.set_cons_zero, List.set_cons_succ]
            obtain rfl := h5.get d5
            go_simp
            refine HK.out _ _ ⟨u97, u98, u99, u100, u101, .tuple #[iv ⟨f0, f1, f2, 1, f4, f5⟩, .bool true], .tuple #[iv ⟨f0, f1, f2, 1, f4, f5⟩, .bool true], u103, u104, u9, u10, (by first | (simp only [Act.put, List.setIfInBounds_toArray, List.set_cons_zero, List.set_cons_succ]; done) | (simp only [Act.put, List.setIfInBounds_toArray, List.set_cons_zero, List.set_cons_succ]; rfl)), HG.out, h0.other (by decide), h1.other (by decide), h2.other (by decide), h3.other (by decide), h4.other (by decide), h5.other (by decide), QI.Lst.self (rfl), h7.other (by decide), h8.other (by decide), h9.other (by decide), h10.other (by decide), h11.other (by decide)⟩
          · rintro L a W K hK ⟨u97, u98, u99, u100, u101, u102, u96, u103, u104, u9, u10, rfl, hG, h0, h1, h2, h3, h4, h5, h6, h7, h8, h9, h10, h11⟩ hcl hd hu
            have d6 := hd ⟨6, .data⟩ (by simp) rfl
            clear hd
            have HK := Lib.hid hK
            clear hK
            have HG := Lib.hid hG
            clear hG
            rw [if_pos (by rfl)]
            simp only [Act.put, List.setIfInBounds_toArray, List.set_cons_zero, List.set_cons_succ]
            obtain rfl := h6.get d6
            go_simp
            refine HK.out _ _ ⟨u97, u98, u99, u100, u101, u102, .tuple #[iv ⟨f0, f1, f2, 1, f4, f5⟩, .bool true], iv ⟨f0, f1, f2, 1, f4, f5⟩, u104, u9, u10, (by first | (simp only [Act.put, List.setIfInBounds_toArray, List.set_cons_zero, List.set_cons_succ]; done) | (simp only [Act.put, List.setIfInBounds_toArray, List.set_cons_zero, List.set_cons_succ]; rfl)), HG.out, h0.other (by decide), h1.other (by decide), h2.other (by decide), h3.other (by decide), h4.other (by decide), h5.other (by decide), h6.other (by decide), QI.Lst.self (rfl), h8.other (by decide), h9.other (by decide), h10.other (by decide), h11.other (by decide)⟩
          · rintro L a W K hK ⟨u97, u98, u99, u100, u101, u102, u96, u103, u104, u9, u10, rfl, hG, h0, h1, h2, h3, h4, h5, h6, h7, h8, h9, h10, h11⟩ hcl hd hu
            have d6 := hd ⟨6, .data⟩ (by simp) rfl
            clear hd
            have HK := Lib.hid hK
            clear hK
            have HG := Lib.hid hG
            clear hG
            rw [if_pos (by rfl)]
            simp only [Act.put, List.setIfInBounds_toArray, List.set_cons_zero, List.set_cons_succ]
            obtain rfl := h6.get d6
            go_simp
            refine HK.out _ _ ⟨u97, u98, u99, u100, u101, u102, .tuple #[iv ⟨f0, f1, f2, 1, f4, f5⟩, .bool true], u103, .bool true, u9, u10, (by first | (simp only [Act.put, List.setIfInBounds_toArray, List.set_cons_zero, List.set_cons_succ]; done) | (simp only [Act.put, List.setIfInBounds_toArray, List.set_cons_zero, List.set_cons_succ]; rfl)), HG.out, h0.other (by decide), h1.other (by decide), h2.other (by decide), h3.other (by decide), h4.other (by decide), h5.other (by decide), h6.other (by decide), h7.other (by decide), QI.Lst.self (rfl), h9.other (by decide), h10.other (by decide), h11.other (by decide)⟩
          · rintro L a W K hK ⟨u97, u98, u99, u100, u101, u102, u96, u103, u104, u9, u10, rfl, hG, h0, h1, h2, h3, h4, h5, h6, h7, h8, h9, h10, h11⟩ hcl hd hu
            clear hd
            have HK := Lib.hid hK
            clear hK
            have HG := Lib.hid hG
            clear hG
            rw [if_pos (by rfl)]
            simp only [Act.put, List.setIfInBounds_toArray, List.set_cons_zero, List.set_cons_succ]
            have hlt := HG.out.lt
            have HLT := Lib.hid hlt
            have HBW := Lib.hid (bel1 W (ib z26))
            clear hlt
            go_simp
            have hbW := HBW.out
            refine HK.out _ _ ⟨u97, u98, u99, u100, u101, u102, u96, u103, u104, .pointer (some ⟨W.heap.size, 0, none⟩), u10, (by first | (simp only [Act.put, List.setIfInBounds_toArray, List.set_cons_zero, List.set_cons_succ]; done) | (simp only [Act.put, List.setIfInBounds_toArray, List.set_cons_zero, List.set_cons_succ]; rfl)), HG.out.step hbW, h0.other (by decide), h1.other (by decide), h2.other (by decide), h3.other (by decide), h4.other (by decide), h5.other (by decide), h6.other (by decide), h7.other (by decide), h8.other (by decide), QI.Lst.self (⟨W.heap.size, z26, rfl, blk_new W _, HG.out.2.2.size, fun p hp => by have := HLT.out p hp; omega⟩), (hcl.not hu (oj := _) rfl ⟨9, .data⟩ (by simp) rfl rfl : QI.Lst L 10 _).other (by decide), h11.other (by decide)⟩
          · rintro L a W K hK ⟨u97, u98, u99, u100, u101, u102, u96, u103, u104, u9, u10, rfl, hG, h0, h1, h2, h3, h4, h5, h6, h7, h8, h9, h10, h11⟩ hcl hd hu
            have d9 := hd ⟨9, .data⟩ (by simp) rfl
            have d7 := hd ⟨7, .data⟩ (by simp) rfl
            clear hd
            have HK := Lib.hid hK
            clear hK
            have HG := Lib.hid hG
            clear hG
            rw [if_pos (by rfl)]
            simp only [Act.put, List.setIfInBounds_toArray, List.set_cons_zero, List.set_cons_succ]
            obtain rfl := h7.get d7
            obtain ⟨nb, y, rfl, hbx, hn0, hn1⟩ := h9.get d9
            have HBX := Lib.hid hbx
            have HN1 := Lib.hid hn1
            obtain ⟨y0, y1, y2, y3, y4, y5, k0, k1, k2, k3, k4, k5⟩ := cells6 hbx
            clear hbx hn1
            go_simp
            have hbx := HBX.out
            have hn1 := HN1.out
            refine HK.out _ _ ⟨u97, u98, u99, u100, u101, u102, u96, iv ⟨f0, f1, f2, 1, f4, f5⟩, u104, .pointer (some ⟨nb, 0, none⟩), u10, (by first | (simp only [Act.put, List.setIfInBounds_toArray, List.set_cons_zero, List.set_cons_succ]; done) | (simp only [Act.put, List.setIfInBounds_toArray, List.set_cons_zero, List.set_cons_succ]; rfl)), GK.set6 HG.out hn0 hn1 _ _ _ _ _ _, h0.other (by decide), h1.other (by decide), h2.other (by decide), h3.other (by decide), h4.other (by decide), h5.other (by decide), h6.other (by decide), h7.other (by decide), h8.other (by decide), (h9.other (by decide)).map (fun _ => ⟨nb, ⟨f0, f1, f2, 1, f4, f5⟩, rfl, put6i hbx, hn0, hn1⟩), QI.Lst.self (⟨nb, rfl, put6i hbx, hn0, hn1⟩), h11.other (by decide)⟩
          · rintro L a W K hK ⟨u97, u98, u99, u100, u101, u102, u96, u103, u104, u9, u10, rfl, hG, h0, h1, h2, h3, h4, h5, h6, h7, h8, h9, h10, h11⟩ hcl hd hu
            have d8 := hd ⟨8, .data⟩ (by simp) rfl
            clear hd
            have HK := Lib.hid hK
            clear hK
            have HG := Lib.hid hG
            clear hG
            rw [if_pos (by rfl)]
            simp only [Act.put, List.setIfInBounds_toArray, List.set_cons_zero, List.set_cons_succ]
            obtain rfl := h8.get d8
            go_simp
            refine HK.out _ _ ⟨u97, u98, u99, u100, u101, u102, u96, u103, .bool true, u9, .bool true, (by first | (simp only [Act.put, List.setIfInBounds_toArray, List.set_cons_zero, List.set_cons_succ]; done) | (simp only [Act.put, List.setIfInBounds_toArray, List.set_cons_zero, List.set_cons_succ]; rfl)), HG.out, h0.other (by decide), h1.other (by decide), h2.other (by decide), h3.other (by decide), h4.other (by decide), h5.other (by decide), h6.other (by decide), h7.other (by decide), h8.other (by decide), h9.other (by decide), h10.other (by decide), QI.Lst.self (rfl)⟩
        case theend =>
          rintro L a W hall ⟨u97, u98, u99, u100, u101, u102, u96, u103, u104, u9, u10, rfl, hG, h0, h1, h2, h3, h4, h5, h6, h7, h8, h9, h10, h11⟩
          obtain rfl := h0.get (hall 0 (by decide))
          obtain rfl := h1.get (hall 1 (by decide))
          obtain rfl := h2.get (hall 2 (by decide))
          obtain rfl := h3.get (hall 3 (by decide))
          obtain rfl := h4.get (hall 4 (by decide))
          obtain rfl := h5.get (hall 5 (by decide))
          obtain rfl := h6.get (hall 6 (by decide))
          obtain rfl := h7.get (hall 7 (by decide))
          obtain rfl := h8.get (hall 8 (by decide))
          obtain rfl := h11.get (hall 11 (by decide))
          obtain ⟨nb, rfl, hbx, hn0, hn1⟩ := h10.get (hall 10 (by decide))
          have HG := Lib.hid hG
          obtain ⟨y0, y1, y2, y3, y4, y5, _, _, _, _, _, _⟩ := cells6 hbx
          obtain ⟨x0, x1, x2, x3, x4, x5, _, _, _, _, _, _⟩ := cells6 (hG.blk nx _ (.head _))
          clear hall h0 h1 h2 h3 h4 h5 h6 h7 h8 h9 h10 h11 hG hbx hn1
          simp only [Act.put, List.setIfInBounds_toArray, List.set_cons_zero, List.set_cons_succ]
          go_wp2_with fail
          exact ⟨⟨k + 1, by omega, by go_num, Lib.hid ⟨fun p hp => HG.out.1 p (List.mem_cons_of_mem _ hp), HG.out.2⟩⟩, by simp [intOf]; omega⟩
    · obtain rfl : k = xs.length := by omega
      go_wp2_with fail
      refine Calls.mono (live_calls _) ?_
      rintro en w9 ⟨rfl, hb9⟩
      have HG9 := Lib.hid (HG6.out.step hb9)
      clear hb9
      go_wp2_with fail
      go_ret
      exact ⟨rfl, HG9.out.2.2⟩


theorem ListRooms_calls (t g : Int) (A : Option Addr) (c : Nat) (xs : List S26) (w : World) (hC : Kd.C k26 w A xs.length xs) (hcap : xs.length ≤ c) (hcame : Came xs) :
    Calls Tryz.prog 5 #[.agg #[.slice A xs.length c, .int .i64 t], .int .i64 g] w fun e w' => e = .returned (.bool true) ∧ Below w.heap.size w w' := by
  obtain ⟨b, hb, hit⟩ := items_any A c xs hcame hcap
  cases b with
  | false => exact Rooms_no1 t g A c xs w hC hcap hcame hit
  | true =>
    have hlen := (hb rfl).1
    have hsm : Sm xs := ⟨by omega, fun x hx => by have := (hb rfl).2 x hx; exact ⟨by omega, by omega⟩⟩
    cases hck : checkB xs t with
    | false => exact Rooms_no2 t g A c xs w hC hcap hcame hit hsm (by rw [hck]; rfl)
    | true =>
      obtain ⟨h100, _, _, hgood⟩ := (check_iff xs t).mp hck
      exact Rooms_main t g A c xs w hC hcap hcame hit hsm hlen (by rw [hck]; rfl) hgood _ _ rfl rfl (rooms_ok g hgood)

end Go.Proofs.YtdfppdkhiejbdaaGreatDoor.Li
end

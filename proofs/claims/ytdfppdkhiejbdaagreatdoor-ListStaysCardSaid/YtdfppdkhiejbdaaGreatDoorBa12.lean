import Derived.Test.YtdfppdkhiejbdaaGreatDoorBa10
import Derived.Test.YtdfppdkhiejbdaaGreatDoorBa11
section
/- Package list: lacks. -/
set_option linter.unusedVariables false
set_option linter.unusedSimpArgs false
namespace Go.Proofs.YtdfppdkhiejbdaaGreatDoor.Li
open Go.RowKit Go.Proofs.YtdfppdkhiejbdaaGreatDoor.PList Go.Proofs.YtdfppdkhiejbdaaGreatDoorW.PrintWords

/-- A buddy in the group of was. -/
def fullB (was y : S26) : Bool := !isG y && y.f1 == was.f1

set_option maxHeartbeats 1000000 in
theorem full1_calls (x was : S26) (kb0 : Nat) (w : World) (hc : w.cell? ⟨kb0, 1, none⟩ = some (.int .i64 was.f1)) :
    Calls Tryz.prog 46 #[iv x, .pointer (some ⟨kb0, 0, none⟩)] w fun e w' => e = .returned (.bool (fullB was x)) ∧ Below w.heap.size w w' := by
  have hk : kb0 < w.heap.size := World.block_lt_of_cell? w _ hc
  have HB0 := Lib.hid (bel1 w (ib x))
  have HI := Lib.hid (isG_calls x (w.alloc (ib x)))
  have HC := Lib.hid hc
  clear hc
  unfold fullB
  generalize isG x = b at *
  cases b
  all_goals
    go_enter Tryz.func46, Tryz.ntmps46
    go_wp2_with fail
    refine Calls.mono HI.out ?_
    rintro en w1 ⟨rfl, hb1⟩
    obtain ⟨z0, z1, z2, z3, z4, z5, f0, f1, f2, f3, f4, f5⟩ := cells6 (blk_below (blk_new w _) hb1)
    have hb2 := up HB0.out hb1
    have hg : w1.cell? ⟨kb0, 1, none⟩ = some (.int .i64 was.f1) := (hb2.cell (p := ⟨kb0, 1, none⟩) hk).trans HC.out
    have HB2 := Lib.hid hb2
    clear hb1 hb2
    go_wp2_with fail
    go_ret
    exact ⟨by simp, HB2.out⟩

def lacksR (xs : List S26) (k : Int) (x was : S26) (there : Bool) : Int :=
  if (k ≠ 20 ∧ there = false) then 2 else if (k = 20 ∧ there = true) then 3 else if (k = 21 ∧ was.f3 ≠ x.f3) then 10 else if (k = 20 ∧ 100 ≤ xs.length) then 12
  else if (k = 22 ∧ isG was = true ∧ xs.any (fullB was) = true) then 10 else 0
/-- Why a change may not be done, as far as the item's place goes. -/
def lacksB (xs : List S26) (k : Int) (x was : S26) (there : Bool) : Int :=
  if k = 20 ∨ k = 21 then (if itemB x = true ∧ fitsB xs x = true then lacksR xs k x was there else 10) else if k = 22 then lacksR xs k x was there else 10

/-- What holds in lacks, whatever is called. -/
def Gl (w : World) (o0 : Obj) (x was : S26) (W : World) : Prop := W.heap[w.heap.size]? = some o0 ∧ W.heap[w.heap.size + 1]? = some (ib x) ∧ W.heap[w.heap.size + 2]? = some (ib was) ∧ Below w.heap.size w W
theorem Gl.step {w : World} {o0 : Obj} {x was : S26} {W W' : World} (h : Gl w o0 x was W) (hb : Below W.heap.size W W') : Gl w o0 x was W' :=
  ⟨blk_below h.1 hb, blk_below h.2.1 hb, blk_below h.2.2.1 hb, up h.2.2.2 hb⟩
theorem may_l {w : World} {o0 : Obj} {x was : S26} (h0 : x.f0.size ≤ 17592186044416) (h4 : x.f4.size ≤ 17592186044416) (W : World) (h : Gl w o0 x was W) :
    Calls Tryz.prog 18 #[iv x] W fun e w' => e = .returned (.bool (itemB x)) ∧ Gl w o0 x was w' :=
  Calls.mono (may_calls x W h0 h4) fun e w' ⟨he, hb⟩ => ⟨he, h.step hb⟩
theorem fits_l {w : World} {o0 : Obj} {x was : S26} {A : Option Addr} {c : Nat} {xs : List S26} (hC : Kd.C k26 w A xs.length xs) (hs : Sm xs) (W : World) (h : Gl w o0 x was W) :
    Calls Tryz.prog 19 #[.slice A xs.length c, iv x] W fun e w' => e = .returned (.bool (fitsB xs x)) ∧ Gl w o0 x was w' :=
  Calls.mono (fits_calls x A c xs W (Kd.C_below hC h.2.2.2) hs) fun e w' ⟨he, hb⟩ => ⟨he, h.step hb⟩
theorem isG_l {w : World} {o0 : Obj} {x was : S26} (W : World) (h : Gl w o0 x was W) :
    Calls Tryz.prog 32 #[iv was] W fun e w' => e = .returned (.bool (isG was)) ∧ Gl w o0 x was w' :=
  Calls.mono (isG_calls was W) fun e w' ⟨he, hb⟩ => ⟨he, h.step hb⟩
theorem any_l {w : World} {o0 : Obj} {x was : S26} {A : Option Addr} {c : Nat} {xs : List S26} (hC : Kd.C k26 w A xs.length xs) (hs : Sm xs) (W : World) (h : Gl w o0 x was W) :
    Calls Tryz.prog 30 #[.slice A xs.length c, .func (.func 46) #[] #[.pointer (some ⟨w.heap.size + 2, 0, none⟩)]] W fun e w' => e = .returned (.bool (xs.any (fullB was))) ∧ Gl w o0 x was w' := by
  refine Calls.mono (Contains1_calls 46 (w.heap.size + 2) (fullB was) (enters_of Tryz.func46 (by kernel_rfl) rfl) A c xs W (Kd.C_below hC h.2.2.2) hs.1 ?_) fun e w' ⟨he, hb⟩ => ⟨he, h.step hb⟩
  intro W' y _ hb
  exact full1_calls y was (w.heap.size + 2) W' (blk_cell (blk_below h.2.2.1 hb) 1)

set_option maxHeartbeats 1000000 in
set_option maxRecDepth 100000 in
theorem lacks_20_may (t : Int) (A : Option Addr) (c : Nat) (xs : List S26) (k : Int) (x was : S26) (there : Bool) (w : World) (hC : Kd.C k26 w A xs.length xs) (hs : Sm xs) (h0 : x.f0.size ≤ 17592186044416) (h4 : x.f4.size ≤ 17592186044416) (hk : k = 20) (hm : itemB x = false) :
    Calls Tryz.prog 26 #[.agg #[.slice A xs.length c, .int .i64 t], .int .i64 k, iv x, iv was, .bool there] w fun e w' => e = .returned (.int .i64 (10)) ∧ Below w.heap.size w w' := by
  subst hk
  obtain ⟨V, hV⟩ : ∃ V, ((w.alloc (.cells #[.slice A xs.length c, .int .i64 t] 24)).alloc (ib x)).alloc (ib was) = V := ⟨_, rfl⟩
  have hG : Gl w (.cells #[.slice A xs.length c, .int .i64 t] 24) x was V := by
    rw [← hV]
    refine ⟨blk_alloc (blk_alloc (blk_new _ _) _) _, ?_, ?_, up (up (bel1 _ _) (bel1 _ _)) (bel1 _ _)⟩
    · rw [← World.size_alloc w (.cells #[.slice A xs.length c, .int .i64 t] 24)]; exact blk_alloc (blk_new _ _) _
    · have := blk_new ((w.alloc (.cells #[.slice A xs.length c, .int .i64 t] 24)).alloc (ib x)) (ib was)
      rwa [World.size_alloc, World.size_alloc] at this
  have HV := Lib.hid hV
  have HG := Lib.hid hG
  have HC := Lib.hid hC
  have HS := Lib.hid hs
  have hl := hs.1
  obtain ⟨a0, a1, -⟩ := cells2 hG.1
  obtain ⟨b0, b1, b2, b3, b4, b5, _, _, _, _, _, _⟩ := cells6 hG.2.1
  obtain ⟨c0, c1, c2, c3, c4, c5, _, _, _, _, _, _⟩ := cells6 hG.2.2.1
  clear hV hG hC hs
  have HMX := Lib.hid hm
  clear hm
  go_enter Tryz.func26, Tryz.ntmps26
  go_wp2_with fail
  rw [HV.out]
  have HCALL1 := Lib.hid (may_l h0 h4 _ HG.out)
  rw [HMX.out] at HCALL1
  refine Calls.mono HCALL1.out ?_
  rintro en w1 ⟨rfl, hg1⟩
  have HG1 := Lib.hid hg1
  obtain ⟨a0, a1, -⟩ := cells2 hg1.1
  obtain ⟨b0, b1, b2, b3, b4, b5, _, _, _, _, _, _⟩ := cells6 hg1.2.1
  obtain ⟨c0, c1, c2, c3, c4, c5, _, _, _, _, _, _⟩ := cells6 hg1.2.2.1
  clear hg1 HCALL1
  go_wp2_with fail
  go_ret
  exact ⟨rfl, HG1.out.2.2.2⟩

set_option maxHeartbeats 1000000 in
set_option maxRecDepth 100000 in
theorem lacks_20_fits (t : Int) (A : Option Addr) (c : Nat) (xs : List S26) (k : Int) (x was : S26) (there : Bool) (w : World) (hC : Kd.C k26 w A xs.length xs) (hs : Sm xs) (h0 : x.f0.size ≤ 17592186044416) (h4 : x.f4.size ≤ 17592186044416) (hk : k = 20) (hm : itemB x = true) (hf : fitsB xs x = false) :
    Calls Tryz.prog 26 #[.agg #[.slice A xs.length c, .int .i64 t], .int .i64 k, iv x, iv was, .bool there] w fun e w' => e = .returned (.int .i64 (10)) ∧ Below w.heap.size w w' := by
  subst hk
  obtain ⟨V, hV⟩ : ∃ V, ((w.alloc (.cells #[.slice A xs.length c, .int .i64 t] 24)).alloc (ib x)).alloc (ib was) = V := ⟨_, rfl⟩
  have hG : Gl w (.cells #[.slice A xs.length c, .int .i64 t] 24) x was V := by
    rw [← hV]
    refine ⟨blk_alloc (blk_alloc (blk_new _ _) _) _, ?_, ?_, up (up (bel1 _ _) (bel1 _ _)) (bel1 _ _)⟩
    · rw [← World.size_alloc w (.cells #[.slice A xs.length c, .int .i64 t] 24)]; exact blk_alloc (blk_new _ _) _
    · have := blk_new ((w.alloc (.cells #[.slice A xs.length c, .int .i64 t] 24)).alloc (ib x)) (ib was)
      rwa [World.size_alloc, World.size_alloc] at this
  have HV := Lib.hid hV
  have HG := Lib.hid hG
  have HC := Lib.hid hC
  have HS := Lib.hid hs
  have hl := hs.1
  obtain ⟨a0, a1, -⟩ := cells2 hG.1
  obtain ⟨b0, b1, b2, b3, b4, b5, _, _, _, _, _, _⟩ := cells6 hG.2.1
  obtain ⟨c0, c1, c2, c3, c4, c5, _, _, _, _, _, _⟩ := cells6 hG.2.2.1
  clear hV hG hC hs
  have HMX := Lib.hid hm
  clear hm
  have HFX := Lib.hid hf
  clear hf
  go_enter Tryz.func26, Tryz.ntmps26
  go_wp2_with fail
  rw [HV.out]
  have HCALL1 := Lib.hid (may_l h0 h4 _ HG.out)
  rw [HMX.out] at HCALL1
  refine Calls.mono HCALL1.out ?_
  rintro en w1 ⟨rfl, hg1⟩
  have HG1 := Lib.hid hg1
  obtain ⟨a0, a1, -⟩ := cells2 hg1.1
  obtain ⟨b0, b1, b2, b3, b4, b5, _, _, _, _, _, _⟩ := cells6 hg1.2.1
  obtain ⟨c0, c1, c2, c3, c4, c5, _, _, _, _, _, _⟩ := cells6 hg1.2.2.1
  clear hg1 HCALL1
  go_wp2_with fail
  have HCALL2 := Lib.hid (fits_l (c := c) HC.out HS.out _ HG1.out)
  rw [HFX.out] at HCALL2
  refine Calls.mono HCALL2.out ?_
  rintro en w2 ⟨rfl, hg2⟩
  have HG2 := Lib.hid hg2
  obtain ⟨a0, a1, -⟩ := cells2 hg2.1
  obtain ⟨b0, b1, b2, b3, b4, b5, _, _, _, _, _, _⟩ := cells6 hg2.2.1
  obtain ⟨c0, c1, c2, c3, c4, c5, _, _, _, _, _, _⟩ := cells6 hg2.2.2.1
  clear hg2 HCALL2
  go_wp2_with fail
  go_ret
  exact ⟨rfl, HG2.out.2.2.2⟩

set_option maxHeartbeats 1000000 in
set_option maxRecDepth 100000 in
theorem lacks_21_may (t : Int) (A : Option Addr) (c : Nat) (xs : List S26) (k : Int) (x was : S26) (there : Bool) (w : World) (hC : Kd.C k26 w A xs.length xs) (hs : Sm xs) (h0 : x.f0.size ≤ 17592186044416) (h4 : x.f4.size ≤ 17592186044416) (hk : k = 21) (hm : itemB x = false) :
    Calls Tryz.prog 26 #[.agg #[.slice A xs.length c, .int .i64 t], .int .i64 k, iv x, iv was, .bool there] w fun e w' => e = .returned (.int .i64 (10)) ∧ Below w.heap.size w w' := by
  subst hk
  obtain ⟨V, hV⟩ : ∃ V, ((w.alloc (.cells #[.slice A xs.length c, .int .i64 t] 24)).alloc (ib x)).alloc (ib was) = V := ⟨_, rfl⟩
  have hG : Gl w (.cells #[.slice A xs.length c, .int .i64 t] 24) x was V := by
    rw [← hV]
    refine ⟨blk_alloc (blk_alloc (blk_new _ _) _) _, ?_, ?_, up (up (bel1 _ _) (bel1 _ _)) (bel1 _ _)⟩
    · rw [← World.size_alloc w (.cells #[.slice A xs.length c, .int .i64 t] 24)]; exact blk_alloc (blk_new _ _) _
    · have := blk_new ((w.alloc (.cells #[.slice A xs.length c, .int .i64 t] 24)).alloc (ib x)) (ib was)
      rwa [World.size_alloc, World.size_alloc] at this
  have HV := Lib.hid hV
  have HG := Lib.hid hG
  have HC := Lib.hid hC
  have HS := Lib.hid hs
  have hl := hs.1
  obtain ⟨a0, a1, -⟩ := cells2 hG.1
  obtain ⟨b0, b1, b2, b3, b4, b5, _, _, _, _, _, _⟩ := cells6 hG.2.1
  obtain ⟨c0, c1, c2, c3, c4, c5, _, _, _, _, _, _⟩ := cells6 hG.2.2.1
  clear hV hG hC hs
  have HMX := Lib.hid hm
  clear hm
  go_enter Tryz.func26, Tryz.ntmps26
  go_wp2_with fail
  rw [HV.out]
  have HCALL1 := Lib.hid (may_l h0 h4 _ HG.out)
  rw [HMX.out] at HCALL1
  refine Calls.mono HCALL1.out ?_
  rintro en w1 ⟨rfl, hg1⟩
  have HG1 := Lib.hid hg1
  obtain ⟨a0, a1, -⟩ := cells2 hg1.1
  obtain ⟨b0, b1, b2, b3, b4, b5, _, _, _, _, _, _⟩ := cells6 hg1.2.1
  obtain ⟨c0, c1, c2, c3, c4, c5, _, _, _, _, _, _⟩ := cells6 hg1.2.2.1
  clear hg1 HCALL1
  go_wp2_with fail
  go_ret
  exact ⟨rfl, HG1.out.2.2.2⟩

set_option maxHeartbeats 1000000 in
set_option maxRecDepth 100000 in
theorem lacks_21_fits (t : Int) (A : Option Addr) (c : Nat) (xs : List S26) (k : Int) (x was : S26) (there : Bool) (w : World) (hC : Kd.C k26 w A xs.length xs) (hs : Sm xs) (h0 : x.f0.size ≤ 17592186044416) (h4 : x.f4.size ≤ 17592186044416) (hk : k = 21) (hm : itemB x = true) (hf : fitsB xs x = false) :
    Calls Tryz.prog 26 #[.agg #[.slice A xs.length c, .int .i64 t], .int .i64 k, iv x, iv was, .bool there] w fun e w' => e = .returned (.int .i64 (10)) ∧ Below w.heap.size w w' := by
  subst hk
  obtain ⟨V, hV⟩ : ∃ V, ((w.alloc (.cells #[.slice A xs.length c, .int .i64 t] 24)).alloc (ib x)).alloc (ib was) = V := ⟨_, rfl⟩
  have hG : Gl w (.cells #[.slice A xs.length c, .int .i64 t] 24) x was V := by
    rw [← hV]
    refine ⟨blk_alloc (blk_alloc (blk_new _ _) _) _, ?_, ?_, up (up (bel1 _ _) (bel1 _ _)) (bel1 _ _)⟩
    · rw [← World.size_alloc w (.cells #[.slice A xs.length c, .int .i64 t] 24)]; exact blk_alloc (blk_new _ _) _
    · have := blk_new ((w.alloc (.cells #[.slice A xs.length c, .int .i64 t] 24)).alloc (ib x)) (ib was)
      rwa [World.size_alloc, World.size_alloc] at this
  have HV := Lib.hid hV
  have HG := Lib.hid hG
  have HC := Lib.hid hC
  have HS := Lib.hid hs
  have hl := hs.1
  obtain ⟨a0, a1, -⟩ := cells2 hG.1
  obtain ⟨b0, b1, b2, b3, b4, b5, _, _, _, _, _, _⟩ := cells6 hG.2.1
  obtain ⟨c0, c1, c2, c3, c4, c5, _, _, _, _, _, _⟩ := cells6 hG.2.2.1
  clear hV hG hC hs
  have HMX := Lib.hid hm
  clear hm
  have HFX := Lib.hid hf
  clear hf
  go_enter Tryz.func26, Tryz.ntmps26
  go_wp2_with fail
  rw [HV.out]
  have HCALL1 := Lib.hid (may_l h0 h4 _ HG.out)
  rw [HMX.out] at HCALL1
  refine Calls.mono HCALL1.out ?_
  rintro en w1 ⟨rfl, hg1⟩
  have HG1 := Lib.hid hg1
  obtain ⟨a0, a1, -⟩ := cells2 hg1.1
  obtain ⟨b0, b1, b2, b3, b4, b5, _, _, _, _, _, _⟩ := cells6 hg1.2.1
  obtain ⟨c0, c1, c2, c3, c4, c5, _, _, _, _, _, _⟩ := cells6 hg1.2.2.1
  clear hg1 HCALL1
  go_wp2_with fail
  have HCALL2 := Lib.hid (fits_l (c := c) HC.out HS.out _ HG1.out)
  rw [HFX.out] at HCALL2
  refine Calls.mono HCALL2.out ?_
  rintro en w2 ⟨rfl, hg2⟩
  have HG2 := Lib.hid hg2
  obtain ⟨a0, a1, -⟩ := cells2 hg2.1
  obtain ⟨b0, b1, b2, b3, b4, b5, _, _, _, _, _, _⟩ := cells6 hg2.2.1
  obtain ⟨c0, c1, c2, c3, c4, c5, _, _, _, _, _, _⟩ := cells6 hg2.2.2.1
  clear hg2 HCALL2
  go_wp2_with fail
  go_ret
  exact ⟨rfl, HG2.out.2.2.2⟩

set_option maxHeartbeats 1000000 in
set_option maxRecDepth 100000 in
theorem lacks_20_there (t : Int) (A : Option Addr) (c : Nat) (xs : List S26) (k : Int) (x was : S26) (there : Bool) (w : World) (hC : Kd.C k26 w A xs.length xs) (hs : Sm xs) (h0 : x.f0.size ≤ 17592186044416) (h4 : x.f4.size ≤ 17592186044416) (hk : k = 20) (hm : itemB x = true) (hf : fitsB xs x = true) (ht : there = true) :
    Calls Tryz.prog 26 #[.agg #[.slice A xs.length c, .int .i64 t], .int .i64 k, iv x, iv was, .bool there] w fun e w' => e = .returned (.int .i64 (3)) ∧ Below w.heap.size w w' := by
  subst hk
  obtain ⟨V, hV⟩ : ∃ V, ((w.alloc (.cells #[.slice A xs.length c, .int .i64 t] 24)).alloc (ib x)).alloc (ib was) = V := ⟨_, rfl⟩
  have hG : Gl w (.cells #[.slice A xs.length c, .int .i64 t] 24) x was V := by
    rw [← hV]
    refine ⟨blk_alloc (blk_alloc (blk_new _ _) _) _, ?_, ?_, up (up (bel1 _ _) (bel1 _ _)) (bel1 _ _)⟩
    · rw [← World.size_alloc w (.cells #[.slice A xs.length c, .int .i64 t] 24)]; exact blk_alloc (blk_new _ _) _
    · have := blk_new ((w.alloc (.cells #[.slice A xs.length c, .int .i64 t] 24)).alloc (ib x)) (ib was)
      rwa [World.size_alloc, World.size_alloc] at this
  have HV := Lib.hid hV
  have HG := Lib.hid hG
  have HC := Lib.hid hC
  have HS := Lib.hid hs
  have hl := hs.1
  obtain ⟨a0, a1, -⟩ := cells2 hG.1
  obtain ⟨b0, b1, b2, b3, b4, b5, _, _, _, _, _, _⟩ := cells6 hG.2.1
  obtain ⟨c0, c1, c2, c3, c4, c5, _, _, _, _, _, _⟩ := cells6 hG.2.2.1
  clear hV hG hC hs
  subst ht
  have HMX := Lib.hid hm
  clear hm
  have HFX := Lib.hid hf
  clear hf
  go_enter Tryz.func26, Tryz.ntmps26
  go_wp2_with fail
  rw [HV.out]
  have HCALL1 := Lib.hid (may_l h0 h4 _ HG.out)
  rw [HMX.out] at HCALL1
  refine Calls.mono HCALL1.out ?_
  rintro en w1 ⟨rfl, hg1⟩
  have HG1 := Lib.hid hg1
  obtain ⟨a0, a1, -⟩ := cells2 hg1.1
  obtain ⟨b0, b1, b2, b3, b4, b5, _, _, _, _, _, _⟩ := cells6 hg1.2.1
  obtain ⟨c0, c1, c2, c3, c4, c5, _, _, _, _, _, _⟩ := cells6 hg1.2.2.1
  clear hg1 HCALL1
  go_wp2_with fail
  have HCALL2 := Lib.hid (fits_l (c := c) HC.out HS.out _ HG1.out)
  rw [HFX.out] at HCALL2
  refine Calls.mono HCALL2.out ?_
  rintro en w2 ⟨rfl, hg2⟩
  have HG2 := Lib.hid hg2
  obtain ⟨a0, a1, -⟩ := cells2 hg2.1
  obtain ⟨b0, b1, b2, b3, b4, b5, _, _, _, _, _, _⟩ := cells6 hg2.2.1
  obtain ⟨c0, c1, c2, c3, c4, c5, _, _, _, _, _, _⟩ := cells6 hg2.2.2.1
  clear hg2 HCALL2
  go_wp2_with fail
  go_ret
  exact ⟨rfl, HG2.out.2.2.2⟩

set_option maxHeartbeats 1000000 in
set_option maxRecDepth 100000 in
theorem lacks_20_many (t : Int) (A : Option Addr) (c : Nat) (xs : List S26) (k : Int) (x was : S26) (there : Bool) (w : World) (hC : Kd.C k26 w A xs.length xs) (hs : Sm xs) (h0 : x.f0.size ≤ 17592186044416) (h4 : x.f4.size ≤ 17592186044416) (hk : k = 20) (hm : itemB x = true) (hf : fitsB xs x = true) (ht : there = false) (hn : (100 : Int) ≤ (xs.length : Int)) :
    Calls Tryz.prog 26 #[.agg #[.slice A xs.length c, .int .i64 t], .int .i64 k, iv x, iv was, .bool there] w fun e w' => e = .returned (.int .i64 (12)) ∧ Below w.heap.size w w' := by
  subst hk
  obtain ⟨V, hV⟩ : ∃ V, ((w.alloc (.cells #[.slice A xs.length c, .int .i64 t] 24)).alloc (ib x)).alloc (ib was) = V := ⟨_, rfl⟩
  have hG : Gl w (.cells #[.slice A xs.length c, .int .i64 t] 24) x was V := by
    rw [← hV]
    refine ⟨blk_alloc (blk_alloc (blk_new _ _) _) _, ?_, ?_, up (up (bel1 _ _) (bel1 _ _)) (bel1 _ _)⟩
    · rw [← World.size_alloc w (.cells #[.slice A xs.length c, .int .i64 t] 24)]; exact blk_alloc (blk_new _ _) _
    · have := blk_new ((w.alloc (.cells #[.slice A xs.length c, .int .i64 t] 24)).alloc (ib x)) (ib was)
      rwa [World.size_alloc, World.size_alloc] at this
  have HV := Lib.hid hV
  have HG := Lib.hid hG
  have HC := Lib.hid hC
  have HS := Lib.hid hs
  have hl := hs.1
  obtain ⟨a0, a1, -⟩ := cells2 hG.1
  obtain ⟨b0, b1, b2, b3, b4, b5, _, _, _, _, _, _⟩ := cells6 hG.2.1
  obtain ⟨c0, c1, c2, c3, c4, c5, _, _, _, _, _, _⟩ := cells6 hG.2.2.1
  clear hV hG hC hs
  subst ht
  have HMX := Lib.hid hm
  clear hm
  have HFX := Lib.hid hf
  clear hf
  go_enter Tryz.func26, Tryz.ntmps26
  go_wp2_with fail
  rw [HV.out]
  have HCALL1 := Lib.hid (may_l h0 h4 _ HG.out)
  rw [HMX.out] at HCALL1
  refine Calls.mono HCALL1.out ?_
  rintro en w1 ⟨rfl, hg1⟩
  have HG1 := Lib.hid hg1
  obtain ⟨a0, a1, -⟩ := cells2 hg1.1
  obtain ⟨b0, b1, b2, b3, b4, b5, _, _, _, _, _, _⟩ := cells6 hg1.2.1
  obtain ⟨c0, c1, c2, c3, c4, c5, _, _, _, _, _, _⟩ := cells6 hg1.2.2.1
  clear hg1 HCALL1
  go_wp2_with fail
  have HCALL2 := Lib.hid (fits_l (c := c) HC.out HS.out _ HG1.out)
  rw [HFX.out] at HCALL2
  refine Calls.mono HCALL2.out ?_
  rintro en w2 ⟨rfl, hg2⟩
  have HG2 := Lib.hid hg2
  obtain ⟨a0, a1, -⟩ := cells2 hg2.1
  obtain ⟨b0, b1, b2, b3, b4, b5, _, _, _, _, _, _⟩ := cells6 hg2.2.1
  obtain ⟨c0, c1, c2, c3, c4, c5, _, _, _, _, _, _⟩ := cells6 hg2.2.2.1
  clear hg2 HCALL2
  go_wp2_with fail
  go_ret
  exact ⟨rfl, HG2.out.2.2.2⟩

set_option maxHeartbeats 1000000 in
set_option maxRecDepth 100000 in
theorem lacks_20_ok (t : Int) (A : Option Addr) (c : Nat) (xs : List S26) (k : Int) (x was : S26) (there : Bool) (w : World) (hC : Kd.C k26 w A xs.length xs) (hs : Sm xs) (h0 : x.f0.size ≤ 17592186044416) (h4 : x.f4.size ≤ 17592186044416) (hk : k = 20) (hm : itemB x = true) (hf : fitsB xs x = true) (ht : there = false) (hn : (xs.length : Int) < 100) :
    Calls Tryz.prog 26 #[.agg #[.slice A xs.length c, .int .i64 t], .int .i64 k, iv x, iv was, .bool there] w fun e w' => e = .returned (.int .i64 (0)) ∧ Below w.heap.size w w' := by
  subst hk
  obtain ⟨V, hV⟩ : ∃ V, ((w.alloc (.cells #[.slice A xs.length c, .int .i64 t] 24)).alloc (ib x)).alloc (ib was) = V := ⟨_, rfl⟩
  have hG : Gl w (.cells #[.slice A xs.length c, .int .i64 t] 24) x was V := by
    rw [← hV]
    refine ⟨blk_alloc (blk_alloc (blk_new _ _) _) _, ?_, ?_, up (up (bel1 _ _) (bel1 _ _)) (bel1 _ _)⟩
    · rw [← World.size_alloc w (.cells #[.slice A xs.length c, .int .i64 t] 24)]; exact blk_alloc (blk_new _ _) _
    · have := blk_new ((w.alloc (.cells #[.slice A xs.length c, .int .i64 t] 24)).alloc (ib x)) (ib was)
      rwa [World.size_alloc, World.size_alloc] at this
  have HV := Lib.hid hV
  have HG := Lib.hid hG
  have HC := Lib.hid hC
  have HS := Lib.hid hs
  have hl := hs.1
  obtain ⟨a0, a1, -⟩ := cells2 hG.1
  obtain ⟨b0, b1, b2, b3, b4, b5, _, _, _, _, _, _⟩ := cells6 hG.2.1
  obtain ⟨c0, c1, c2, c3, c4, c5, _, _, _, _, _, _⟩ := cells6 hG.2.2.1
  clear hV hG hC hs
  subst ht
  have HMX := Lib.hid hm
  clear hm
  have HFX := Lib.hid hf
  clear hf
  go_enter Tryz.func26, Tryz.ntmps26
  go_wp2_with fail
  rw [HV.out]
  have HCALL1 := Lib.hid (may_l h0 h4 _ HG.out)
  rw [HMX.out] at HCALL1
  refine Calls.mono HCALL1.out ?_
  rintro en w1 ⟨rfl, hg1⟩
  have HG1 := Lib.hid hg1
  obtain ⟨a0, a1, -⟩ := cells2 hg1.1
  obtain ⟨b0, b1, b2, b3, b4, b5, _, _, _, _, _, _⟩ := cells6 hg1.2.1
  obtain ⟨c0, c1, c2, c3, c4, c5, _, _, _, _, _, _⟩ := cells6 hg1.2.2.1
  clear hg1 HCALL1
  go_wp2_with fail
  have HCALL2 := Lib.hid (fits_l (c := c) HC.out HS.out _ HG1.out)
  rw [HFX.out] at HCALL2
  refine Calls.mono HCALL2.out ?_
  rintro en w2 ⟨rfl, hg2⟩
  have HG2 := Lib.hid hg2
  obtain ⟨a0, a1, -⟩ := cells2 hg2.1
  obtain ⟨b0, b1, b2, b3, b4, b5, _, _, _, _, _, _⟩ := cells6 hg2.2.1
  obtain ⟨c0, c1, c2, c3, c4, c5, _, _, _, _, _, _⟩ := cells6 hg2.2.2.1
  clear hg2 HCALL2
  go_wp2_with fail
  go_ret
  exact ⟨rfl, HG2.out.2.2.2⟩

set_option maxHeartbeats 1000000 in
set_option maxRecDepth 100000 in
theorem lacks_21_none (t : Int) (A : Option Addr) (c : Nat) (xs : List S26) (k : Int) (x was : S26) (there : Bool) (w : World) (hC : Kd.C k26 w A xs.length xs) (hs : Sm xs) (h0 : x.f0.size ≤ 17592186044416) (h4 : x.f4.size ≤ 17592186044416) (hk : k = 21) (hm : itemB x = true) (hf : fitsB xs x = true) (ht : there = false) :
    Calls Tryz.prog 26 #[.agg #[.slice A xs.length c, .int .i64 t], .int .i64 k, iv x, iv was, .bool there] w fun e w' => e = .returned (.int .i64 (2)) ∧ Below w.heap.size w w' := by
  subst hk
  obtain ⟨V, hV⟩ : ∃ V, ((w.alloc (.cells #[.slice A xs.length c, .int .i64 t] 24)).alloc (ib x)).alloc (ib was) = V := ⟨_, rfl⟩
  have hG : Gl w (.cells #[.slice A xs.length c, .int .i64 t] 24) x was V := by
    rw [← hV]
    refine ⟨blk_alloc (blk_alloc (blk_new _ _) _) _, ?_, ?_, up (up (bel1 _ _) (bel1 _ _)) (bel1 _ _)⟩
    · rw [← World.size_alloc w (.cells #[.slice A xs.length c, .int .i64 t] 24)]; exact blk_alloc (blk_new _ _) _
    · have := blk_new ((w.alloc (.cells #[.slice A xs.length c, .int .i64 t] 24)).alloc (ib x)) (ib was)
      rwa [World.size_alloc, World.size_alloc] at this
  have HV := Lib.hid hV
  have HG := Lib.hid hG
  have HC := Lib.hid hC
  have HS := Lib.hid hs
  have hl := hs.1
  obtain ⟨a0, a1, -⟩ := cells2 hG.1
  obtain ⟨b0, b1, b2, b3, b4, b5, _, _, _, _, _, _⟩ := cells6 hG.2.1
  obtain ⟨c0, c1, c2, c3, c4, c5, _, _, _, _, _, _⟩ := cells6 hG.2.2.1
  clear hV hG hC hs
  subst ht
  have HMX := Lib.hid hm
  clear hm
  have HFX := Lib.hid hf
  clear hf
  go_enter Tryz.func26, Tryz.ntmps26
  go_wp2_with fail
  rw [HV.out]
  have HCALL1 := Lib.hid (may_l h0 h4 _ HG.out)
  rw [HMX.out] at HCALL1
  refine Calls.mono HCALL1.out ?_
  rintro en w1 ⟨rfl, hg1⟩
  have HG1 := Lib.hid hg1
  obtain ⟨a0, a1, -⟩ := cells2 hg1.1
  obtain ⟨b0, b1, b2, b3, b4, b5, _, _, _, _, _, _⟩ := cells6 hg1.2.1
  obtain ⟨c0, c1, c2, c3, c4, c5, _, _, _, _, _, _⟩ := cells6 hg1.2.2.1
  clear hg1 HCALL1
  go_wp2_with fail
  have HCALL2 := Lib.hid (fits_l (c := c) HC.out HS.out _ HG1.out)
  rw [HFX.out] at HCALL2
  refine Calls.mono HCALL2.out ?_
  rintro en w2 ⟨rfl, hg2⟩
  have HG2 := Lib.hid hg2
  obtain ⟨a0, a1, -⟩ := cells2 hg2.1
  obtain ⟨b0, b1, b2, b3, b4, b5, _, _, _, _, _, _⟩ := cells6 hg2.2.1
  obtain ⟨c0, c1, c2, c3, c4, c5, _, _, _, _, _, _⟩ := cells6 hg2.2.2.1
  clear hg2 HCALL2
  go_wp2_with fail
  go_ret
  exact ⟨rfl, HG2.out.2.2.2⟩

set_option maxHeartbeats 1000000 in
set_option maxRecDepth 100000 in
theorem lacks_21_type (t : Int) (A : Option Addr) (c : Nat) (xs : List S26) (k : Int) (x was : S26) (there : Bool) (w : World) (hC : Kd.C k26 w A xs.length xs) (hs : Sm xs) (h0 : x.f0.size ≤ 17592186044416) (h4 : x.f4.size ≤ 17592186044416) (hk : k = 21) (hm : itemB x = true) (hf : fitsB xs x = true) (ht : there = true) (hd : (was.f3 == x.f3) = false) (hd2 : (was.f3 != x.f3) = true) :
    Calls Tryz.prog 26 #[.agg #[.slice A xs.length c, .int .i64 t], .int .i64 k, iv x, iv was, .bool there] w fun e w' => e = .returned (.int .i64 (10)) ∧ Below w.heap.size w w' := by
  subst hk
  obtain ⟨V, hV⟩ : ∃ V, ((w.alloc (.cells #[.slice A xs.length c, .int .i64 t] 24)).alloc (ib x)).alloc (ib was) = V := ⟨_, rfl⟩
  have hG : Gl w (.cells #[.slice A xs.length c, .int .i64 t] 24) x was V := by
    rw [← hV]
    refine ⟨blk_alloc (blk_alloc (blk_new _ _) _) _, ?_, ?_, up (up (bel1 _ _) (bel1 _ _)) (bel1 _ _)⟩
    · rw [← World.size_alloc w (.cells #[.slice A xs.length c, .int .i64 t] 24)]; exact blk_alloc (blk_new _ _) _
    · have := blk_new ((w.alloc (.cells #[.slice A xs.length c, .int .i64 t] 24)).alloc (ib x)) (ib was)
      rwa [World.size_alloc, World.size_alloc] at this
  have HV := Lib.hid hV
  have HG := Lib.hid hG
  have HC := Lib.hid hC
  have HS := Lib.hid hs
  have hl := hs.1
  obtain ⟨a0, a1, -⟩ := cells2 hG.1
  obtain ⟨b0, b1, b2, b3, b4, b5, _, _, _, _, _, _⟩ := cells6 hG.2.1
  obtain ⟨c0, c1, c2, c3, c4, c5, _, _, _, _, _, _⟩ := cells6 hG.2.2.1
  clear hV hG hC hs
  subst ht
  have HMX := Lib.hid hm
  clear hm
  have HFX := Lib.hid hf
  clear hf
  go_enter Tryz.func26, Tryz.ntmps26
  go_wp2_with fail
  rw [HV.out]
  have HCALL1 := Lib.hid (may_l h0 h4 _ HG.out)
  rw [HMX.out] at HCALL1
  refine Calls.mono HCALL1.out ?_
  rintro en w1 ⟨rfl, hg1⟩
  have HG1 := Lib.hid hg1
  obtain ⟨a0, a1, -⟩ := cells2 hg1.1
  obtain ⟨b0, b1, b2, b3, b4, b5, _, _, _, _, _, _⟩ := cells6 hg1.2.1
  obtain ⟨c0, c1, c2, c3, c4, c5, _, _, _, _, _, _⟩ := cells6 hg1.2.2.1
  clear hg1 HCALL1
  go_wp2_with fail
  have HCALL2 := Lib.hid (fits_l (c := c) HC.out HS.out _ HG1.out)
  rw [HFX.out] at HCALL2
  refine Calls.mono HCALL2.out ?_
  rintro en w2 ⟨rfl, hg2⟩
  have HG2 := Lib.hid hg2
  obtain ⟨a0, a1, -⟩ := cells2 hg2.1
  obtain ⟨b0, b1, b2, b3, b4, b5, _, _, _, _, _, _⟩ := cells6 hg2.2.1
  obtain ⟨c0, c1, c2, c3, c4, c5, _, _, _, _, _, _⟩ := cells6 hg2.2.2.1
  clear hg2 HCALL2
  go_wp2_with fail
  go_ret
  exact ⟨rfl, HG2.out.2.2.2⟩

set_option maxHeartbeats 1000000 in
set_option maxRecDepth 100000 in
theorem lacks_21_ok (t : Int) (A : Option Addr) (c : Nat) (xs : List S26) (k : Int) (x was : S26) (there : Bool) (w : World) (hC : Kd.C k26 w A xs.length xs) (hs : Sm xs) (h0 : x.f0.size ≤ 17592186044416) (h4 : x.f4.size ≤ 17592186044416) (hk : k = 21) (hm : itemB x = true) (hf : fitsB xs x = true) (ht : there = true) (hd : (was.f3 == x.f3) = true) (hd2 : (was.f3 != x.f3) = false) :
    Calls Tryz.prog 26 #[.agg #[.slice A xs.length c, .int .i64 t], .int .i64 k, iv x, iv was, .bool there] w fun e w' => e = .returned (.int .i64 (0)) ∧ Below w.heap.size w w' := by
  subst hk
  obtain ⟨V, hV⟩ : ∃ V, ((w.alloc (.cells #[.slice A xs.length c, .int .i64 t] 24)).alloc (ib x)).alloc (ib was) = V := ⟨_, rfl⟩
  have hG : Gl w (.cells #[.slice A xs.length c, .int .i64 t] 24) x was V := by
    rw [← hV]
    refine ⟨blk_alloc (blk_alloc (blk_new _ _) _) _, ?_, ?_, up (up (bel1 _ _) (bel1 _ _)) (bel1 _ _)⟩
    · rw [← World.size_alloc w (.cells #[.slice A xs.length c, .int .i64 t] 24)]; exact blk_alloc (blk_new _ _) _
    · have := blk_new ((w.alloc (.cells #[.slice A xs.length c, .int .i64 t] 24)).alloc (ib x)) (ib was)
      rwa [World.size_alloc, World.size_alloc] at this
  have HV := Lib.hid hV
  have HG := Lib.hid hG
  have HC := Lib.hid hC
  have HS := Lib.hid hs
  have hl := hs.1
  obtain ⟨a0, a1, -⟩ := cells2 hG.1
  obtain ⟨b0, b1, b2, b3, b4, b5, _, _, _, _, _, _⟩ := cells6 hG.2.1
  obtain ⟨c0, c1, c2, c3, c4, c5, _, _, _, _, _, _⟩ := cells6 hG.2.2.1
  clear hV hG hC hs
  subst ht
  have HMX := Lib.hid hm
  clear hm
  have HFX := Lib.hid hf
  clear hf
  go_enter Tryz.func26, Tryz.ntmps26
  go_wp2_with fail
  rw [HV.out]
  have HCALL1 := Lib.hid (may_l h0 h4 _ HG.out)
  rw [HMX.out] at HCALL1
  refine Calls.mono HCALL1.out ?_
  rintro en w1 ⟨rfl, hg1⟩
  have HG1 := Lib.hid hg1
  obtain ⟨a0, a1, -⟩ := cells2 hg1.1
  obtain ⟨b0, b1, b2, b3, b4, b5, _, _, _, _, _, _⟩ := cells6 hg1.2.1
  obtain ⟨c0, c1, c2, c3, c4, c5, _, _, _, _, _, _⟩ := cells6 hg1.2.2.1
  clear hg1 HCALL1
  go_wp2_with fail
  have HCALL2 := Lib.hid (fits_l (c := c) HC.out HS.out _ HG1.out)
  rw [HFX.out] at HCALL2
  refine Calls.mono HCALL2.out ?_
  rintro en w2 ⟨rfl, hg2⟩
  have HG2 := Lib.hid hg2
  obtain ⟨a0, a1, -⟩ := cells2 hg2.1
  obtain ⟨b0, b1, b2, b3, b4, b5, _, _, _, _, _, _⟩ := cells6 hg2.2.1
  obtain ⟨c0, c1, c2, c3, c4, c5, _, _, _, _, _, _⟩ := cells6 hg2.2.2.1
  clear hg2 HCALL2
  go_wp2_with fail
  go_ret
  exact ⟨rfl, HG2.out.2.2.2⟩

set_option maxHeartbeats 1000000 in
set_option maxRecDepth 100000 in
theorem lacks_22_none (t : Int) (A : Option Addr) (c : Nat) (xs : List S26) (k : Int) (x was : S26) (there : Bool) (w : World) (hC : Kd.C k26 w A xs.length xs) (hs : Sm xs) (h0 : x.f0.size ≤ 17592186044416) (h4 : x.f4.size ≤ 17592186044416) (hk : k = 22) (ht : there = false) :
    Calls Tryz.prog 26 #[.agg #[.slice A xs.length c, .int .i64 t], .int .i64 k, iv x, iv was, .bool there] w fun e w' => e = .returned (.int .i64 (2)) ∧ Below w.heap.size w w' := by
  subst hk
  obtain ⟨V, hV⟩ : ∃ V, ((w.alloc (.cells #[.slice A xs.length c, .int .i64 t] 24)).alloc (ib x)).alloc (ib was) = V := ⟨_, rfl⟩
  have hG : Gl w (.cells #[.slice A xs.length c, .int .i64 t] 24) x was V := by
    rw [← hV]
    refine ⟨blk_alloc (blk_alloc (blk_new _ _) _) _, ?_, ?_, up (up (bel1 _ _) (bel1 _ _)) (bel1 _ _)⟩
    · rw [← World.size_alloc w (.cells #[.slice A xs.length c, .int .i64 t] 24)]; exact blk_alloc (blk_new _ _) _
    · have := blk_new ((w.alloc (.cells #[.slice A xs.length c, .int .i64 t] 24)).alloc (ib x)) (ib was)
      rwa [World.size_alloc, World.size_alloc] at this
  have HV := Lib.hid hV
  have HG := Lib.hid hG
  have HC := Lib.hid hC
  have HS := Lib.hid hs
  have hl := hs.1
  obtain ⟨a0, a1, -⟩ := cells2 hG.1
  obtain ⟨b0, b1, b2, b3, b4, b5, _, _, _, _, _, _⟩ := cells6 hG.2.1
  obtain ⟨c0, c1, c2, c3, c4, c5, _, _, _, _, _, _⟩ := cells6 hG.2.2.1
  clear hV hG hC hs
  subst ht
  go_enter Tryz.func26, Tryz.ntmps26
  go_wp2_with fail
  rw [HV.out]
  go_ret
  exact ⟨rfl, HG.out.2.2.2⟩

set_option maxHeartbeats 1000000 in
set_option maxRecDepth 100000 in
theorem lacks_22_bud (t : Int) (A : Option Addr) (c : Nat) (xs : List S26) (k : Int) (x was : S26) (there : Bool) (w : World) (hC : Kd.C k26 w A xs.length xs) (hs : Sm xs) (h0 : x.f0.size ≤ 17592186044416) (h4 : x.f4.size ≤ 17592186044416) (hk : k = 22) (ht : there = true) (hi : isG was = false) :
    Calls Tryz.prog 26 #[.agg #[.slice A xs.length c, .int .i64 t], .int .i64 k, iv x, iv was, .bool there] w fun e w' => e = .returned (.int .i64 (0)) ∧ Below w.heap.size w w' := by
  subst hk
  obtain ⟨V, hV⟩ : ∃ V, ((w.alloc (.cells #[.slice A xs.length c, .int .i64 t] 24)).alloc (ib x)).alloc (ib was) = V := ⟨_, rfl⟩
  have hG : Gl w (.cells #[.slice A xs.length c, .int .i64 t] 24) x was V := by
    rw [← hV]
    refine ⟨blk_alloc (blk_alloc (blk_new _ _) _) _, ?_, ?_, up (up (bel1 _ _) (bel1 _ _)) (bel1 _ _)⟩
    · rw [← World.size_alloc w (.cells #[.slice A xs.length c, .int .i64 t] 24)]; exact blk_alloc (blk_new _ _) _
    · have := blk_new ((w.alloc (.cells #[.slice A xs.length c, .int .i64 t] 24)).alloc (ib x)) (ib was)
      rwa [World.size_alloc, World.size_alloc] at this
  have HV := Lib.hid hV
  have HG := Lib.hid hG
  have HC := Lib.hid hC
  have HS := Lib.hid hs
  have hl := hs.1
  obtain ⟨a0, a1, -⟩ := cells2 hG.1
  obtain ⟨b0, b1, b2, b3, b4, b5, _, _, _, _, _, _⟩ := cells6 hG.2.1
  obtain ⟨c0, c1, c2, c3, c4, c5, _, _, _, _, _, _⟩ := cells6 hG.2.2.1
  clear hV hG hC hs
  subst ht
  have HIX := Lib.hid hi
  clear hi
  go_enter Tryz.func26, Tryz.ntmps26
  go_wp2_with fail
  rw [HV.out]
  have HCALL1 := Lib.hid (isG_l _ HG.out)
  rw [HIX.out] at HCALL1
  refine Calls.mono HCALL1.out ?_
  rintro en w1 ⟨rfl, hg1⟩
  have HG1 := Lib.hid hg1
  obtain ⟨a0, a1, -⟩ := cells2 hg1.1
  obtain ⟨b0, b1, b2, b3, b4, b5, _, _, _, _, _, _⟩ := cells6 hg1.2.1
  obtain ⟨c0, c1, c2, c3, c4, c5, _, _, _, _, _, _⟩ := cells6 hg1.2.2.1
  clear hg1 HCALL1
  go_wp2_with fail
  go_ret
  exact ⟨rfl, HG1.out.2.2.2⟩

set_option maxHeartbeats 1000000 in
set_option maxRecDepth 100000 in
theorem lacks_22_full (t : Int) (A : Option Addr) (c : Nat) (xs : List S26) (k : Int) (x was : S26) (there : Bool) (w : World) (hC : Kd.C k26 w A xs.length xs) (hs : Sm xs) (h0 : x.f0.size ≤ 17592186044416) (h4 : x.f4.size ≤ 17592186044416) (hk : k = 22) (ht : there = true) (hi : isG was = true) (ha : xs.any (fullB was) = true) :
    Calls Tryz.prog 26 #[.agg #[.slice A xs.length c, .int .i64 t], .int .i64 k, iv x, iv was, .bool there] w fun e w' => e = .returned (.int .i64 (10)) ∧ Below w.heap.size w w' := by
  subst hk
  obtain ⟨V, hV⟩ : ∃ V, ((w.alloc (.cells #[.slice A xs.length c, .int .i64 t] 24)).alloc (ib x)).alloc (ib was) = V := ⟨_, rfl⟩
  have hG : Gl w (.cells #[.slice A xs.length c, .int .i64 t] 24) x was V := by
    rw [← hV]
    refine ⟨blk_alloc (blk_alloc (blk_new _ _) _) _, ?_, ?_, up (up (bel1 _ _) (bel1 _ _)) (bel1 _ _)⟩
    · rw [← World.size_alloc w (.cells #[.slice A xs.length c, .int .i64 t] 24)]; exact blk_alloc (blk_new _ _) _
    · have := blk_new ((w.alloc (.cells #[.slice A xs.length c, .int .i64 t] 24)).alloc (ib x)) (ib was)
      rwa [World.size_alloc, World.size_alloc] at this
  have HV := Lib.hid hV
  have HG := Lib.hid hG
  have HC := Lib.hid hC
  have HS := Lib.hid hs
  have hl := hs.1
  obtain ⟨a0, a1, -⟩ := cells2 hG.1
  obtain ⟨b0, b1, b2, b3, b4, b5, _, _, _, _, _, _⟩ := cells6 hG.2.1
  obtain ⟨c0, c1, c2, c3, c4, c5, _, _, _, _, _, _⟩ := cells6 hG.2.2.1
  clear hV hG hC hs
  subst ht
  have HIX := Lib.hid hi
  clear hi
  have HAX := Lib.hid ha
  clear ha
  go_enter Tryz.func26, Tryz.ntmps26
  go_wp2_with fail
  rw [HV.out]
  have HCALL1 := Lib.hid (isG_l _ HG.out)
  rw [HIX.out] at HCALL1
  refine Calls.mono HCALL1.out ?_
  rintro en w1 ⟨rfl, hg1⟩
  have HG1 := Lib.hid hg1
  obtain ⟨a0, a1, -⟩ := cells2 hg1.1
  obtain ⟨b0, b1, b2, b3, b4, b5, _, _, _, _, _, _⟩ := cells6 hg1.2.1
  obtain ⟨c0, c1, c2, c3, c4, c5, _, _, _, _, _, _⟩ := cells6 hg1.2.2.1
  clear hg1 HCALL1
  go_wp2_with fail
  have HCALL2 := Lib.hid (any_l (c := c) HC.out HS.out _ HG1.out)
  rw [HAX.out] at HCALL2
  refine Calls.mono HCALL2.out ?_
  rintro en w2 ⟨rfl, hg2⟩
  have HG2 := Lib.hid hg2
  obtain ⟨a0, a1, -⟩ := cells2 hg2.1
  obtain ⟨b0, b1, b2, b3, b4, b5, _, _, _, _, _, _⟩ := cells6 hg2.2.1
  obtain ⟨c0, c1, c2, c3, c4, c5, _, _, _, _, _, _⟩ := cells6 hg2.2.2.1
  clear hg2 HCALL2
  go_wp2_with fail
  go_ret
  exact ⟨rfl, HG2.out.2.2.2⟩

set_option maxHeartbeats 1000000 in
set_option maxRecDepth 100000 in
theorem lacks_22_ok (t : Int) (A : Option Addr) (c : Nat) (xs : List S26) (k : Int) (x was : S26) (there : Bool) (w : World) (hC : Kd.C k26 w A xs.length xs) (hs : Sm xs) (h0 : x.f0.size ≤ 17592186044416) (h4 : x.f4.size ≤ 17592186044416) (hk : k = 22) (ht : there = true) (hi : isG was = true) (ha : xs.any (fullB was) = false) :
    Calls Tryz.prog 26 #[.agg #[.slice A xs.length c, .int .i64 t], .int .i64 k, iv x, iv was, .bool there] w fun e w' => e = .returned (.int .i64 (0)) ∧ Below w.heap.size w w' := by
  subst hk
  obtain ⟨V, hV⟩ : ∃ V, ((w.alloc (.cells #[.slice A xs.length c, .int .i64 t] 24)).alloc (ib x)).alloc (ib was) = V := ⟨_, rfl⟩
  have hG : Gl w (.cells #[.slice A xs.length c, .int .i64 t] 24) x was V := by
    rw [← hV]
    refine ⟨blk_alloc (blk_alloc (blk_new _ _) _) _, ?_, ?_, up (up (bel1 _ _) (bel1 _ _)) (bel1 _ _)⟩
    · rw [← World.size_alloc w (.cells #[.slice A xs.length c, .int .i64 t] 24)]; exact blk_alloc (blk_new _ _) _
    · have := blk_new ((w.alloc (.cells #[.slice A xs.length c, .int .i64 t] 24)).alloc (ib x)) (ib was)
      rwa [World.size_alloc, World.size_alloc] at this
  have HV := Lib.hid hV
  have HG := Lib.hid hG
  have HC := Lib.hid hC
  have HS := Lib.hid hs
  have hl := hs.1
  obtain ⟨a0, a1, -⟩ := cells2 hG.1
  obtain ⟨b0, b1, b2, b3, b4, b5, _, _, _, _, _, _⟩ := cells6 hG.2.1
  obtain ⟨c0, c1, c2, c3, c4, c5, _, _, _, _, _, _⟩ := cells6 hG.2.2.1
  clear hV hG hC hs
  subst ht
  have HIX := Lib.hid hi
  clear hi
  have HAX := Lib.hid ha
  clear ha
  go_enter Tryz.func26, Tryz.ntmps26
  go_wp2_with fail
  rw [HV.out]
  have HCALL1 := Lib.hid (isG_l _ HG.out)
  rw [HIX.out] at HCALL1
  refine Calls.mono HCALL1.out ?_
  rintro en w1 ⟨rfl, hg1⟩
  have HG1 := Lib.hid hg1
  obtain ⟨a0, a1, -⟩ := cells2 hg1.1
  obtain ⟨b0, b1, b2, b3, b4, b5, _, _, _, _, _, _⟩ := cells6 hg1.2.1
  obtain ⟨c0, c1, c2, c3, c4, c5, _, _, _, _, _, _⟩ := cells6 hg1.2.2.1
  clear hg1 HCALL1
  go_wp2_with fail
  have HCALL2 := Lib.hid (any_l (c := c) HC.out HS.out _ HG1.out)
  rw [HAX.out] at HCALL2
  refine Calls.mono HCALL2.out ?_
  rintro en w2 ⟨rfl, hg2⟩
  have HG2 := Lib.hid hg2
  obtain ⟨a0, a1, -⟩ := cells2 hg2.1
  obtain ⟨b0, b1, b2, b3, b4, b5, _, _, _, _, _, _⟩ := cells6 hg2.2.1
  obtain ⟨c0, c1, c2, c3, c4, c5, _, _, _, _, _, _⟩ := cells6 hg2.2.2.1
  clear hg2 HCALL2
  go_wp2_with fail
  go_ret
  exact ⟨rfl, HG2.out.2.2.2⟩

set_option maxHeartbeats 1000000 in
set_option maxRecDepth 100000 in
theorem lacks_else (t : Int) (A : Option Addr) (c : Nat) (xs : List S26) (k : Int) (x was : S26) (there : Bool) (w : World) (hC : Kd.C k26 w A xs.length xs) (hs : Sm xs) (h0 : x.f0.size ≤ 17592186044416) (h4 : x.f4.size ≤ 17592186044416) (k20 : (k == 20) = false) (k21 : (k == 21) = false) (k22 : (k == 22) = false) :
    Calls Tryz.prog 26 #[.agg #[.slice A xs.length c, .int .i64 t], .int .i64 k, iv x, iv was, .bool there] w fun e w' => e = .returned (.int .i64 (10)) ∧ Below w.heap.size w w' := by
  obtain ⟨V, hV⟩ : ∃ V, ((w.alloc (.cells #[.slice A xs.length c, .int .i64 t] 24)).alloc (ib x)).alloc (ib was) = V := ⟨_, rfl⟩
  have hG : Gl w (.cells #[.slice A xs.length c, .int .i64 t] 24) x was V := by
    rw [← hV]
    refine ⟨blk_alloc (blk_alloc (blk_new _ _) _) _, ?_, ?_, up (up (bel1 _ _) (bel1 _ _)) (bel1 _ _)⟩
    · rw [← World.size_alloc w (.cells #[.slice A xs.length c, .int .i64 t] 24)]; exact blk_alloc (blk_new _ _) _
    · have := blk_new ((w.alloc (.cells #[.slice A xs.length c, .int .i64 t] 24)).alloc (ib x)) (ib was)
      rwa [World.size_alloc, World.size_alloc] at this
  have HV := Lib.hid hV
  have HG := Lib.hid hG
  have HC := Lib.hid hC
  have HS := Lib.hid hs
  have hl := hs.1
  obtain ⟨a0, a1, -⟩ := cells2 hG.1
  obtain ⟨b0, b1, b2, b3, b4, b5, _, _, _, _, _, _⟩ := cells6 hG.2.1
  obtain ⟨c0, c1, c2, c3, c4, c5, _, _, _, _, _, _⟩ := cells6 hG.2.2.1
  clear hV hG hC hs
  go_enter Tryz.func26, Tryz.ntmps26
  go_wp2_with fail
  rw [HV.out]
  go_ret
  exact ⟨rfl, HG.out.2.2.2⟩

theorem lacks_calls (t : Int) (A : Option Addr) (c : Nat) (xs : List S26) (k : Int) (x was : S26) (there : Bool) (w : World) (hC : Kd.C k26 w A xs.length xs) (hs : Sm xs) (h0 : x.f0.size ≤ 17592186044416) (h4 : x.f4.size ≤ 17592186044416) :
    Calls Tryz.prog 26 #[.agg #[.slice A xs.length c, .int .i64 t], .int .i64 k, iv x, iv was, .bool there] w fun e w' => e = .returned (.int .i64 (lacksB xs k x was there)) ∧ Below w.heap.size w w' := by
  unfold lacksB lacksR
  by_cases h20 : k = 20
  · subst h20
    cases hm : itemB x with
    | false => simpa [hm] using lacks_20_may t A c xs 20 x was there w hC hs h0 h4 rfl hm
    | true =>
      cases hf : fitsB xs x with
      | false => simpa [hm, hf] using lacks_20_fits t A c xs 20 x was there w hC hs h0 h4 rfl hm hf
      | true =>
        cases there with
        | true => simpa [hm, hf] using lacks_20_there t A c xs 20 x was true w hC hs h0 h4 rfl hm hf rfl
        | false =>
          by_cases hn : 100 ≤ xs.length
          · simpa [hm, hf, hn] using lacks_20_many t A c xs 20 x was false w hC hs h0 h4 rfl hm hf rfl (by omega)
          · simpa [hm, hf, hn] using lacks_20_ok t A c xs 20 x was false w hC hs h0 h4 rfl hm hf rfl (by omega)
  · by_cases h21 : k = 21
    · subst h21
      cases hm : itemB x with
      | false => simpa [hm] using lacks_21_may t A c xs 21 x was there w hC hs h0 h4 rfl hm
      | true =>
        cases hf : fitsB xs x with
        | false => simpa [hm, hf] using lacks_21_fits t A c xs 21 x was there w hC hs h0 h4 rfl hm hf
        | true =>
          cases there with
          | false => simpa [hm, hf] using lacks_21_none t A c xs 21 x was false w hC hs h0 h4 rfl hm hf rfl
          | true =>
            by_cases hd : was.f3 = x.f3
            · simpa [hm, hf, hd] using lacks_21_ok t A c xs 21 x was true w hC hs h0 h4 rfl hm hf rfl (by simp [hd]) (by simp [hd])
            · simpa [hm, hf, hd] using lacks_21_type t A c xs 21 x was true w hC hs h0 h4 rfl hm hf rfl (by simp [hd]) (by simp [hd])
    · by_cases h22 : k = 22
      · subst h22
        cases there with
        | false => simpa using lacks_22_none t A c xs 22 x was false w hC hs h0 h4 rfl rfl
        | true =>
          cases hi : isG was with
          | false => simpa [hi] using lacks_22_bud t A c xs 22 x was true w hC hs h0 h4 rfl rfl hi
          | true =>
            cases ha : xs.any (fullB was) with
            | true => simpa [hi, ha] using lacks_22_full t A c xs 22 x was true w hC hs h0 h4 rfl rfl hi ha
            | false => simpa [hi, ha] using lacks_22_ok t A c xs 22 x was true w hC hs h0 h4 rfl rfl hi ha
      · simpa [h20, h21, h22] using lacks_else t A c xs k x was there w hC hs h0 h4 (by simp [h20]) (by simp [h21]) (by simp [h22])

end Go.Proofs.YtdfppdkhiejbdaaGreatDoor.Li
end

section
/- Package list: Apply's closure (twins). -/
set_option linter.unusedVariables false
set_option linter.unusedSimpArgs false
namespace Go.Proofs.YtdfppdkhiejbdaaGreatDoor.Li
open Go.RowKit Go.Proofs.YtdfppdkhiejbdaaGreatDoor.PList Go.Proofs.YtdfppdkhiejbdaaGreatDoorW.PrintWords
attribute [local go_sem high] eqA26

def eqI (a b : S26) : Bool := ((a.f0.toList) == (b.f0.toList) && ((a.f1) == (b.f1) && ((a.f2) == (b.f2) && ((a.f3) == (b.f3) && ((a.f4.toList) == (b.f4.toList) && ((a.f5) == (b.f5)))))))
theorem eqI_iff (a b : S26) : eqI a b = true ↔ a = b := by
  unfold eqI
  constructor
  · intro h
    simp only [Bool.and_eq_true, beq_iff_eq] at h
    obtain ⟨h0, h1, h2, h3, h4, h5⟩ := h
    cases a; cases b
    simp only at h0 h1 h2 h3 h4 h5
    rw [toList_inj h0, toList_inj h4, h1, h2, h3, h5]
  · rintro rfl
    simp

/-- Have two items one name? -/
def twinB (x y : S26) : Bool := eqI (keyB y) (keyB x)

def Gt (w : World) (kb : Nat) (x y : S26) (W : World) : Prop := W.heap[w.heap.size]? = some (ib y) ∧ W.heap[kb]? = some (ib x) ∧ Below w.heap.size w W
theorem Gt.step {w : World} {kb : Nat} {x y : S26} {W W' : World} (h : Gt w kb x y W) (hb : Below W.heap.size W W') : Gt w kb x y W' := ⟨blk_below h.1 hb, blk_below h.2.1 hb, up h.2.2 hb⟩
theorem key_t {w : World} {kb : Nat} {x y : S26} (z : S26) (h0 : z.f0.size ≤ 17592186044416) (W : World) (h : Gt w kb x y W) :
    Calls Tryz.prog 17 #[iv z] W fun e w' => e = .returned (iv (keyB z)) ∧ Gt w kb x y w' :=
  Calls.mono (key_calls z W h0) fun e w' ⟨he, hb⟩ => ⟨he, h.step hb⟩

set_option maxHeartbeats 1000000 in
set_option maxRecDepth 100000 in
theorem twin1_calls (x y : S26) (kb : Nat) (w : World) (hc : w.heap[kb]? = some (ib x)) (hx : x.f0.size ≤ 17592186044416) (hy : y.f0.size ≤ 17592186044416) :
    Calls Tryz.prog 29 #[iv y, .pointer (some ⟨kb, 0, none⟩)] w fun e w' => e = .returned (.bool (twinB x y)) ∧ Below w.heap.size w w' := by
  have hg : Gt w kb x y (w.alloc (ib y)) := ⟨blk_new _ _, blk_alloc hc _, bel1 _ _⟩
  have HGD := Lib.hid (hg.step (Below.refl _ _).drew)
  clear hc hg
  unfold twinB
  go_enter Tryz.func29, Tryz.ntmps29
  go_upto_region 1 with fail
  refine wp_region_quiet (C := Gt w kb x y) (by kernel_rfl) (by kernel_rfl) HGD.out ?_
  dsimp only
  repeat (first | go_big_quiet_skip | (go_big_quiet_want; go_big_quiet_op; first | go_big_quiet_on | (refine ⟨_, fun _ _ => rfl, ?_⟩; go_big_quiet_on)))
  go_big_quiet_want
  refine ⟨iv y, fun W hW => ?_, ?_⟩
  · obtain ⟨sa0, sa1, sa2, sa3, sa4, sa5, _, _, _, _, _, _⟩ := cells6 hW.1
    clear hW
    go_simp
  go_big_quiet_on
  try simp only [Act.put, List.setIfInBounds_toArray, List.set_cons_zero, List.set_cons_succ]
  go_big_quiet_want
  refine ⟨iv (keyB y), fun W hW => ?_, ?_⟩
  · have HCALL := Lib.hid (key_t y hy W hW)
    clear hW
    go_simp
    exact HCALL.out
  go_big_quiet_on
  try simp only [Act.put, List.setIfInBounds_toArray, List.set_cons_zero, List.set_cons_succ]
  repeat (first | go_big_quiet_skip | (go_big_quiet_want; go_big_quiet_op; first | go_big_quiet_on | (refine ⟨_, fun _ _ => rfl, ?_⟩; go_big_quiet_on)))
  go_big_quiet_want
  refine ⟨iv x, fun W hW => ?_, ?_⟩
  · obtain ⟨sa0, sa1, sa2, sa3, sa4, sa5, _, _, _, _, _, _⟩ := cells6 hW.2.1
    clear hW
    go_simp
  go_big_quiet_on
  try simp only [Act.put, List.setIfInBounds_toArray, List.set_cons_zero, List.set_cons_succ]
  go_big_quiet_want
  refine ⟨iv (keyB x), fun W hW => ?_, ?_⟩
  · have HCALL := Lib.hid (key_t x hx W hW)
    clear hW
    go_simp
    exact HCALL.out
  go_big_quiet_on
  try simp only [Act.put, List.setIfInBounds_toArray, List.set_cons_zero, List.set_cons_succ]
  go_big_quiet_want
  refine ⟨.bool (eqI (keyB y) (keyB x)), fun W hW => ?_, ?_⟩
  · clear hW
    generalize keyB y = ky
    generalize keyB x = kx
    unfold eqI
    go_simp
  go_big_quiet_on
  try simp only [Act.put, List.setIfInBounds_toArray, List.set_cons_zero, List.set_cons_succ]
  repeat (first | go_big_quiet_skip | (go_big_quiet_want; go_big_quiet_op; first | go_big_quiet_on | (refine ⟨_, fun _ _ => rfl, ?_⟩; go_big_quiet_on)))
  refine wpQuiet_nil ?_
  intro W hW
  have HW := Lib.hid hW
  clear hW
  go_wp2_with fail
  go_ret
  exact ⟨rfl, HW.out.2.2⟩

end Go.Proofs.YtdfppdkhiejbdaaGreatDoor.Li
end

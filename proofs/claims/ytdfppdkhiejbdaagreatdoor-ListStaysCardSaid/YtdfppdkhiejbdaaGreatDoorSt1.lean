import Derived.Test.YtdfppdkhiejbdaaGreatDoorSt0
/- Package list's laws: ListStays, walked. -/
set_option linter.unusedVariables false
set_option linter.unusedSimpArgs false
namespace Go.Proofs.YtdfppdkhiejbdaaGreatDoor.Li
open Go.RowKit Go.Proofs.YtdfppdkhiejbdaaGreatDoor.PList Go.Proofs.YtdfppdkhiejbdaaGreatDoorW.PrintWords
attribute [local go_sem high] eqA26

set_option maxHeartbeats 1500000 in
set_option maxRecDepth 1000000 in
theorem Stays_no1 (t k : Int) (A : Option Addr) (c : Nat) (xs : List S26) (x : S26) (w : World) (hC : Kd.C k26 w A xs.length xs) (hcap : xs.length ≤ c) (hcame : Came xs) (hit : ∀ (A : Option Addr) (c : Nat) w, xs.length ≤ c → Kd.C k26 w A xs.length xs → Calls Tryz.prog 6 #[.slice A xs.length c] w fun e w' => e = .returned (.bool false) ∧ Below w.heap.size w w')  :
    Calls Tryz.prog 3 #[.agg #[.slice A xs.length c, .int .i64 t], .int .i64 k, iv x] w fun e w' => e = .returned (.bool true) ∧ Below w.heap.size w w' := by
  have hG0 : GK w [(w.heap.size + 1, ib x), (w.heap.size, .cells #[.slice A xs.length c, .int .i64 t] 24 (0, 0))] [(A, xs)] ((w.alloc (.cells #[.slice A xs.length c, .int .i64 t] 24)).alloc (ib x)) := by
    refine GK.addB ?_ (by rw [← World.size_alloc w (.cells #[.slice A xs.length c, .int .i64 t] 24)]; exact blk_new _ _)
    refine GK.step ?_ (bel1 _ _)
    exact (((GK.start w).step (bel1 _ _)).addR (Kd.C_below hC (bel1 _ _)) hcame.1 |>.addB (blk_new _ _))
  have HG0 := Lib.hid hG0
  obtain ⟨V, hV⟩ : ∃ V, (w.alloc (.cells #[.slice A xs.length c, .int .i64 t] 24)).alloc (ib x) = V := ⟨_, rfl⟩
  rw [hV] at HG0
  have HV := Lib.hid hV
  have HIT := Lib.hid (hit A c V hcap (HG0.out.row A xs (.head _)))
  have HCAME := Lib.hid hcame
  clear hV hit hcame hC hG0
  obtain ⟨a0, a1, -⟩ := cells2 (HG0.out.blk w.heap.size _ (.tail _ (.head _)))
  go_enter Tryz.func3, Tryz.ntmps3
  go_upto_region 1 with fail
  have hV' : (w.alloc (.cells #[.slice A xs.length c, .int .i64 t] 24)).alloc (.cells #[.string x.f0, .int .i64 x.f1, .int .i64 x.f2, .int .i64 x.f3, .string x.f4, .bool x.f5] 26) = V := HV.out
  rw [hV']
  clear hV'
  go_wp2_with fail
  refine Calls.mono HIT.out ?_
  rintro en w1 ⟨rfl, hb1⟩
  have HG1 := Lib.hid (HG0.out.step hb1)
  clear hb1 HIT a0 a1
  go_wp2_with fail
  refine Calls.mono (live_calls _) ?_
  rintro en w19 ⟨rfl, hb19⟩
  have HG19 := Lib.hid (HG1.out.step hb19)
  clear hb19
  go_wp2_with fail
  go_ret
  exact ⟨rfl, HG19.out.2.2⟩

set_option maxHeartbeats 1500000 in
set_option maxRecDepth 1000000 in
theorem Stays_no2 (t k : Int) (A : Option Addr) (c : Nat) (xs : List S26) (x : S26) (w : World) (hC : Kd.C k26 w A xs.length xs) (hcap : xs.length ≤ c) (hcame : Came xs) (hit : ∀ (A : Option Addr) (c : Nat) w, xs.length ≤ c → Kd.C k26 w A xs.length xs → Calls Tryz.prog 6 #[.slice A xs.length c] w fun e w' => e = .returned (.bool true) ∧ Below w.heap.size w w') (hitx : ∀ (A : Option Addr) (c : Nat) w, 1 ≤ c → Kd.C k26 w A 1 [x] → Calls Tryz.prog 6 #[.slice A 1 c] w fun e w' => e = .returned (.bool false) ∧ Below w.heap.size w w')  :
    Calls Tryz.prog 3 #[.agg #[.slice A xs.length c, .int .i64 t], .int .i64 k, iv x] w fun e w' => e = .returned (.bool true) ∧ Below w.heap.size w w' := by
  have hG0 : GK w [(w.heap.size + 1, ib x), (w.heap.size, .cells #[.slice A xs.length c, .int .i64 t] 24 (0, 0))] [(A, xs)] ((w.alloc (.cells #[.slice A xs.length c, .int .i64 t] 24)).alloc (ib x)) := by
    refine GK.addB ?_ (by rw [← World.size_alloc w (.cells #[.slice A xs.length c, .int .i64 t] 24)]; exact blk_new _ _)
    refine GK.step ?_ (bel1 _ _)
    exact (((GK.start w).step (bel1 _ _)).addR (Kd.C_below hC (bel1 _ _)) hcame.1 |>.addB (blk_new _ _))
  have HG0 := Lib.hid hG0
  obtain ⟨V, hV⟩ : ∃ V, (w.alloc (.cells #[.slice A xs.length c, .int .i64 t] 24)).alloc (ib x) = V := ⟨_, rfl⟩
  rw [hV] at HG0
  have HV := Lib.hid hV
  have HIT := Lib.hid (hit A c V hcap (HG0.out.row A xs (.head _)))
  have HCAME := Lib.hid hcame
  clear hV hit hcame hC hG0
  obtain ⟨a0, a1, -⟩ := cells2 (HG0.out.blk w.heap.size _ (.tail _ (.head _)))
  go_enter Tryz.func3, Tryz.ntmps3
  go_upto_region 1 with fail
  have hV' : (w.alloc (.cells #[.slice A xs.length c, .int .i64 t] 24)).alloc (.cells #[.string x.f0, .int .i64 x.f1, .int .i64 x.f2, .int .i64 x.f3, .string x.f4, .bool x.f5] 26) = V := HV.out
  rw [hV']
  clear hV'
  go_wp2_with fail
  refine Calls.mono HIT.out ?_
  rintro en w1 ⟨rfl, hb1⟩
  have HG1 := Lib.hid (HG0.out.step hb1)
  clear hb1 HIT a0 a1
  obtain ⟨x0, x1, x2, x3, x4, x5, _, _, _, _, _, _⟩ := cells6 (HG1.out.blk (w.heap.size + 1) _ (.head _))
  have HITX := Lib.hid (hitx (some ⟨w1.heap.size, 0, none⟩) 1 (w1.alloc (.cells #[.string x.f0, .int .i64 x.f1, .int .i64 x.f2, .int .i64 x.f3, .string x.f4, .bool x.f5] 26)) (Nat.le_refl _) (C_one (blk_new w1 _)))
  go_wp2_with fail
  refine Calls.mono HITX.out ?_
  rintro en w2 ⟨rfl, hb2⟩
  have HG2 := Lib.hid ((HG1.out.step (bel1 _ _)).step hb2)
  clear hb2 HITX hitx x0 x1 x2 x3 x4 x5
  go_wp2_with fail
  refine Calls.mono (live_calls _) ?_
  rintro en w19 ⟨rfl, hb19⟩
  have HG19 := Lib.hid (HG2.out.step hb19)
  clear hb19
  go_wp2_with fail
  go_ret
  exact ⟨rfl, HG19.out.2.2⟩

set_option maxHeartbeats 1500000 in
set_option maxRecDepth 1000000 in
theorem Stays_no3 (t k : Int) (A : Option Addr) (c : Nat) (xs : List S26) (x : S26) (w : World) (hC : Kd.C k26 w A xs.length xs) (hcap : xs.length ≤ c) (hcame : Came xs) (hit : ∀ (A : Option Addr) (c : Nat) w, xs.length ≤ c → Kd.C k26 w A xs.length xs → Calls Tryz.prog 6 #[.slice A xs.length c] w fun e w' => e = .returned (.bool true) ∧ Below w.heap.size w w') (hitx : ∀ (A : Option Addr) (c : Nat) w, 1 ≤ c → Kd.C k26 w A 1 [x] → Calls Tryz.prog 6 #[.slice A 1 c] w fun e w' => e = .returned (.bool true) ∧ Below w.heap.size w w')  (hsm : Sm xs) (hck : (if checkB xs t = true then (0 : Int) else 170) = 170) :
    Calls Tryz.prog 3 #[.agg #[.slice A xs.length c, .int .i64 t], .int .i64 k, iv x] w fun e w' => e = .returned (.bool true) ∧ Below w.heap.size w w' := by
  have HCKB := Lib.hid hck
  clear hck
  have hG0 : GK w [(w.heap.size + 1, ib x), (w.heap.size, .cells #[.slice A xs.length c, .int .i64 t] 24 (0, 0))] [(A, xs)] ((w.alloc (.cells #[.slice A xs.length c, .int .i64 t] 24)).alloc (ib x)) := by
    refine GK.addB ?_ (by rw [← World.size_alloc w (.cells #[.slice A xs.length c, .int .i64 t] 24)]; exact blk_new _ _)
    refine GK.step ?_ (bel1 _ _)
    exact (((GK.start w).step (bel1 _ _)).addR (Kd.C_below hC (bel1 _ _)) hcame.1 |>.addB (blk_new _ _))
  have HG0 := Lib.hid hG0
  obtain ⟨V, hV⟩ : ∃ V, (w.alloc (.cells #[.slice A xs.length c, .int .i64 t] 24)).alloc (ib x) = V := ⟨_, rfl⟩
  rw [hV] at HG0
  have HV := Lib.hid hV
  have HIT := Lib.hid (hit A c V hcap (HG0.out.row A xs (.head _)))
  have HCAME := Lib.hid hcame
  clear hV hit hcame hC hG0
  obtain ⟨a0, a1, -⟩ := cells2 (HG0.out.blk w.heap.size _ (.tail _ (.head _)))
  go_enter Tryz.func3, Tryz.ntmps3
  go_upto_region 1 with fail
  have hV' : (w.alloc (.cells #[.slice A xs.length c, .int .i64 t] 24)).alloc (.cells #[.string x.f0, .int .i64 x.f1, .int .i64 x.f2, .int .i64 x.f3, .string x.f4, .bool x.f5] 26) = V := HV.out
  rw [hV']
  clear hV'
  go_wp2_with fail
  refine Calls.mono HIT.out ?_
  rintro en w1 ⟨rfl, hb1⟩
  have HG1 := Lib.hid (HG0.out.step hb1)
  clear hb1 HIT a0 a1
  obtain ⟨x0, x1, x2, x3, x4, x5, _, _, _, _, _, _⟩ := cells6 (HG1.out.blk (w.heap.size + 1) _ (.head _))
  have HITX := Lib.hid (hitx (some ⟨w1.heap.size, 0, none⟩) 1 (w1.alloc (.cells #[.string x.f0, .int .i64 x.f1, .int .i64 x.f2, .int .i64 x.f3, .string x.f4, .bool x.f5] 26)) (Nat.le_refl _) (C_one (blk_new w1 _)))
  go_wp2_with fail
  refine Calls.mono HITX.out ?_
  rintro en w2 ⟨rfl, hb2⟩
  have HG2 := Lib.hid ((HG1.out.step (bel1 _ _)).step hb2)
  clear hb2 HITX hitx x0 x1 x2 x3 x4 x5
  obtain ⟨a0, a1, -⟩ := cells2 (HG2.out.blk w.heap.size _ (.tail _ (.head _)))
  have HCK := Lib.hid (Check_calls t A c xs w2 (HG2.out.row A xs (.head _)) hsm HCAME.out.rg)
  rw [HCKB.out] at HCK
  go_wp2_with fail
  refine Calls.mono HCK.out ?_
  rintro en w3 ⟨rfl, hb3⟩
  have HG3 := Lib.hid (HG2.out.step hb3)
  clear hb3 HCK a0 a1
  go_wp2_with fail
  refine Calls.mono (wharflaw17_num.calls 170 170 _ rfl) ?_
  rintro en w4 ⟨rfl, hd4⟩
  have HG4 := Lib.hid (HG3.out.step hd4.below)
  clear hd4
  go_wp2_with fail
  refine Calls.mono (live_calls _) ?_
  rintro en w19 ⟨rfl, hb19⟩
  have HG19 := Lib.hid (HG4.out.step hb19)
  clear hb19
  go_wp2_with fail
  go_ret
  exact ⟨rfl, HG19.out.2.2⟩

set_option maxHeartbeats 1500000 in
set_option maxRecDepth 1000000 in
theorem Stays_refused (t k : Int) (A : Option Addr) (c : Nat) (xs : List S26) (x : S26) (w : World) (hC : Kd.C k26 w A xs.length xs) (hcap : xs.length ≤ c) (hcame : Came xs) (hit : ∀ (A : Option Addr) (c : Nat) w, xs.length ≤ c → Kd.C k26 w A xs.length xs → Calls Tryz.prog 6 #[.slice A xs.length c] w fun e w' => e = .returned (.bool true) ∧ Below w.heap.size w w') (hitx : ∀ (A : Option Addr) (c : Nat) w, 1 ≤ c → Kd.C k26 w A 1 [x] → Calls Tryz.prog 6 #[.slice A 1 c] w fun e w' => e = .returned (.bool true) ∧ Below w.heap.size w w')  (hsm : Sm xs) (hlen : xs.length ≤ 120) (hck : (if checkB xs t = true then (0 : Int) else 170) = 0) (hgood : Good xs) (hx0 : x.f0.size ≤ 17592186044416) (hx4 : x.f4.size ≤ 17592186044416) (cc : Int) (hap : applyB xs k x = (xs, cc)) (hys : Sm xs) (hyr : Rg xs) (hyl : xs.length ≤ 120) (hcky : (if checkB xs t = true then (0 : Int) else 170) = 0) (h1 : (cc == 0) = false) (h2 : (cc != 0) = true) :
    Calls Tryz.prog 3 #[.agg #[.slice A xs.length c, .int .i64 t], .int .i64 k, iv x] w fun e w' => e = .returned (.bool true) ∧ Below w.heap.size w w' := by
  have HCKB := Lib.hid hck
  have HGOOD := Lib.hid hgood
  have HAPV := Lib.hid hap
  have HCKY := Lib.hid hcky
  have HYR := Lib.hid hyr
  clear hck hgood hap hcky hyr
  have hG0 : GK w [(w.heap.size + 1, ib x), (w.heap.size, .cells #[.slice A xs.length c, .int .i64 t] 24 (0, 0))] [(A, xs)] ((w.alloc (.cells #[.slice A xs.length c, .int .i64 t] 24)).alloc (ib x)) := by
    refine GK.addB ?_ (by rw [← World.size_alloc w (.cells #[.slice A xs.length c, .int .i64 t] 24)]; exact blk_new _ _)
    refine GK.step ?_ (bel1 _ _)
    exact (((GK.start w).step (bel1 _ _)).addR (Kd.C_below hC (bel1 _ _)) hcame.1 |>.addB (blk_new _ _))
  have HG0 := Lib.hid hG0
  obtain ⟨V, hV⟩ : ∃ V, (w.alloc (.cells #[.slice A xs.length c, .int .i64 t] 24)).alloc (ib x) = V := ⟨_, rfl⟩
  rw [hV] at HG0
  have HV := Lib.hid hV
  have HIT := Lib.hid (hit A c V hcap (HG0.out.row A xs (.head _)))
  have HCAME := Lib.hid hcame
  clear hV hit hcame hC hG0
  obtain ⟨a0, a1, -⟩ := cells2 (HG0.out.blk w.heap.size _ (.tail _ (.head _)))
  go_enter Tryz.func3, Tryz.ntmps3
  go_upto_region 1 with fail
  have hV' : (w.alloc (.cells #[.slice A xs.length c, .int .i64 t] 24)).alloc (.cells #[.string x.f0, .int .i64 x.f1, .int .i64 x.f2, .int .i64 x.f3, .string x.f4, .bool x.f5] 26) = V := HV.out
  rw [hV']
  clear hV'
  go_wp2_with fail
  refine Calls.mono HIT.out ?_
  rintro en w1 ⟨rfl, hb1⟩
  have HG1 := Lib.hid (HG0.out.step hb1)
  clear hb1 HIT a0 a1
  obtain ⟨x0, x1, x2, x3, x4, x5, _, _, _, _, _, _⟩ := cells6 (HG1.out.blk (w.heap.size + 1) _ (.head _))
  have HITX := Lib.hid (hitx (some ⟨w1.heap.size, 0, none⟩) 1 (w1.alloc (.cells #[.string x.f0, .int .i64 x.f1, .int .i64 x.f2, .int .i64 x.f3, .string x.f4, .bool x.f5] 26)) (Nat.le_refl _) (C_one (blk_new w1 _)))
  go_wp2_with fail
  refine Calls.mono HITX.out ?_
  rintro en w2 ⟨rfl, hb2⟩
  have HG2 := Lib.hid ((HG1.out.step (bel1 _ _)).step hb2)
  clear hb2 HITX hitx x0 x1 x2 x3 x4 x5
  obtain ⟨a0, a1, -⟩ := cells2 (HG2.out.blk w.heap.size _ (.tail _ (.head _)))
  have HCK := Lib.hid (Check_calls t A c xs w2 (HG2.out.row A xs (.head _)) hsm HCAME.out.rg)
  rw [HCKB.out] at HCK
  go_wp2_with fail
  refine Calls.mono HCK.out ?_
  rintro en w3 ⟨rfl, hb3⟩
  have HG3 := Lib.hid (HG2.out.step hb3)
  clear hb3 HCK a0 a1
  go_wp2_with fail
  refine Calls.mono (wharflaw17_num.calls 0 0 _ rfl) ?_
  rintro en w4 ⟨rfl, hd4⟩
  have HG4 := Lib.hid (HG3.out.step hd4.below)
  clear hd4
  obtain ⟨a0, a1, -⟩ := cells2 (HG4.out.blk w.heap.size _ (.tail _ (.head _)))
  obtain ⟨x0, x1, x2, x3, x4, x5, _, _, _, _, _, _⟩ := cells6 (HG4.out.blk (w.heap.size + 1) _ (.head _))
  have HAP := Lib.hid (Apply_calls t A c xs k x w4 (HG4.out.row A xs (.head _)) hcap hsm (by omega) (mono_of_ord _ HGOOD.out.ord) hx0 hx4)
  rw [HAPV.out] at HAP
  go_wp2_with fail
  refine Calls.mono HAP.out ?_
  rintro en w6 ⟨B6, c6, rfl, hC6, hc6, hb6⟩
  have HG6 := Lib.hid ((HG4.out.step hb6).addR hC6 (show xs.length ≤ 4398046511104 by omega))
  clear hb6 HAP a0 a1 x0 x1 x2 x3 x4 x5 hC6
  go_upto_region 4 with fail
  have HG7 := Lib.hid ((HG6.out.step (bel1 w6 (.cells #[.slice B6 xs.length c6, .int .i64 t] 24))).addB (blk_new w6 (.cells #[.slice B6 xs.length c6, .int .i64 t] 24)))
  obtain ⟨W7, hW7⟩ : ∃ W7, W7 = w6.alloc (.cells #[.slice B6 xs.length c6, .int .i64 t] 24) := ⟨_, rfl⟩
  rw [← hW7] at HG7
  rw [← hW7]
  obtain ⟨n8, hn8⟩ : ∃ n8, w6.heap.size = n8 := ⟨_, rfl⟩
  rw [hn8] at HG7
  rw [hn8]
  clear hW7 hn8
  obtain ⟨b0, b1, -⟩ := cells2 (HG7.out.blk n8 _ (.head _))
  have HCK := Lib.hid (Check_calls t B6 c6 xs W7 (HG7.out.row B6 xs (.head _)) hys HYR.out)
  rw [HCKY.out] at HCK
  go_wp2_with fail
  refine Calls.mono HCK.out ?_
  rintro en w8 ⟨rfl, hb8⟩
  have HG8 := Lib.hid (HG7.out.step hb8)
  clear hb8 HCK b0 b1
  go_wp2_with fail
  refine Calls.mono (wharflaw17_num.calls 0 0 _ rfl) ?_
  rintro en w9 ⟨rfl, hd9⟩
  have HG9 := Lib.hid (HG8.out.step hd9.below)
  clear hd9
  obtain ⟨b0, b1, -⟩ := cells2 (HG9.out.blk n8 _ (.head _))
  obtain ⟨a0, a1, -⟩ := cells2 (HG9.out.blk w.heap.size _ (.tail _ (.tail _ (.head _))))
  have HSR := Lib.hid (refSame_calls B6 c6 A c xs t w9 (HG9.out.row B6 xs (.head _)) hc6 (HG9.out.row A xs (.tail _ (.head _))) hcap (by omega))
  go_wp2_with fail
  refine Calls.mono HSR.out ?_
  rintro en w10 ⟨rfl, hb10⟩
  have HG10 := Lib.hid (HG9.out.step hb10)
  clear hb10 HSR a0 a1 b0 b1
  obtain ⟨b0, b1, -⟩ := cells2 (HG10.out.blk n8 _ (.head _))
  obtain ⟨a0, a1, -⟩ := cells2 (HG10.out.blk w.heap.size _ (.tail _ (.tail _ (.head _))))
  go_wp2_with fail
  refine Calls.mono (live_calls _) ?_
  rintro en w19 ⟨rfl, hb19⟩
  have HG19 := Lib.hid (HG10.out.step hb19)
  clear hb19
  go_wp2_with fail
  go_ret
  exact ⟨rfl, HG19.out.2.2⟩

set_option maxHeartbeats 1500000 in
set_option maxRecDepth 1000000 in
theorem Stays_Add (t : Int) (A : Option Addr) (c : Nat) (xs : List S26) (x : S26) (w : World) (hC : Kd.C k26 w A xs.length xs) (hcap : xs.length ≤ c) (hcame : Came xs) (hit : ∀ (A : Option Addr) (c : Nat) w, xs.length ≤ c → Kd.C k26 w A xs.length xs → Calls Tryz.prog 6 #[.slice A xs.length c] w fun e w' => e = .returned (.bool true) ∧ Below w.heap.size w w') (hitx : ∀ (A : Option Addr) (c : Nat) w, 1 ≤ c → Kd.C k26 w A 1 [x] → Calls Tryz.prog 6 #[.slice A 1 c] w fun e w' => e = .returned (.bool true) ∧ Below w.heap.size w w')  (hsm : Sm xs) (hlen : xs.length ≤ 120) (hck : (if checkB xs t = true then (0 : Int) else 170) = 0) (hgood : Good xs) (hx0 : x.f0.size ≤ 17592186044416) (hx4 : x.f4.size ≤ 17592186044416) (ys : List S26) (hap : applyB xs 20 x = (ys, 0)) (hys : Sm ys) (hyr : Rg ys) (hyl : ys.length ≤ 120) (hcky : (if checkB ys t = true then (0 : Int) else 170) = 0) (hl0 : lostB xs ys = 0) (hyx : ys.length = xs.length + 1) :
    Calls Tryz.prog 3 #[.agg #[.slice A xs.length c, .int .i64 t], .int .i64 20, iv x] w fun e w' => e = .returned (.bool true) ∧ Below w.heap.size w w' := by
  have HCKB := Lib.hid hck
  have HGOOD := Lib.hid hgood
  have HAPV := Lib.hid hap
  have HCKY := Lib.hid hcky
  have HYR := Lib.hid hyr
  clear hck hgood hap hcky hyr
  have HYX := Lib.hid hyx
  have HL0 := Lib.hid hl0
  clear hyx hl0
  have hG0 : GK w [(w.heap.size + 1, ib x), (w.heap.size, .cells #[.slice A xs.length c, .int .i64 t] 24 (0, 0))] [(A, xs)] ((w.alloc (.cells #[.slice A xs.length c, .int .i64 t] 24)).alloc (ib x)) := by
    refine GK.addB ?_ (by rw [← World.size_alloc w (.cells #[.slice A xs.length c, .int .i64 t] 24)]; exact blk_new _ _)
    refine GK.step ?_ (bel1 _ _)
    exact (((GK.start w).step (bel1 _ _)).addR (Kd.C_below hC (bel1 _ _)) hcame.1 |>.addB (blk_new _ _))
  have HG0 := Lib.hid hG0
  obtain ⟨V, hV⟩ : ∃ V, (w.alloc (.cells #[.slice A xs.length c, .int .i64 t] 24)).alloc (ib x) = V := ⟨_, rfl⟩
  rw [hV] at HG0
  have HV := Lib.hid hV
  have HIT := Lib.hid (hit A c V hcap (HG0.out.row A xs (.head _)))
  have HCAME := Lib.hid hcame
  clear hV hit hcame hC hG0
  obtain ⟨a0, a1, -⟩ := cells2 (HG0.out.blk w.heap.size _ (.tail _ (.head _)))
  go_enter Tryz.func3, Tryz.ntmps3
  go_upto_region 1 with fail
  have hV' : (w.alloc (.cells #[.slice A xs.length c, .int .i64 t] 24)).alloc (.cells #[.string x.f0, .int .i64 x.f1, .int .i64 x.f2, .int .i64 x.f3, .string x.f4, .bool x.f5] 26) = V := HV.out
  rw [hV']
  clear hV'
  go_wp2_with fail
  refine Calls.mono HIT.out ?_
  rintro en w1 ⟨rfl, hb1⟩
  have HG1 := Lib.hid (HG0.out.step hb1)
  clear hb1 HIT a0 a1
  obtain ⟨x0, x1, x2, x3, x4, x5, _, _, _, _, _, _⟩ := cells6 (HG1.out.blk (w.heap.size + 1) _ (.head _))
  have HITX := Lib.hid (hitx (some ⟨w1.heap.size, 0, none⟩) 1 (w1.alloc (.cells #[.string x.f0, .int .i64 x.f1, .int .i64 x.f2, .int .i64 x.f3, .string x.f4, .bool x.f5] 26)) (Nat.le_refl _) (C_one (blk_new w1 _)))
  go_wp2_with fail
  refine Calls.mono HITX.out ?_
  rintro en w2 ⟨rfl, hb2⟩
  have HG2 := Lib.hid ((HG1.out.step (bel1 _ _)).step hb2)
  clear hb2 HITX hitx x0 x1 x2 x3 x4 x5
  obtain ⟨a0, a1, -⟩ := cells2 (HG2.out.blk w.heap.size _ (.tail _ (.head _)))
  have HCK := Lib.hid (Check_calls t A c xs w2 (HG2.out.row A xs (.head _)) hsm HCAME.out.rg)
  rw [HCKB.out] at HCK
  go_wp2_with fail
  refine Calls.mono HCK.out ?_
  rintro en w3 ⟨rfl, hb3⟩
  have HG3 := Lib.hid (HG2.out.step hb3)
  clear hb3 HCK a0 a1
  go_wp2_with fail
  refine Calls.mono (wharflaw17_num.calls 0 0 _ rfl) ?_
  rintro en w4 ⟨rfl, hd4⟩
  have HG4 := Lib.hid (HG3.out.step hd4.below)
  clear hd4
  obtain ⟨a0, a1, -⟩ := cells2 (HG4.out.blk w.heap.size _ (.tail _ (.head _)))
  obtain ⟨x0, x1, x2, x3, x4, x5, _, _, _, _, _, _⟩ := cells6 (HG4.out.blk (w.heap.size + 1) _ (.head _))
  have HAP := Lib.hid (Apply_calls t A c xs 20 x w4 (HG4.out.row A xs (.head _)) hcap hsm (by omega) (mono_of_ord _ HGOOD.out.ord) hx0 hx4)
  rw [HAPV.out] at HAP
  go_wp2_with fail
  refine Calls.mono HAP.out ?_
  rintro en w6 ⟨B6, c6, rfl, hC6, hc6, hb6⟩
  have HG6 := Lib.hid ((HG4.out.step hb6).addR hC6 (show ys.length ≤ 4398046511104 by omega))
  clear hb6 HAP a0 a1 x0 x1 x2 x3 x4 x5 hC6
  go_upto_region 4 with fail
  have HG7 := Lib.hid ((HG6.out.step (bel1 w6 (.cells #[.slice B6 ys.length c6, .int .i64 t] 24))).addB (blk_new w6 (.cells #[.slice B6 ys.length c6, .int .i64 t] 24)))
  obtain ⟨W7, hW7⟩ : ∃ W7, W7 = w6.alloc (.cells #[.slice B6 ys.length c6, .int .i64 t] 24) := ⟨_, rfl⟩
  rw [← hW7] at HG7
  rw [← hW7]
  obtain ⟨n8, hn8⟩ : ∃ n8, w6.heap.size = n8 := ⟨_, rfl⟩
  rw [hn8] at HG7
  rw [hn8]
  clear hW7 hn8
  obtain ⟨b0, b1, -⟩ := cells2 (HG7.out.blk n8 _ (.head _))
  have HCK := Lib.hid (Check_calls t B6 c6 ys W7 (HG7.out.row B6 ys (.head _)) hys HYR.out)
  rw [HCKY.out] at HCK
  go_wp2_with fail
  refine Calls.mono HCK.out ?_
  rintro en w8 ⟨rfl, hb8⟩
  have HG8 := Lib.hid (HG7.out.step hb8)
  clear hb8 HCK b0 b1
  go_wp2_with fail
  refine Calls.mono (wharflaw17_num.calls 0 0 _ rfl) ?_
  rintro en w9 ⟨rfl, hd9⟩
  have HG9 := Lib.hid (HG8.out.step hd9.below)
  clear hd9
  obtain ⟨b0, b1, -⟩ := cells2 (HG9.out.blk n8 _ (.head _))
  obtain ⟨a0, a1, -⟩ := cells2 (HG9.out.blk w.heap.size _ (.tail _ (.tail _ (.head _))))
  go_wp2_with fail
  go_loopw [10, 9] (fun v10 v9 wr => ∃ i : Nat, i ≤ xs.length ∧ v10 = .int .i64 i ∧ v9 = .int .i64 ((lostB (xs.take i) ys : Nat) : Int) ∧ Hid (GK w [(n8, .cells #[.slice B6 ys.length c6, .int .i64 t] 24 (0, 0)), (w.heap.size + 1, ib x), (w.heap.size, .cells #[.slice A xs.length c, .int .i64 t] 24 (0, 0))] [(B6, ys), (A, xs)] wr)) (fun v _ _ => xs.length - (intOf v).toNat)
  case atStart => exact ⟨0, Nat.zero_le _, rfl, rfl, HG9⟩
  case round =>
    obtain ⟨i, hi, rfl, rfl, HG10⟩ := hrel
    clear a0 a1 b0 b1
    obtain ⟨b0, b1, -⟩ := cells2 (HG10.out.blk n8 _ (.head _))
    obtain ⟨a0, a1, -⟩ := cells2 (HG10.out.blk w.heap.size _ (.tail _ (.tail _ (.head _))))
    have hli := lost_le (xs.take i) ys
    rw [List.length_take] at hli
    by_cases hlt : i < xs.length
    · have hlk := lost_take xs ys i hlt
      have HLK := Lib.hid hlk
      clear hlk
      go_wp2_with fail
      go_loopw [12, 11] (fun v12 v11 wv => ∃ j : Nat, j ≤ ys.length ∧ v12 = .int .i64 j ∧ v11 = .bool (foundI (ys.take j) xs[i]) ∧ Hid (GK w [(n8, .cells #[.slice B6 ys.length c6, .int .i64 t] 24 (0, 0)), (w.heap.size + 1, ib x), (w.heap.size, .cells #[.slice A xs.length c, .int .i64 t] 24 (0, 0))] [(B6, ys), (A, xs)] wv)) (fun v _ _ => ys.length - (intOf v).toNat)
      case atStart => exact ⟨0, Nat.zero_le _, rfl, rfl, HG10⟩
      case round =>
        obtain ⟨j, hj, rfl, rfl, HG11⟩ := hrel
        clear a0 a1 b0 b1
        obtain ⟨b0, b1, -⟩ := cells2 (HG11.out.blk n8 _ (.head _))
        by_cases hjl : j < ys.length
        · have hft := found_take ys xs[i] j hjl
          obtain ⟨ad, hA, _, _, _, _, _, _⟩ := at_T26 (HG11.out.row A xs (.tail _ (.head _))) (i : Int) (by omega) (by omega)
          obtain ⟨bd, hB, _, _, _, _, _, _⟩ := at_T26 (HG11.out.row B6 ys (.head _)) (j : Int) (by omega) (by omega)
          subst hA hB
          cases hf : foundI (ys.take j) xs[i] with
          | true =>
            rw [hf] at hft
            have HFT : Hid (foundI (ys.take (j + 1)) xs[i] = true) := Lib.hid (by rw [hft]; rfl)
            clear hft hf
            go_upto_region 16 with fail
            refine wp_region_quiet (C := GK w [(n8, .cells #[.slice (some bd) ys.length c6, .int .i64 t] 24 (0, 0)), (w.heap.size + 1, ib x), (w.heap.size, .cells #[.slice (some ad) xs.length c, .int .i64 t] 24 (0, 0))] [(some bd, ys), (some ad, xs)]) (by kernel_rfl) (by kernel_rfl) HG11.out.drew ?_
            dsimp only
            repeat (first | go_big_quiet_skip | (go_big_quiet_want; go_big_quiet_op; first | go_big_quiet_on | (refine ⟨_, fun _ _ => rfl, ?_⟩; go_big_quiet_on)))
            refine wpQuiet_nil ?_
            intro W hW
            have HW := Lib.hid hW
            clear hW b0 b1
            go_wp2_with fail
            exact ⟨⟨j + 1, by omega, by go_num, by rw [HFT.out], HW⟩, by simp [intOf]; omega⟩
          | false =>
            rw [hf] at hft
            have HFT : Hid (foundI (ys.take (j + 1)) xs[i] = sameI ys[j] xs[i]) := Lib.hid (by rw [hft]; rfl)
            clear hft hf
            go_upto_region 16 with fail
            refine wp_region_quiet (C := GK w [(n8, .cells #[.slice (some bd) ys.length c6, .int .i64 t] 24 (0, 0)), (w.heap.size + 1, ib x), (w.heap.size, .cells #[.slice (some ad) xs.length c, .int .i64 t] 24 (0, 0))] [(some bd, ys), (some ad, xs)]) (by kernel_rfl) (by kernel_rfl) HG11.out.drew ?_
            dsimp only
            repeat (first | go_big_quiet_skip | (go_big_quiet_want; go_big_quiet_op; first | go_big_quiet_on | (refine ⟨_, fun _ _ => rfl, ?_⟩; go_big_quiet_on)))
            go_big_quiet_want
            refine ⟨.slice (some bd) ys.length c6, fun W hW => ?_, ?_⟩
            · obtain ⟨s0, s1, -⟩ := cells2 (hW.blk n8 _ (.head _))
              clear hW
              go_simp
            go_big_quiet_on
            try simp only [Act.put, List.setIfInBounds_toArray, List.set_cons_zero, List.set_cons_succ]
            repeat (first | go_big_quiet_skip | (go_big_quiet_want; go_big_quiet_op; first | go_big_quiet_on | (refine ⟨_, fun _ _ => rfl, ?_⟩; go_big_quiet_on)))
            go_big_quiet_want
            refine ⟨iv ys[j], fun W hW => ?_, ?_⟩
            · obtain ⟨ad', hA', p0, p1, p2, p3, p4, p5⟩ := at_T26 (hW.row (some bd) ys (.head _)) (j : Int) (by omega) (by omega)
              rw [rd_at ys _ hjl] at p0 p1 p2 p3 p4 p5
              simp only [Int.toNat_natCast] at p0 p1 p2 p3 p4 p5
              obtain rfl := Option.some.inj hA'
              clear hW hA'
              go_simp
            go_big_quiet_on
            try simp only [Act.put, List.setIfInBounds_toArray, List.set_cons_zero, List.set_cons_succ]
            repeat (first | go_big_quiet_skip | (go_big_quiet_want; go_big_quiet_op; first | go_big_quiet_on | (refine ⟨_, fun _ _ => rfl, ?_⟩; go_big_quiet_on)))
            go_big_quiet_want
            refine ⟨.slice (some ad) xs.length c, fun W hW => ?_, ?_⟩
            · obtain ⟨s0, s1, -⟩ := cells2 (hW.blk w.heap.size _ (.tail _ (.tail _ (.head _))))
              clear hW
              go_simp
            go_big_quiet_on
            try simp only [Act.put, List.setIfInBounds_toArray, List.set_cons_zero, List.set_cons_succ]
            repeat (first | go_big_quiet_skip | (go_big_quiet_want; go_big_quiet_op; first | go_big_quiet_on | (refine ⟨_, fun _ _ => rfl, ?_⟩; go_big_quiet_on)))
            go_big_quiet_want
            refine ⟨iv xs[i], fun W hW => ?_, ?_⟩
            · obtain ⟨ad', hA', p0, p1, p2, p3, p4, p5⟩ := at_T26 (hW.row (some ad) xs (.tail _ (.head _))) (i : Int) (by omega) (by omega)
              rw [rd_at xs _ hlt] at p0 p1 p2 p3 p4 p5
              simp only [Int.toNat_natCast] at p0 p1 p2 p3 p4 p5
              obtain rfl := Option.some.inj hA'
              clear hW hA'
              go_simp
            go_big_quiet_on
            try simp only [Act.put, List.setIfInBounds_toArray, List.set_cons_zero, List.set_cons_succ]
            go_big_quiet_want
            refine ⟨.bool (sameI ys[j] xs[i]), fun W hW => ?_, ?_⟩
            · clear hW
              unfold sameI
              go_simp
            go_big_quiet_on
            try simp only [Act.put, List.setIfInBounds_toArray, List.set_cons_zero, List.set_cons_succ]
            repeat (first | go_big_quiet_skip | (go_big_quiet_want; go_big_quiet_op; first | go_big_quiet_on | (refine ⟨_, fun _ _ => rfl, ?_⟩; go_big_quiet_on)))
            refine wpQuiet_nil ?_
            intro W hW
            have HW := Lib.hid hW
            clear hW b0 b1
            go_wp2_with fail
            exact ⟨⟨j + 1, by omega, by go_num, by rw [HFT.out], HW⟩, by simp [intOf]; omega⟩
        · obtain rfl : j = ys.length := by omega
          rw [List.take_length]
          cases hf : foundI ys xs[i] with
          | true =>
            have hlk : lostB (xs.take (i + 1)) ys = lostB (xs.take i) ys := by rw [HLK.out, hf]; rfl
            clear hf
            go_wp2_with fail
            go_roundw
            case rel => exact ⟨i + 1, by omega, by go_num, by rw [hlk], HG11⟩
            case measure => simp [intOf]; omega
          | false =>
            have hlk : lostB (xs.take (i + 1)) ys = lostB (xs.take i) ys + 1 := by rw [HLK.out, hf]; rfl
            clear hf
            go_wp2_with fail
            go_roundw
            case rel => exact ⟨i + 1, by omega, by go_num, by rw [hlk]; go_num, HG11⟩
            case measure => simp [intOf]; omega
    · obtain rfl : i = xs.length := by omega
      rw [List.take_length]
      rw [HL0.out]
      have hyx := HYX.out
      go_wp2_with fail
      refine Calls.mono (live_calls _) ?_
      rintro en w19 ⟨rfl, hb19⟩
      have HG19 := Lib.hid (HG10.out.step hb19)
      clear hb19
      go_wp2_with fail
      go_ret
      exact ⟨rfl, HG19.out.2.2⟩

set_option maxHeartbeats 1500000 in
set_option maxRecDepth 1000000 in
theorem Stays_Set (t : Int) (A : Option Addr) (c : Nat) (xs : List S26) (x : S26) (w : World) (hC : Kd.C k26 w A xs.length xs) (hcap : xs.length ≤ c) (hcame : Came xs) (hit : ∀ (A : Option Addr) (c : Nat) w, xs.length ≤ c → Kd.C k26 w A xs.length xs → Calls Tryz.prog 6 #[.slice A xs.length c] w fun e w' => e = .returned (.bool true) ∧ Below w.heap.size w w') (hitx : ∀ (A : Option Addr) (c : Nat) w, 1 ≤ c → Kd.C k26 w A 1 [x] → Calls Tryz.prog 6 #[.slice A 1 c] w fun e w' => e = .returned (.bool true) ∧ Below w.heap.size w w')  (hsm : Sm xs) (hlen : xs.length ≤ 120) (hck : (if checkB xs t = true then (0 : Int) else 170) = 0) (hgood : Good xs) (hx0 : x.f0.size ≤ 17592186044416) (hx4 : x.f4.size ≤ 17592186044416) (ys : List S26) (hap : applyB xs 21 x = (ys, 0)) (hys : Sm ys) (hyr : Rg ys) (hyl : ys.length ≤ 120) (hcky : (if checkB ys t = true then (0 : Int) else 170) = 0) (hl0 : lostB xs ys ≤ 1) (hyx : ys.length = xs.length) :
    Calls Tryz.prog 3 #[.agg #[.slice A xs.length c, .int .i64 t], .int .i64 21, iv x] w fun e w' => e = .returned (.bool true) ∧ Below w.heap.size w w' := by
  have HCKB := Lib.hid hck
  have HGOOD := Lib.hid hgood
  have HAPV := Lib.hid hap
  have HCKY := Lib.hid hcky
  have HYR := Lib.hid hyr
  clear hck hgood hap hcky hyr
  have HYX := Lib.hid hyx
  have HL0 := Lib.hid hl0
  clear hyx hl0
  have hG0 : GK w [(w.heap.size + 1, ib x), (w.heap.size, .cells #[.slice A xs.length c, .int .i64 t] 24 (0, 0))] [(A, xs)] ((w.alloc (.cells #[.slice A xs.length c, .int .i64 t] 24)).alloc (ib x)) := by
    refine GK.addB ?_ (by rw [← World.size_alloc w (.cells #[.slice A xs.length c, .int .i64 t] 24)]; exact blk_new _ _)
    refine GK.step ?_ (bel1 _ _)
    exact (((GK.start w).step (bel1 _ _)).addR (Kd.C_below hC (bel1 _ _)) hcame.1 |>.addB (blk_new _ _))
  have HG0 := Lib.hid hG0
  obtain ⟨V, hV⟩ : ∃ V, (w.alloc (.cells #[.slice A xs.length c, .int .i64 t] 24)).alloc (ib x) = V := ⟨_, rfl⟩
  rw [hV] at HG0
  have HV := Lib.hid hV
  have HIT := Lib.hid (hit A c V hcap (HG0.out.row A xs (.head _)))
  have HCAME := Lib.hid hcame
  clear hV hit hcame hC hG0
  obtain ⟨a0, a1, -⟩ := cells2 (HG0.out.blk w.heap.size _ (.tail _ (.head _)))
  go_enter Tryz.func3, Tryz.ntmps3
  go_upto_region 1 with fail
  have hV' : (w.alloc (.cells #[.slice A xs.length c, .int .i64 t] 24)).alloc (.cells #[.string x.f0, .int .i64 x.f1, .int .i64 x.f2, .int .i64 x.f3, .string x.f4, .bool x.f5] 26) = V := HV.out
  rw [hV']
  clear hV'
  go_wp2_with fail
  refine Calls.mono HIT.out ?_
  rintro en w1 ⟨rfl, hb1⟩
  have HG1 := Lib.hid (HG0.out.step hb1)
  clear hb1 HIT a0 a1
  obtain ⟨x0, x1, x2, x3, x4, x5, _, _, _, _, _, _⟩ := cells6 (HG1.out.blk (w.heap.size + 1) _ (.head _))
  have HITX := Lib.hid (hitx (some ⟨w1.heap.size, 0, none⟩) 1 (w1.alloc (.cells #[.string x.f0, .int .i64 x.f1, .int .i64 x.f2, .int .i64 x.f3, .string x.f4, .bool x.f5] 26)) (Nat.le_refl _) (C_one (blk_new w1 _)))
  go_wp2_with fail
  refine Calls.mono HITX.out ?_
  rintro en w2 ⟨rfl, hb2⟩
  have HG2 := Lib.hid ((HG1.out.step (bel1 _ _)).step hb2)
  clear hb2 HITX hitx x0 x1 x2 x3 x4 x5
  obtain ⟨a0, a1, -⟩ := cells2 (HG2.out.blk w.heap.size _ (.tail _ (.head _)))
  have HCK := Lib.hid (Check_calls t A c xs w2 (HG2.out.row A xs (.head _)) hsm HCAME.out.rg)
  rw [HCKB.out] at HCK
  go_wp2_with fail
  refine Calls.mono HCK.out ?_
  rintro en w3 ⟨rfl, hb3⟩
  have HG3 := Lib.hid (HG2.out.step hb3)
  clear hb3 HCK a0 a1
  go_wp2_with fail
  refine Calls.mono (wharflaw17_num.calls 0 0 _ rfl) ?_
  rintro en w4 ⟨rfl, hd4⟩
  have HG4 := Lib.hid (HG3.out.step hd4.below)
  clear hd4
  obtain ⟨a0, a1, -⟩ := cells2 (HG4.out.blk w.heap.size _ (.tail _ (.head _)))
  obtain ⟨x0, x1, x2, x3, x4, x5, _, _, _, _, _, _⟩ := cells6 (HG4.out.blk (w.heap.size + 1) _ (.head _))
  have HAP := Lib.hid (Apply_calls t A c xs 21 x w4 (HG4.out.row A xs (.head _)) hcap hsm (by omega) (mono_of_ord _ HGOOD.out.ord) hx0 hx4)
  rw [HAPV.out] at HAP
  go_wp2_with fail
  refine Calls.mono HAP.out ?_
  rintro en w6 ⟨B6, c6, rfl, hC6, hc6, hb6⟩
  have HG6 := Lib.hid ((HG4.out.step hb6).addR hC6 (show ys.length ≤ 4398046511104 by omega))
  clear hb6 HAP a0 a1 x0 x1 x2 x3 x4 x5 hC6
  go_upto_region 4 with fail
  have HG7 := Lib.hid ((HG6.out.step (bel1 w6 (.cells #[.slice B6 ys.length c6, .int .i64 t] 24))).addB (blk_new w6 (.cells #[.slice B6 ys.length c6, .int .i64 t] 24)))
  obtain ⟨W7, hW7⟩ : ∃ W7, W7 = w6.alloc (.cells #[.slice B6 ys.length c6, .int .i64 t] 24) := ⟨_, rfl⟩
  rw [← hW7] at HG7
  rw [← hW7]
  obtain ⟨n8, hn8⟩ : ∃ n8, w6.heap.size = n8 := ⟨_, rfl⟩
  rw [hn8] at HG7
  rw [hn8]
  clear hW7 hn8
  obtain ⟨b0, b1, -⟩ := cells2 (HG7.out.blk n8 _ (.head _))
  have HCK := Lib.hid (Check_calls t B6 c6 ys W7 (HG7.out.row B6 ys (.head _)) hys HYR.out)
  rw [HCKY.out] at HCK
  go_wp2_with fail
  refine Calls.mono HCK.out ?_
  rintro en w8 ⟨rfl, hb8⟩
  have HG8 := Lib.hid (HG7.out.step hb8)
  clear hb8 HCK b0 b1
  go_wp2_with fail
  refine Calls.mono (wharflaw17_num.calls 0 0 _ rfl) ?_
  rintro en w9 ⟨rfl, hd9⟩
  have HG9 := Lib.hid (HG8.out.step hd9.below)
  clear hd9
  obtain ⟨b0, b1, -⟩ := cells2 (HG9.out.blk n8 _ (.head _))
  obtain ⟨a0, a1, -⟩ := cells2 (HG9.out.blk w.heap.size _ (.tail _ (.tail _ (.head _))))
  go_wp2_with fail
  go_loopw [10, 9] (fun v10 v9 wr => ∃ i : Nat, i ≤ xs.length ∧ v10 = .int .i64 i ∧ v9 = .int .i64 ((lostB (xs.take i) ys : Nat) : Int) ∧ Hid (GK w [(n8, .cells #[.slice B6 ys.length c6, .int .i64 t] 24 (0, 0)), (w.heap.size + 1, ib x), (w.heap.size, .cells #[.slice A xs.length c, .int .i64 t] 24 (0, 0))] [(B6, ys), (A, xs)] wr)) (fun v _ _ => xs.length - (intOf v).toNat)
  case atStart => exact ⟨0, Nat.zero_le _, rfl, rfl, HG9⟩
  case round =>
    obtain ⟨i, hi, rfl, rfl, HG10⟩ := hrel
    clear a0 a1 b0 b1
    obtain ⟨b0, b1, -⟩ := cells2 (HG10.out.blk n8 _ (.head _))
    obtain ⟨a0, a1, -⟩ := cells2 (HG10.out.blk w.heap.size _ (.tail _ (.tail _ (.head _))))
    have hli := lost_le (xs.take i) ys
    rw [List.length_take] at hli
    by_cases hlt : i < xs.length
    · have hlk := lost_take xs ys i hlt
      have HLK := Lib.hid hlk
      clear hlk
      go_wp2_with fail
      go_loopw [12, 11] (fun v12 v11 wv => ∃ j : Nat, j ≤ ys.length ∧ v12 = .int .i64 j ∧ v11 = .bool (foundI (ys.take j) xs[i]) ∧ Hid (GK w [(n8, .cells #[.slice B6 ys.length c6, .int .i64 t] 24 (0, 0)), (w.heap.size + 1, ib x), (w.heap.size, .cells #[.slice A xs.length c, .int .i64 t] 24 (0, 0))] [(B6, ys), (A, xs)] wv)) (fun v _ _ => ys.length - (intOf v).toNat)
      case atStart => exact ⟨0, Nat.zero_le _, rfl, rfl, HG10⟩
      case round =>
        obtain ⟨j, hj, rfl, rfl, HG11⟩ := hrel
        clear a0 a1 b0 b1
        obtain ⟨b0, b1, -⟩ := cells2 (HG11.out.blk n8 _ (.head _))
        by_cases hjl : j < ys.length
        · have hft := found_take ys xs[i] j hjl
          obtain ⟨ad, hA, _, _, _, _, _, _⟩ := at_T26 (HG11.out.row A xs (.tail _ (.head _))) (i : Int) (by omega) (by omega)
          obtain ⟨bd, hB, _, _, _, _, _, _⟩ := at_T26 (HG11.out.row B6 ys (.head _)) (j : Int) (by omega) (by omega)
          subst hA hB
          cases hf : foundI (ys.take j) xs[i] with
          | true =>
            rw [hf] at hft
            have HFT : Hid (foundI (ys.take (j + 1)) xs[i] = true) := Lib.hid (by rw [hft]; rfl)
            clear hft hf
            go_upto_region 16 with fail
            refine wp_region_quiet (C := GK w [(n8, .cells #[.slice (some bd) ys.length c6, .int .i64 t] 24 (0, 0)), (w.heap.size + 1, ib x), (w.heap.size, .cells #[.slice (some ad) xs.length c, .int .i64 t] 24 (0, 0))] [(some bd, ys), (some ad, xs)]) (by kernel_rfl) (by kernel_rfl) HG11.out.drew ?_
            dsimp only
            repeat (first | go_big_quiet_skip | (go_big_quiet_want; go_big_quiet_op; first | go_big_quiet_on | (refine ⟨_, fun _ _ => rfl, ?_⟩; go_big_quiet_on)))
            refine wpQuiet_nil ?_
            intro W hW
            have HW := Lib.hid hW
            clear hW b0 b1
            go_wp2_with fail
            exact ⟨⟨j + 1, by omega, by go_num, by rw [HFT.out], HW⟩, by simp [intOf]; omega⟩
          | false =>
            rw [hf] at hft
            have HFT : Hid (foundI (ys.take (j + 1)) xs[i] = sameI ys[j] xs[i]) := Lib.hid (by rw [hft]; rfl)
            clear hft hf
            go_upto_region 16 with fail
            refine wp_region_quiet (C := GK w [(n8, .cells #[.slice (some bd) ys.length c6, .int .i64 t] 24 (0, 0)), (w.heap.size + 1, ib x), (w.heap.size, .cells #[.slice (some ad) xs.length c, .int .i64 t] 24 (0, 0))] [(some bd, ys), (some ad, xs)]) (by kernel_rfl) (by kernel_rfl) HG11.out.drew ?_
            dsimp only
            repeat (first | go_big_quiet_skip | (go_big_quiet_want; go_big_quiet_op; first | go_big_quiet_on | (refine ⟨_, fun _ _ => rfl, ?_⟩; go_big_quiet_on)))
            go_big_quiet_want
            refine ⟨.slice (some bd) ys.length c6, fun W hW => ?_, ?_⟩
            · obtain ⟨s0, s1, -⟩ := cells2 (hW.blk n8 _ (.head _))
              clear hW
              go_simp
            go_big_quiet_on
            try simp only [Act.put, List.setIfInBounds_toArray, List.set_cons_zero, List.set_cons_succ]
            repeat (first | go_big_quiet_skip | (go_big_quiet_want; go_big_quiet_op; first | go_big_quiet_on | (refine ⟨_, fun _ _ => rfl, ?_⟩; go_big_quiet_on)))
            go_big_quiet_want
            refine ⟨iv ys[j], fun W hW => ?_, ?_⟩
            · obtain ⟨ad', hA', p0, p1, p2, p3, p4, p5⟩ := at_T26 (hW.row (some bd) ys (.head _)) (j : Int) (by omega) (by omega)
              rw [rd_at ys _ hjl] at p0 p1 p2 p3 p4 p5
              simp only [Int.toNat_natCast] at p0 p1 p2 p3 p4 p5
              obtain rfl := Option.some.inj hA'
              clear hW hA'
              go_simp
            go_big_quiet_on
            try simp only [Act.put, List.setIfInBounds_toArray, List.set_cons_zero, List.set_cons_succ]
            repeat (first | go_big_quiet_skip | (go_big_quiet_want; go_big_quiet_op; first | go_big_quiet_on | (refine ⟨_, fun _ _ => rfl, ?_⟩; go_big_quiet_on)))
            go_big_quiet_want
            refine ⟨.slice (some ad) xs.length c, fun W hW => ?_, ?_⟩
            · obtain ⟨s0, s1, -⟩ := cells2 (hW.blk w.heap.size _ (.tail _ (.tail _ (.head _))))
              clear hW
              go_simp
            go_big_quiet_on
            try simp only [Act.put, List.setIfInBounds_toArray, List.set_cons_zero, List.set_cons_succ]
            repeat (first | go_big_quiet_skip | (go_big_quiet_want; go_big_quiet_op; first | go_big_quiet_on | (refine ⟨_, fun _ _ => rfl, ?_⟩; go_big_quiet_on)))
            go_big_quiet_want
            refine ⟨iv xs[i], fun W hW => ?_, ?_⟩
            · obtain ⟨ad', hA', p0, p1, p2, p3, p4, p5⟩ := at_T26 (hW.row (some ad) xs (.tail _ (.head _))) (i : Int) (by omega) (by omega)
              rw [rd_at xs _ hlt] at p0 p1 p2 p3 p4 p5
              simp only [Int.toNat_natCast] at p0 p1 p2 p3 p4 p5
              obtain rfl := Option.some.inj hA'
              clear hW hA'
              go_simp
            go_big_quiet_on
            try simp only [Act.put, List.setIfInBounds_toArray, List.set_cons_zero, List.set_cons_succ]
            go_big_quiet_want
            refine ⟨.bool (sameI ys[j] xs[i]), fun W hW => ?_, ?_⟩
            · clear hW
              unfold sameI
              go_simp
            go_big_quiet_on
            try simp only [Act.put, List.setIfInBounds_toArray, List.set_cons_zero, List.set_cons_succ]
            repeat (first | go_big_quiet_skip | (go_big_quiet_want; go_big_quiet_op; first | go_big_quiet_on | (refine ⟨_, fun _ _ => rfl, ?_⟩; go_big_quiet_on)))
            refine wpQuiet_nil ?_
            intro W hW
            have HW := Lib.hid hW
            clear hW b0 b1
            go_wp2_with fail
            exact ⟨⟨j + 1, by omega, by go_num, by rw [HFT.out], HW⟩, by simp [intOf]; omega⟩
        · obtain rfl : j = ys.length := by omega
          rw [List.take_length]
          cases hf : foundI ys xs[i] with
          | true =>
            have hlk : lostB (xs.take (i + 1)) ys = lostB (xs.take i) ys := by rw [HLK.out, hf]; rfl
            clear hf
            go_wp2_with fail
            go_roundw
            case rel => exact ⟨i + 1, by omega, by go_num, by rw [hlk], HG11⟩
            case measure => simp [intOf]; omega
          | false =>
            have hlk : lostB (xs.take (i + 1)) ys = lostB (xs.take i) ys + 1 := by rw [HLK.out, hf]; rfl
            clear hf
            go_wp2_with fail
            go_roundw
            case rel => exact ⟨i + 1, by omega, by go_num, by rw [hlk]; go_num, HG11⟩
            case measure => simp [intOf]; omega
    · obtain rfl : i = xs.length := by omega
      rw [List.take_length]
      clear hli
      have hl0 := HL0.out
      have hyx := HYX.out
      go_wp2_with fail
      refine Calls.mono (live_calls _) ?_
      rintro en w19 ⟨rfl, hb19⟩
      have HG19 := Lib.hid (HG10.out.step hb19)
      clear hb19
      go_wp2_with fail
      go_ret
      exact ⟨rfl, HG19.out.2.2⟩

set_option maxHeartbeats 1500000 in
set_option maxRecDepth 1000000 in
theorem Stays_Del (t : Int) (A : Option Addr) (c : Nat) (xs : List S26) (x : S26) (w : World) (hC : Kd.C k26 w A xs.length xs) (hcap : xs.length ≤ c) (hcame : Came xs) (hit : ∀ (A : Option Addr) (c : Nat) w, xs.length ≤ c → Kd.C k26 w A xs.length xs → Calls Tryz.prog 6 #[.slice A xs.length c] w fun e w' => e = .returned (.bool true) ∧ Below w.heap.size w w') (hitx : ∀ (A : Option Addr) (c : Nat) w, 1 ≤ c → Kd.C k26 w A 1 [x] → Calls Tryz.prog 6 #[.slice A 1 c] w fun e w' => e = .returned (.bool true) ∧ Below w.heap.size w w')  (hsm : Sm xs) (hlen : xs.length ≤ 120) (hck : (if checkB xs t = true then (0 : Int) else 170) = 0) (hgood : Good xs) (hx0 : x.f0.size ≤ 17592186044416) (hx4 : x.f4.size ≤ 17592186044416) (ys : List S26) (hap : applyB xs 22 x = (ys, 0)) (hys : Sm ys) (hyr : Rg ys) (hyl : ys.length ≤ 120) (hcky : (if checkB ys t = true then (0 : Int) else 170) = 0) (hl0 : lostB xs ys = 1) (hyx : ys.length + 1 = xs.length) :
    Calls Tryz.prog 3 #[.agg #[.slice A xs.length c, .int .i64 t], .int .i64 22, iv x] w fun e w' => e = .returned (.bool true) ∧ Below w.heap.size w w' := by
  have HCKB := Lib.hid hck
  have HGOOD := Lib.hid hgood
  have HAPV := Lib.hid hap
  have HCKY := Lib.hid hcky
  have HYR := Lib.hid hyr
  clear hck hgood hap hcky hyr
  have HYX := Lib.hid hyx
  have HL0 := Lib.hid hl0
  clear hyx hl0
  have hG0 : GK w [(w.heap.size + 1, ib x), (w.heap.size, .cells #[.slice A xs.length c, .int .i64 t] 24 (0, 0))] [(A, xs)] ((w.alloc (.cells #[.slice A xs.length c, .int .i64 t] 24)).alloc (ib x)) := by
    refine GK.addB ?_ (by rw [← World.size_alloc w (.cells #[.slice A xs.length c, .int .i64 t] 24)]; exact blk_new _ _)
    refine GK.step ?_ (bel1 _ _)
    exact (((GK.start w).step (bel1 _ _)).addR (Kd.C_below hC (bel1 _ _)) hcame.1 |>.addB (blk_new _ _))
  have HG0 := Lib.hid hG0
  obtain ⟨V, hV⟩ : ∃ V, (w.alloc (.cells #[.slice A xs.length c, .int .i64 t] 24)).alloc (ib x) = V := ⟨_, rfl⟩
  rw [hV] at HG0
  have HV := Lib.hid hV
  have HIT := Lib.hid (hit A c V hcap (HG0.out.row A xs (.head _)))
  have HCAME := Lib.hid hcame
  clear hV hit hcame hC hG0
  obtain ⟨a0, a1, -⟩ := cells2 (HG0.out.blk w.heap.size _ (.tail _ (.head _)))
  go_enter Tryz.func3, Tryz.ntmps3
  go_upto_region 1 with fail
  have hV' : (w.alloc (.cells #[.slice A xs.length c, .int .i64 t] 24)).alloc (.cells #[.string x.f0, .int .i64 x.f1, .int .i64 x.f2, .int .i64 x.f3, .string x.f4, .bool x.f5] 26) = V := HV.out
  rw [hV']
  clear hV'
  go_wp2_with fail
  refine Calls.mono HIT.out ?_
  rintro en w1 ⟨rfl, hb1⟩
  have HG1 := Lib.hid (HG0.out.step hb1)
  clear hb1 HIT a0 a1
  obtain ⟨x0, x1, x2, x3, x4, x5, _, _, _, _, _, _⟩ := cells6 (HG1.out.blk (w.heap.size + 1) _ (.head _))
  have HITX := Lib.hid (hitx (some ⟨w1.heap.size, 0, none⟩) 1 (w1.alloc (.cells #[.string x.f0, .int .i64 x.f1, .int .i64 x.f2, .int .i64 x.f3, .string x.f4, .bool x.f5] 26)) (Nat.le_refl _) (C_one (blk_new w1 _)))
  go_wp2_with fail
  refine Calls.mono HITX.out ?_
  rintro en w2 ⟨rfl, hb2⟩
  have HG2 := Lib.hid ((HG1.out.step (bel1 _ _)).step hb2)
  clear hb2 HITX hitx x0 x1 x2 x3 x4 x5
  obtain ⟨a0, a1, -⟩ := cells2 (HG2.out.blk w.heap.size _ (.tail _ (.head _)))
  have HCK := Lib.hid (Check_calls t A c xs w2 (HG2.out.row A xs (.head _)) hsm HCAME.out.rg)
  rw [HCKB.out] at HCK
  go_wp2_with fail
  refine Calls.mono HCK.out ?_
  rintro en w3 ⟨rfl, hb3⟩
  have HG3 := Lib.hid (HG2.out.step hb3)
  clear hb3 HCK a0 a1
  go_wp2_with fail
  refine Calls.mono (wharflaw17_num.calls 0 0 _ rfl) ?_
  rintro en w4 ⟨rfl, hd4⟩
  have HG4 := Lib.hid (HG3.out.step hd4.below)
  clear hd4
  obtain ⟨a0, a1, -⟩ := cells2 (HG4.out.blk w.heap.size _ (.tail _ (.head _)))
  obtain ⟨x0, x1, x2, x3, x4, x5, _, _, _, _, _, _⟩ := cells6 (HG4.out.blk (w.heap.size + 1) _ (.head _))
  have HAP := Lib.hid (Apply_calls t A c xs 22 x w4 (HG4.out.row A xs (.head _)) hcap hsm (by omega) (mono_of_ord _ HGOOD.out.ord) hx0 hx4)
  rw [HAPV.out] at HAP
  go_wp2_with fail
  refine Calls.mono HAP.out ?_
  rintro en w6 ⟨B6, c6, rfl, hC6, hc6, hb6⟩
  have HG6 := Lib.hid ((HG4.out.step hb6).addR hC6 (show ys.length ≤ 4398046511104 by omega))
  clear hb6 HAP a0 a1 x0 x1 x2 x3 x4 x5 hC6
  go_upto_region 4 with fail
  have HG7 := Lib.hid ((HG6.out.step (bel1 w6 (.cells #[.slice B6 ys.length c6, .int .i64 t] 24))).addB (blk_new w6 (.cells #[.slice B6 ys.length c6, .int .i64 t] 24)))
  obtain ⟨W7, hW7⟩ : ∃ W7, W7 = w6.alloc (.cells #[.slice B6 ys.length c6, .int .i64 t] 24) := ⟨_, rfl⟩
  rw [← hW7] at HG7
  rw [← hW7]
  obtain ⟨n8, hn8⟩ : ∃ n8, w6.heap.size = n8 := ⟨_, rfl⟩
  rw [hn8] at HG7
  rw [hn8]
  clear hW7 hn8
  obtain ⟨b0, b1, -⟩ := cells2 (HG7.out.blk n8 _ (.head _))
  have HCK := Lib.hid (Check_calls t B6 c6 ys W7 (HG7.out.row B6 ys (.head _)) hys HYR.out)
  rw [HCKY.out] at HCK
  go_wp2_with fail
  refine Calls.mono HCK.out ?_
  rintro en w8 ⟨rfl, hb8⟩
  have HG8 := Lib.hid (HG7.out.step hb8)
  clear hb8 HCK b0 b1
  go_wp2_with fail
  refine Calls.mono (wharflaw17_num.calls 0 0 _ rfl) ?_
  rintro en w9 ⟨rfl, hd9⟩
  have HG9 := Lib.hid (HG8.out.step hd9.below)
  clear hd9
  obtain ⟨b0, b1, -⟩ := cells2 (HG9.out.blk n8 _ (.head _))
  obtain ⟨a0, a1, -⟩ := cells2 (HG9.out.blk w.heap.size _ (.tail _ (.tail _ (.head _))))
  go_wp2_with fail
  go_loopw [10, 9] (fun v10 v9 wr => ∃ i : Nat, i ≤ xs.length ∧ v10 = .int .i64 i ∧ v9 = .int .i64 ((lostB (xs.take i) ys : Nat) : Int) ∧ Hid (GK w [(n8, .cells #[.slice B6 ys.length c6, .int .i64 t] 24 (0, 0)), (w.heap.size + 1, ib x), (w.heap.size, .cells #[.slice A xs.length c, .int .i64 t] 24 (0, 0))] [(B6, ys), (A, xs)] wr)) (fun v _ _ => xs.length - (intOf v).toNat)
  case atStart => exact ⟨0, Nat.zero_le _, rfl, rfl, HG9⟩
  case round =>
    obtain ⟨i, hi, rfl, rfl, HG10⟩ := hrel
    clear a0 a1 b0 b1
    obtain ⟨b0, b1, -⟩ := cells2 (HG10.out.blk n8 _ (.head _))
    obtain ⟨a0, a1, -⟩ := cells2 (HG10.out.blk w.heap.size _ (.tail _ (.tail _ (.head _))))
    have hli := lost_le (xs.take i) ys
    rw [List.length_take] at hli
    by_cases hlt : i < xs.length
    · have hlk := lost_take xs ys i hlt
      have HLK := Lib.hid hlk
      clear hlk
      go_wp2_with fail
      go_loopw [12, 11] (fun v12 v11 wv => ∃ j : Nat, j ≤ ys.length ∧ v12 = .int .i64 j ∧ v11 = .bool (foundI (ys.take j) xs[i]) ∧ Hid (GK w [(n8, .cells #[.slice B6 ys.length c6, .int .i64 t] 24 (0, 0)), (w.heap.size + 1, ib x), (w.heap.size, .cells #[.slice A xs.length c, .int .i64 t] 24 (0, 0))] [(B6, ys), (A, xs)] wv)) (fun v _ _ => ys.length - (intOf v).toNat)
      case atStart => exact ⟨0, Nat.zero_le _, rfl, rfl, HG10⟩
      case round =>
        obtain ⟨j, hj, rfl, rfl, HG11⟩ := hrel
        clear a0 a1 b0 b1
        obtain ⟨b0, b1, -⟩ := cells2 (HG11.out.blk n8 _ (.head _))
        by_cases hjl : j < ys.length
        · have hft := found_take ys xs[i] j hjl
          obtain ⟨ad, hA, _, _, _, _, _, _⟩ := at_T26 (HG11.out.row A xs (.tail _ (.head _))) (i : Int) (by omega) (by omega)
          obtain ⟨bd, hB, _, _, _, _, _, _⟩ := at_T26 (HG11.out.row B6 ys (.head _)) (j : Int) (by omega) (by omega)
          subst hA hB
          cases hf : foundI (ys.take j) xs[i] with
          | true =>
            rw [hf] at hft
            have HFT : Hid (foundI (ys.take (j + 1)) xs[i] = true) := Lib.hid (by rw [hft]; rfl)
            clear hft hf
            go_upto_region 16 with fail
            refine wp_region_quiet (C := GK w [(n8, .cells #[.slice (some bd) ys.length c6, .int .i64 t] 24 (0, 0)), (w.heap.size + 1, ib x), (w.heap.size, .cells #[.slice (some ad) xs.length c, .int .i64 t] 24 (0, 0))] [(some bd, ys), (some ad, xs)]) (by kernel_rfl) (by kernel_rfl) HG11.out.drew ?_
            dsimp only
            repeat (first | go_big_quiet_skip | (go_big_quiet_want; go_big_quiet_op; first | go_big_quiet_on | (refine ⟨_, fun _ _ => rfl, ?_⟩; go_big_quiet_on)))
            refine wpQuiet_nil ?_
            intro W hW
            have HW := Lib.hid hW
            clear hW b0 b1
            go_wp2_with fail
            exact ⟨⟨j + 1, by omega, by go_num, by rw [HFT.out], HW⟩, by simp [intOf]; omega⟩
          | false =>
            rw [hf] at hft
            have HFT : Hid (foundI (ys.take (j + 1)) xs[i] = sameI ys[j] xs[i]) := Lib.hid (by rw [hft]; rfl)
            clear hft hf
            go_upto_region 16 with fail
            refine wp_region_quiet (C := GK w [(n8, .cells #[.slice (some bd) ys.length c6, .int .i64 t] 24 (0, 0)), (w.heap.size + 1, ib x), (w.heap.size, .cells #[.slice (some ad) xs.length c, .int .i64 t] 24 (0, 0))] [(some bd, ys), (some ad, xs)]) (by kernel_rfl) (by kernel_rfl) HG11.out.drew ?_
            dsimp only
            repeat (first | go_big_quiet_skip | (go_big_quiet_want; go_big_quiet_op; first | go_big_quiet_on | (refine ⟨_, fun _ _ => rfl, ?_⟩; go_big_quiet_on)))
            go_big_quiet_want
            refine ⟨.slice (some bd) ys.length c6, fun W hW => ?_, ?_⟩
            · obtain ⟨s0, s1, -⟩ := cells2 (hW.blk n8 _ (.head _))
              clear hW
              go_simp
            go_big_quiet_on
            try simp only [Act.put, List.setIfInBounds_toArray, List.set_cons_zero, List.set_cons_succ]
            repeat (first | go_big_quiet_skip | (go_big_quiet_want; go_big_quiet_op; first | go_big_quiet_on | (refine ⟨_, fun _ _ => rfl, ?_⟩; go_big_quiet_on)))
            go_big_quiet_want
            refine ⟨iv ys[j], fun W hW => ?_, ?_⟩
            · obtain ⟨ad', hA', p0, p1, p2, p3, p4, p5⟩ := at_T26 (hW.row (some bd) ys (.head _)) (j : Int) (by omega) (by omega)
              rw [rd_at ys _ hjl] at p0 p1 p2 p3 p4 p5
              simp only [Int.toNat_natCast] at p0 p1 p2 p3 p4 p5
              obtain rfl := Option.some.inj hA'
              clear hW hA'
              go_simp
            go_big_quiet_on
            try simp only [Act.put, List.setIfInBounds_toArray, List.set_cons_zero, List.set_cons_succ]
            repeat (first | go_big_quiet_skip | (go_big_quiet_want; go_big_quiet_op; first | go_big_quiet_on | (refine ⟨_, fun _ _ => rfl, ?_⟩; go_big_quiet_on)))
            go_big_quiet_want
            refine ⟨.slice (some ad) xs.length c, fun W hW => ?_, ?_⟩
            · obtain ⟨s0, s1, -⟩ := cells2 (hW.blk w.heap.size _ (.tail _ (.tail _ (.head _))))
              clear hW
              go_simp
            go_big_quiet_on
            try simp only [Act.put, List.setIfInBounds_toArray, List.set_cons_zero, List.set_cons_succ]
            repeat (first | go_big_quiet_skip | (go_big_quiet_want; go_big_quiet_op; first | go_big_quiet_on | (refine ⟨_, fun _ _ => rfl, ?_⟩; go_big_quiet_on)))
            go_big_quiet_want
            refine ⟨iv xs[i], fun W hW => ?_, ?_⟩
            · obtain ⟨ad', hA', p0, p1, p2, p3, p4, p5⟩ := at_T26 (hW.row (some ad) xs (.tail _ (.head _))) (i : Int) (by omega) (by omega)
              rw [rd_at xs _ hlt] at p0 p1 p2 p3 p4 p5
              simp only [Int.toNat_natCast] at p0 p1 p2 p3 p4 p5
              obtain rfl := Option.some.inj hA'
              clear hW hA'
              go_simp
            go_big_quiet_on
            try simp only [Act.put, List.setIfInBounds_toArray, List.set_cons_zero, List.set_cons_succ]
            go_big_quiet_want
            refine ⟨.bool (sameI ys[j] xs[i]), fun W hW => ?_, ?_⟩
            · clear hW
              unfold sameI
              go_simp
            go_big_quiet_on
            try simp only [Act.put, List.setIfInBounds_toArray, List.set_cons_zero, List.set_cons_succ]
            repeat (first | go_big_quiet_skip | (go_big_quiet_want; go_big_quiet_op; first | go_big_quiet_on | (refine ⟨_, fun _ _ => rfl, ?_⟩; go_big_quiet_on)))
            refine wpQuiet_nil ?_
            intro W hW
            have HW := Lib.hid hW
            clear hW b0 b1
            go_wp2_with fail
            exact ⟨⟨j + 1, by omega, by go_num, by rw [HFT.out], HW⟩, by simp [intOf]; omega⟩
        · obtain rfl : j = ys.length := by omega
          rw [List.take_length]
          cases hf : foundI ys xs[i] with
          | true =>
            have hlk : lostB (xs.take (i + 1)) ys = lostB (xs.take i) ys := by rw [HLK.out, hf]; rfl
            clear hf
            go_wp2_with fail
            go_roundw
            case rel => exact ⟨i + 1, by omega, by go_num, by rw [hlk], HG11⟩
            case measure => simp [intOf]; omega
          | false =>
            have hlk : lostB (xs.take (i + 1)) ys = lostB (xs.take i) ys + 1 := by rw [HLK.out, hf]; rfl
            clear hf
            go_wp2_with fail
            go_roundw
            case rel => exact ⟨i + 1, by omega, by go_num, by rw [hlk]; go_num, HG11⟩
            case measure => simp [intOf]; omega
    · obtain rfl : i = xs.length := by omega
      rw [List.take_length]
      rw [HL0.out]
      have hyx := HYX.out
      go_wp2_with fail
      refine Calls.mono (live_calls _) ?_
      rintro en w19 ⟨rfl, hb19⟩
      have HG19 := Lib.hid (HG10.out.step hb19)
      clear hb19
      go_wp2_with fail
      go_ret
      exact ⟨rfl, HG19.out.2.2⟩


theorem ListStays_calls (t k : Int) (A : Option Addr) (c : Nat) (xs : List S26) (x : S26) (w : World) (hC : Kd.C k26 w A xs.length xs) (hcap : xs.length ≤ c) (hcame : Came xs) (hx : Came [x]) :
    Calls Tryz.prog 3 #[.agg #[.slice A xs.length c, .int .i64 t], .int .i64 k, iv x] w fun e w' => e = .returned (.bool true) ∧ Below w.heap.size w w' := by
  obtain ⟨b, hb, hit⟩ := items_all xs hcame
  obtain ⟨b2, hb2, hitx⟩ := items_all [x] hx
  cases b with
  | false => exact Stays_no1 t k A c xs x w hC hcap hcame hit
  | true =>
    cases b2 with
    | false => exact Stays_no2 t k A c xs x w hC hcap hcame hit hitx
    | true =>
      have hlen := (hb rfl).1
      have hsm := sm_of (hb rfl)
      have hsx := (hb2 rfl).2 x (by simp)
      have hrx := hx.rg x (by simp)
      cases hck : checkB xs t with
      | false => exact Stays_no3 t k A c xs x w hC hcap hcame hit hitx hsm (by rw [hck]; rfl)
      | true =>
        obtain ⟨h100, ht0, ht1, hgood⟩ := (check_iff xs t).mp hck
        rcases stays_cases hgood h100 k x with ⟨cc, hc0, hap⟩ | ⟨ys, hap, hgy, hyl, hmem, hcase⟩
        · exact Stays_refused t k A c xs x w hC hcap hcame hit hitx hsm hlen (by rw [hck]; rfl) hgood (by omega) (by omega) cc hap hsm hcame.rg hlen (by rw [hck]; rfl) (by simpa using hc0) (by simpa using hc0)
        · have hys : Sm ys := ⟨by omega, fun u hu => by
            rcases hmem u hu with h | rfl
            · exact hsm.2 u h
            · exact ⟨by omega, by omega⟩⟩
          have hyr : Rg ys := fun u hu => by
            rcases hmem u hu with h | rfl
            · exact hcame.rg u h
            · exact hrx
          have hcy : checkB ys t = true := (check_iff ys t).mpr ⟨hyl, ht0, ht1, hgy⟩
          rcases hcase with ⟨rfl, h1, h2⟩ | ⟨rfl, h1, h2⟩ | ⟨rfl, h1, h2⟩
          · exact Stays_Add t A c xs x w hC hcap hcame hit hitx hsm hlen (by rw [hck]; rfl) hgood (by omega) (by omega) ys hap hys hyr (by omega) (by rw [hcy]; rfl) h1 h2
          · exact Stays_Set t A c xs x w hC hcap hcame hit hitx hsm hlen (by rw [hck]; rfl) hgood (by omega) (by omega) ys hap hys hyr (by omega) (by rw [hcy]; rfl) h1 h2
          · exact Stays_Del t A c xs x w hC hcap hcame hit hitx hsm hlen (by rw [hck]; rfl) hgood (by omega) (by omega) ys hap hys hyr (by omega) (by rw [hcy]; rfl) h1 h2

end Go.Proofs.YtdfppdkhiejbdaaGreatDoor.Li

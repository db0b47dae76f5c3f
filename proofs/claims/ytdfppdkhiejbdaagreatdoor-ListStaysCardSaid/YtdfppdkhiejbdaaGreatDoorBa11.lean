import Derived.Test.YtdfppdkhiejbdaaGreatDoorBa10
import Derived.Test.YtdfppdkhiejbdaaGreatDoorBa9
import Derived.Deep.DeepCutAuto
import Derived.Deep.LoopGhost
import Derived.RegionTactic
import Derived.Deep.RegionWith
import Derived.BigQuiet
/- Package list: Check. -/
set_option linter.unusedVariables false
set_option linter.unusedSimpArgs false
namespace Go.Proofs.YtdfppdkhiejbdaaGreatDoor.Li
open Go.RowKit Go.Proofs.YtdfppdkhiejbdaaGreatDoor.PList Go.Proofs.YtdfppdkhiejbdaaGreatDoorW.PrintWords

/-- What no two items may share. -/
def keyB (x : S26) : S26 := if isG x then ⟨x.f0, 0, 0, x.f3, ⟨#[]⟩, false⟩ else ⟨Lg.normB x.f0, 0, 0, x.f3, ⟨#[]⟩, false⟩

theorem key_calls (x : S26) (w : World) (h0 : x.f0.size ≤ 17592186044416) : Calls Tryz.prog 17 #[iv x] w fun e w' => e = .returned (iv (keyB x)) ∧ Below w.heap.size w w' := by
  refine list_key.calls x.f0 x.f1 x.f2 x.f3 x.f4 x.f5 _ _ _ _ _ _ w ?_
  unfold list_key.f list_isGroup.f Ext.handle_Norm.f keyB isG
  rw [if_pos h0]
  simp only [Option.bind_some]
  by_cases h : (x.f3 == 1) = true
  · rw [if_pos h, if_pos h]
  · rw [if_neg h, if_neg h]

theorem norm_size (s : ByteArray) : (Lg.normB s).size ≤ s.size := by
  have h1 : (Lg.normB s).size = (Lg.noB ((Lg.bl s).map Plain.low)).length := by simp [Lg.normB, ByteArray.size]
  have h2 := List.length_filter_le (fun c : UInt8 => c != 32) ((Lg.bl s).map Plain.low)
  rw [List.length_map, Lg.bl_size] at h2
  unfold Lg.noB at h1
  omega

theorem key_fine (x : S26) (h0 : x.f0.size ≤ 17592186044416) (h3 : (Lit.int .i64 x.f3).wf = true) : SetK.Kx (keyB x) := by
  have := norm_size x.f0
  have hz : (Lit.int .i64 0).wf = true := by decide
  have he : (⟨#[]⟩ : ByteArray).size ≤ maxLen := by decide
  unfold keyB
  split
  · exact ⟨by show x.f0.size ≤ maxLen; unfold maxLen; omega, hz, hz, h3, he⟩
  · exact ⟨by show (Lg.normB x.f0).size ≤ maxLen; unfold maxLen; omega, hz, hz, h3, he⟩

def prevB (p : Option S26) (x : S26) : Bool := match p with | none => false | some y => decide (0 ≤ cmpB y x)
def dupB (seen : List S26) (k : S26) : Bool := seen.any fun y => !neI y k
theorem dup_iff (seen : List S26) (k : S26) : dupB seen k = true ↔ k ∈ seen := by
  unfold dupB
  rw [List.any_eq_true]
  constructor
  · rintro ⟨y, hy, h⟩
    have : neI y k = false := by simpa using h
    rw [← (neI_iff y k).mp this]; exact hy
  · intro h
    exact ⟨k, h, by rw [(neI_iff k k).mpr rfl]; rfl⟩
theorem dup_kb (seen : List S26) (k : S26) (hs : ∀ y ∈ seen, SetK.Kx y) (hk : SetK.Kx k) : decide (SetK.kb k ∈ seen.map SetK.kb) = dupB seen k := by
  rw [Bool.eq_iff_iff, dup_iff, decide_eq_true_eq, List.mem_map]
  exact ⟨fun ⟨y, hy, e⟩ => by rw [← SetK.kb_inj (hs y hy) hk e]; exact hy, fun h => ⟨k, h, rfl⟩⟩

/-- What an item may not be, behind others. -/
def badB (xs : List S26) (p : Option S26) (seen : List S26) (x : S26) : Bool := dupB seen (keyB x) || !itemB x || !fitsB xs x || prevB p x
def checkFrom (xs : List S26) : Option S26 → List S26 → List S26 → Bool
  | _, _, [] => true
  | p, seen, x :: t => !badB xs p seen x && checkFrom xs (some x) (keyB x :: seen) t
/-- Whether a list may be. -/
def checkB (xs : List S26) (t : Int) : Bool := decide ((xs.length : Int) ≤ 100) && decide (0 ≤ t) && decide (t < 4294967296) && checkFrom xs none [] xs

/-- What holds in a round of Check, whatever is called. -/
def Gk (w : World) (o0 : Obj) (n5 n6 : Nat) (x k : S26) (cn : Nat) (L : List (List UInt8)) (W : World) : Prop :=
  W.heap[w.heap.size]? = some o0 ∧ W.heap[n5]? = some (ib x) ∧ W.heap[n6]? = some (ib k) ∧ SetK.SetK W (w.heap.size + 1) cn L ∧ Below w.heap.size w W
theorem Gk.step {w : World} {o0 : Obj} {n5 n6 : Nat} {x k : S26} {cn : Nat} {L : List (List UInt8)} {W W' : World} (h : Gk w o0 n5 n6 x k cn L W) (hb : Below W.heap.size W W') : Gk w o0 n5 n6 x k cn L W' :=
  ⟨blk_below h.1 hb, blk_below h.2.1 hb, blk_below h.2.2.1 hb, SetK.below h.2.2.2.1 hb, up h.2.2.2.2 hb⟩
theorem Gk.drew {w : World} {o0 : Obj} {n5 n6 : Nat} {x k : S26} {cn : Nat} {L : List (List UInt8)} {W : World} (h : Gk w o0 n5 n6 x k cn L W) : Gk w o0 n5 n6 x k cn L W.drew := h.step (Below.refl _ _).drew

theorem may_g {w : World} {o0 : Obj} {n5 n6 : Nat} {x k : S26} {cn : Nat} {L : List (List UInt8)} (h0 : x.f0.size ≤ 17592186044416) (h4 : x.f4.size ≤ 17592186044416) (W : World) (h : Gk w o0 n5 n6 x k cn L W) :
    Calls Tryz.prog 18 #[iv x] W fun e w' => e = .returned (.bool (itemB x)) ∧ Gk w o0 n5 n6 x k cn L w' :=
  Calls.mono (may_calls x W h0 h4) fun e w' ⟨he, hb⟩ => ⟨he, h.step hb⟩
theorem fits_g {w : World} {o0 : Obj} {n5 n6 : Nat} {x k : S26} {cn : Nat} {L : List (List UInt8)} {A : Option Addr} {c : Nat} {xs : List S26} (hC : Kd.C k26 w A xs.length xs) (hs : Sm xs) (W : World) (h : Gk w o0 n5 n6 x k cn L W) :
    Calls Tryz.prog 19 #[.slice A xs.length c, iv x] W fun e w' => e = .returned (.bool (fitsB xs x)) ∧ Gk w o0 n5 n6 x k cn L w' :=
  Calls.mono (fits_calls x A c xs W (Kd.C_below hC h.2.2.2.2) hs) fun e w' ⟨he, hb⟩ => ⟨he, h.step hb⟩
theorem cmp_g {w : World} {o0 : Obj} {n5 n6 : Nat} {x k : S26} {cn : Nat} {L : List (List UInt8)} (y : S26) (W : World) (h : Gk w o0 n5 n6 x k cn L W) :
    Calls Tryz.prog 20 #[iv y, iv x] W fun e w' => e = .returned (.int .i64 (cmpB y x)) ∧ Gk w o0 n5 n6 x k cn L w' :=
  Calls.mono (compareItems_calls y x W) fun e w' ⟨he, hb⟩ => ⟨he, h.step hb⟩

theorem cells2 {w : World} {g : Nat} {t : TypeId} {a b : Value} (h : w.heap[g]? = some (.cells #[a, b] t (0, 0))) : w.cell? ⟨g, 0, none⟩ = some a ∧ w.cell? ⟨g, 1, none⟩ = some b ∧ True := ⟨blk_cell h 0, blk_cell h 1, trivial⟩
theorem cells2f {w : World} {g : Nat} {t : TypeId} {a b : Value} (h : w.heap[g]? = some (.cells #[a, b] t (0, 0))) : (∀ i, w.frozen? ⟨g, i, none⟩ = false) ∧ True := ⟨blk_frozen h, trivial⟩

/-- The item ahead. -/
def ahead (xs : List S26) : Nat → Option S26
  | 0 => none
  | k + 1 => xs[k]?
theorem prev_succ (xs : List S26) (j : Nat) (hj : j < xs.length) (x : S26) : prevB (ahead xs (j + 1)) x = decide (0 ≤ cmpB xs[j] x) := by
  show prevB xs[j]? x = _
  rw [List.getElem?_eq_getElem hj]; rfl

set_option maxHeartbeats 4000000 in
set_option maxRecDepth 1000000 in
theorem Check_calls (t : Int) (A : Option Addr) (c : Nat) (xs : List S26) (w : World) (hC : Kd.C k26 w A xs.length xs) (hs : Sm xs) (hr : Rg xs) :
    Calls Tryz.prog 8 #[.agg #[.slice A xs.length c, .int .i64 t]] w fun e w' => e = .returned (.int .i64 (if checkB xs t then 0 else 170)) ∧ Below w.heap.size w w' := by
  have hmm := @run_makeMap Tryz.prog
  obtain ⟨R, hR⟩ : ∃ R, (if checkB xs t then (0 : Int) else 170) = R := ⟨_, rfl⟩
  rw [hR]
  have HRR := Lib.hid hR
  clear hR
  by_cases h1 : (xs.length : Int) ≤ 100
  · by_cases h2 : 0 ≤ t
    · by_cases h3 : t < 4294967296
      · have hmade := SetK.made (w.alloc (.cells #[.slice A xs.length c, .int .i64 t] 24))
        rw [World.size_alloc] at hmade
        have HM := Lib.hid hmade
        have HC := Lib.hid hC
        have HS := Lib.hid hs
        have HR2 := Lib.hid hr
        have HR : Hid ((if checkFrom xs none [] xs then (0 : Int) else 170) = R) := Lib.hid (by rw [← HRR.out]; unfold checkB; simp [h1, h2, h3])
        clear hC hs hr hmade
        go_enter Tryz.func8, Tryz.ntmps8
        go_wp2_with fail
        go_loopg [25] (xs.length + 1) (fun gk v25 wr => ∃ (k cn : Nat) (seen : List S26), k ≤ xs.length ∧ gk + k = xs.length + 1 ∧ v25 = .int .i64 (k : Int) ∧ cn ≤ k ∧
          Hid (wr.heap[w.heap.size]? = some (.cells #[.slice A xs.length c, .int .i64 t] 24 (0, 0))) ∧ Hid (SetK.SetK wr (w.heap.size + 1) cn (seen.map SetK.kb)) ∧ Hid (∀ y ∈ seen, SetK.Kx y) ∧
          Hid (checkFrom xs none [] xs = checkFrom xs (ahead xs k) seen (xs.drop k)) ∧ Hid (Below w.heap.size w wr))
        case atStart =>
          exact ⟨0, 0, [], Nat.zero_le _, rfl, rfl, Nat.le_refl _, blk_alloc (blk_new w _) _, HM.out, Lib.hid (fun y hy => by cases hy), Lib.hid rfl, up (bel1 _ _) (bel1 _ _)⟩
        case round =>
          obtain ⟨k, cn, seen, hk, hgk, rfl, hcn, HBox, HSet, HKx, HEq, HB⟩ := hrel
          clear HM hmm
          by_cases hlt : k < xs.length
          · have hx := List.getElem_mem hlt
            have hx0 := (HS.out.2 _ hx).1
            have hx4 := (HS.out.2 _ hx).2
            have hCr := Kd.C_below HC.out HB.out
            obtain ⟨ad, hA, q0, q1, q2, q3, q4, q5⟩ := at_T26 hCr (k : Int) (by omega) (by omega)
            have hrd : rd_T26 xs (k : Int) = xs[k] := by simp [rd_T26, hlt]
            rw [hrd] at q0 q1 q2 q3 q4 q5
            simp only [Int.toNat_natCast] at q0 q1 q2 q3 q4 q5
            have hAD := Lib.hid hA
            subst hA
            have hdrop : xs.drop k = xs[k] :: xs.drop (k + 1) := List.drop_eq_getElem_cons hlt
            have hcf : checkFrom xs none [] xs = (!badB xs (ahead xs k) seen xs[k] && checkFrom xs (ahead xs (k + 1)) (keyB xs[k] :: seen) (xs.drop (k + 1))) := by
              rw [HEq.out, hdrop, checkFrom]
              simp [ahead, hlt]
            have HCF := Lib.hid hcf
            have HKEY := Lib.hid (key_calls xs[k] (wr.alloc (ib xs[k])) hx0)
            have hkx := key_fine xs[k] hx0 (HR2.out _ hx).2.2
            have hdb : Hid (decide (SetK.kb (keyB xs[k]) ∈ seen.map SetK.kb) = dupB seen (keyB xs[k])) := Lib.hid (dup_kb seen _ HKx.out hkx)
            have HKX := Lib.hid hkx
            obtain ⟨b0, b1, -⟩ := cells2 HBox.out
            obtain ⟨bf, -⟩ := cells2f HBox.out
            clear hrd hCr hdrop hcf hkx HEq
            go_upto_region 8 with (go_at_call 17; (with_reducible refine Calls.mono HKEY.out ?_); rintro en w1 ⟨rfl, hb1⟩; have HB1 := Lib.hid hb1; clear hb1)
            have hg : Gk w (.cells #[.slice (some ad) xs.length c, .int .i64 t] 24) wr.heap.size w1.heap.size xs[k] (keyB xs[k]) cn (seen.map SetK.kb) (w1.alloc (ib (keyB xs[k]))) :=
              ⟨blk_alloc (blk_below (blk_alloc HBox.out _) HB1.out) _, blk_alloc (blk_below (blk_new wr _) HB1.out) _, blk_new w1 _, SetK.alloc (SetK.below (SetK.alloc HSet.out _) HB1.out) _, up (up (up HB.out (bel1 _ _)) HB1.out) (bel1 _ _)⟩
            obtain ⟨V, hV⟩ : ∃ V, w1.alloc (ib (keyB xs[k])) = V := ⟨_, rfl⟩
            rw [hV] at hg
            have HV := Lib.hid hV
            have HG1 := Lib.hid hg
            clear hV hg bf b0 b1
            rw [HV.out]
            obtain ⟨bad, hbad⟩ : ∃ b, badB xs (ahead xs k) seen xs[k] = b := ⟨_, rfl⟩
            have HBAD := Lib.hid hbad
            clear hbad
            go_cut [61] (fun v61 wc => v61 = .bool bad ∧ Hid (Gk w (.cells #[.slice (some ad) xs.length c, .int .i64 t] 24) wr.heap.size w1.heap.size xs[k] (keyB xs[k]) cn (seen.map SetK.kb) wc))
            case first =>
              have HG := Lib.hid HG1.out.drew
              clear HCF HKEY HBox HSet HB HB1 HV q0 q1 q2 q3 q4 q5
              cases hd : dupB seen (keyB xs[k]) with
              | true =>
                have HD := Lib.hid hd
                have HE : Hid (bad = true) := Lib.hid (by rw [← HBAD.out]; unfold badB; rw [hd]; rfl)
                clear hd
                refine wp_region_quiet (C := Gk w (.cells #[.slice (some ad) xs.length c, .int .i64 t] 24) wr.heap.size w1.heap.size xs[k] (keyB xs[k]) cn (seen.map SetK.kb)) (by kernel_rfl) (by kernel_rfl) HG.out ?_
                dsimp only
                repeat (first | go_big_quiet_skip | (go_big_quiet_want; go_big_quiet_op; first | go_big_quiet_on | (refine ⟨_, fun _ _ => rfl, ?_⟩; go_big_quiet_on)))
                go_big_quiet_want
                refine ⟨iv (keyB xs[k]), fun W hW => ?_, ?_⟩
                · obtain ⟨sb0, sb1, sb2, sb3, sb4, sb5, _, _, _, _, _, _⟩ := cells6 hW.2.2.1
                  clear hW
                  go_simp
                go_big_quiet_on
                try simp only [Act.put, List.setIfInBounds_toArray, List.set_cons_zero, List.set_cons_succ]
                repeat (first | go_big_quiet_skip | (go_big_quiet_want; go_big_quiet_op; first | go_big_quiet_on | (refine ⟨_, fun _ _ => rfl, ?_⟩; go_big_quiet_on)))
                go_big_quiet_want
                refine ⟨.bool true, fun W hW => ?_, ?_⟩
                · have hlook := SetK.look hW.2.2.2.1 (iv (keyB xs[k])) _ (SetK.key_some _ HKX.out)
                  rw [hdb.out, HD.out] at hlook
                  clear hW
                  go_simp
                go_big_quiet_on
                try simp only [Act.put, List.setIfInBounds_toArray, List.set_cons_zero, List.set_cons_succ]
                repeat (first | go_big_quiet_skip | (go_big_quiet_want; go_big_quiet_op; first | go_big_quiet_on | (refine ⟨_, fun _ _ => rfl, ?_⟩; go_big_quiet_on)))
                refine wpQuiet_nil ?_
                intro W hW
                have HW := Lib.hid hW
                clear hW
                go_wp2_with fail
                go_meet
                case rel => exact ⟨by rw [HE.out], HW.out⟩
              | false =>
                have HD := Lib.hid hd
                cases hm : itemB xs[k] with
                | false =>
                  have HM := Lib.hid hm
                  have HE : Hid (bad = true) := Lib.hid (by rw [← HBAD.out]; unfold badB; rw [hd, hm]; rfl)
                  clear hd hm
                  refine wp_region_quiet (C := Gk w (.cells #[.slice (some ad) xs.length c, .int .i64 t] 24) wr.heap.size w1.heap.size xs[k] (keyB xs[k]) cn (seen.map SetK.kb)) (by kernel_rfl) (by kernel_rfl) HG.out ?_
                  dsimp only
                  repeat (first | go_big_quiet_skip | (go_big_quiet_want; go_big_quiet_op; first | go_big_quiet_on | (refine ⟨_, fun _ _ => rfl, ?_⟩; go_big_quiet_on)))
                  go_big_quiet_want
                  refine ⟨iv (keyB xs[k]), fun W hW => ?_, ?_⟩
                  · obtain ⟨sb0, sb1, sb2, sb3, sb4, sb5, _, _, _, _, _, _⟩ := cells6 hW.2.2.1
                    clear hW
                    go_simp
                  go_big_quiet_on
                  try simp only [Act.put, List.setIfInBounds_toArray, List.set_cons_zero, List.set_cons_succ]
                  repeat (first | go_big_quiet_skip | (go_big_quiet_want; go_big_quiet_op; first | go_big_quiet_on | (refine ⟨_, fun _ _ => rfl, ?_⟩; go_big_quiet_on)))
                  go_big_quiet_want
                  refine ⟨.bool false, fun W hW => ?_, ?_⟩
                  · have hlook := SetK.look hW.2.2.2.1 (iv (keyB xs[k])) _ (SetK.key_some _ HKX.out)
                    rw [hdb.out, HD.out] at hlook
                    clear hW
                    go_simp
                  go_big_quiet_on
                  try simp only [Act.put, List.setIfInBounds_toArray, List.set_cons_zero, List.set_cons_succ]
                  repeat (first | go_big_quiet_skip | (go_big_quiet_want; go_big_quiet_op; first | go_big_quiet_on | (refine ⟨_, fun _ _ => rfl, ?_⟩; go_big_quiet_on)))
                  go_big_quiet_want
                  refine ⟨iv xs[k], fun W hW => ?_, ?_⟩
                  · obtain ⟨sa0, sa1, sa2, sa3, sa4, sa5, _, _, _, _, _, _⟩ := cells6 hW.2.1
                    clear hW
                    go_simp
                  go_big_quiet_on
                  try simp only [Act.put, List.setIfInBounds_toArray, List.set_cons_zero, List.set_cons_succ]
                  repeat (first | go_big_quiet_skip | (go_big_quiet_want; go_big_quiet_op; first | go_big_quiet_on | (refine ⟨_, fun _ _ => rfl, ?_⟩; go_big_quiet_on)))
                  go_big_quiet_want
                  refine ⟨.bool false, fun W hW => ?_, ?_⟩
                  · have hcall := may_g hx0 hx4 W hW
                    rw [HM.out] at hcall
                    have HCALL := Lib.hid hcall
                    clear hW hcall
                    go_simp
                    exact HCALL.out
                  go_big_quiet_on
                  try simp only [Act.put, List.setIfInBounds_toArray, List.set_cons_zero, List.set_cons_succ]
                  repeat (first | go_big_quiet_skip | (go_big_quiet_want; go_big_quiet_op; first | go_big_quiet_on | (refine ⟨_, fun _ _ => rfl, ?_⟩; go_big_quiet_on)))
                  refine wpQuiet_nil ?_
                  intro W hW
                  have HW := Lib.hid hW
                  clear hW
                  go_wp2_with fail
                  go_meet
                  case rel => exact ⟨by rw [HE.out], HW.out⟩
                | true =>
                  have HM := Lib.hid hm
                  cases hf : fitsB xs xs[k] with
                  | false =>
                    have HF := Lib.hid hf
                    have HE : Hid (bad = true) := Lib.hid (by rw [← HBAD.out]; unfold badB; rw [hd, hm, hf]; rfl)
                    clear hd hm hf
                    refine wp_region_quiet (C := Gk w (.cells #[.slice (some ad) xs.length c, .int .i64 t] 24) wr.heap.size w1.heap.size xs[k] (keyB xs[k]) cn (seen.map SetK.kb)) (by kernel_rfl) (by kernel_rfl) HG.out ?_
                    dsimp only
                    repeat (first | go_big_quiet_skip | (go_big_quiet_want; go_big_quiet_op; first | go_big_quiet_on | (refine ⟨_, fun _ _ => rfl, ?_⟩; go_big_quiet_on)))
                    go_big_quiet_want
                    refine ⟨iv (keyB xs[k]), fun W hW => ?_, ?_⟩
                    · obtain ⟨sb0, sb1, sb2, sb3, sb4, sb5, _, _, _, _, _, _⟩ := cells6 hW.2.2.1
                      clear hW
                      go_simp
                    go_big_quiet_on
                    try simp only [Act.put, List.setIfInBounds_toArray, List.set_cons_zero, List.set_cons_succ]
                    repeat (first | go_big_quiet_skip | (go_big_quiet_want; go_big_quiet_op; first | go_big_quiet_on | (refine ⟨_, fun _ _ => rfl, ?_⟩; go_big_quiet_on)))
                    go_big_quiet_want
                    refine ⟨.bool false, fun W hW => ?_, ?_⟩
                    · have hlook := SetK.look hW.2.2.2.1 (iv (keyB xs[k])) _ (SetK.key_some _ HKX.out)
                      rw [hdb.out, HD.out] at hlook
                      clear hW
                      go_simp
                    go_big_quiet_on
                    try simp only [Act.put, List.setIfInBounds_toArray, List.set_cons_zero, List.set_cons_succ]
                    repeat (first | go_big_quiet_skip | (go_big_quiet_want; go_big_quiet_op; first | go_big_quiet_on | (refine ⟨_, fun _ _ => rfl, ?_⟩; go_big_quiet_on)))
                    go_big_quiet_want
                    refine ⟨iv xs[k], fun W hW => ?_, ?_⟩
                    · obtain ⟨sa0, sa1, sa2, sa3, sa4, sa5, _, _, _, _, _, _⟩ := cells6 hW.2.1
                      clear hW
                      go_simp
                    go_big_quiet_on
                    try simp only [Act.put, List.setIfInBounds_toArray, List.set_cons_zero, List.set_cons_succ]
                    repeat (first | go_big_quiet_skip | (go_big_quiet_want; go_big_quiet_op; first | go_big_quiet_on | (refine ⟨_, fun _ _ => rfl, ?_⟩; go_big_quiet_on)))
                    go_big_quiet_want
                    refine ⟨.bool true, fun W hW => ?_, ?_⟩
                    · have hcall := may_g hx0 hx4 W hW
                      rw [HM.out] at hcall
                      have HCALL := Lib.hid hcall
                      clear hW hcall
                      go_simp
                      exact HCALL.out
                    go_big_quiet_on
                    try simp only [Act.put, List.setIfInBounds_toArray, List.set_cons_zero, List.set_cons_succ]
                    repeat (first | go_big_quiet_skip | (go_big_quiet_want; go_big_quiet_op; first | go_big_quiet_on | (refine ⟨_, fun _ _ => rfl, ?_⟩; go_big_quiet_on)))
                    go_big_quiet_want
                    refine ⟨.slice (some ad) xs.length c, fun W hW => ?_, ?_⟩
                    · obtain ⟨s0, s1, -⟩ := cells2 hW.1
                      clear hW
                      go_simp
                    go_big_quiet_on
                    try simp only [Act.put, List.setIfInBounds_toArray, List.set_cons_zero, List.set_cons_succ]
                    repeat (first | go_big_quiet_skip | (go_big_quiet_want; go_big_quiet_op; first | go_big_quiet_on | (refine ⟨_, fun _ _ => rfl, ?_⟩; go_big_quiet_on)))
                    go_big_quiet_want
                    refine ⟨iv xs[k], fun W hW => ?_, ?_⟩
                    · obtain ⟨sa0, sa1, sa2, sa3, sa4, sa5, _, _, _, _, _, _⟩ := cells6 hW.2.1
                      clear hW
                      go_simp
                    go_big_quiet_on
                    try simp only [Act.put, List.setIfInBounds_toArray, List.set_cons_zero, List.set_cons_succ]
                    repeat (first | go_big_quiet_skip | (go_big_quiet_want; go_big_quiet_op; first | go_big_quiet_on | (refine ⟨_, fun _ _ => rfl, ?_⟩; go_big_quiet_on)))
                    go_big_quiet_want
                    refine ⟨.bool false, fun W hW => ?_, ?_⟩
                    · have hcall := fits_g (c := c) HC.out HS.out W hW
                      rw [HF.out] at hcall
                      have HCALL := Lib.hid hcall
                      clear hW hcall
                      go_simp
                      exact HCALL.out
                    go_big_quiet_on
                    try simp only [Act.put, List.setIfInBounds_toArray, List.set_cons_zero, List.set_cons_succ]
                    repeat (first | go_big_quiet_skip | (go_big_quiet_want; go_big_quiet_op; first | go_big_quiet_on | (refine ⟨_, fun _ _ => rfl, ?_⟩; go_big_quiet_on)))
                    refine wpQuiet_nil ?_
                    intro W hW
                    have HW := Lib.hid hW
                    clear hW
                    go_wp2_with fail
                    go_meet
                    case rel => exact ⟨by rw [HE.out], HW.out⟩
                  | true =>
                    have HF := Lib.hid hf
                    have HE : Hid (bad = prevB (ahead xs k) xs[k]) := Lib.hid (by rw [← HBAD.out]; unfold badB; rw [hd, hm, hf]; rfl)
                    clear hd hm hf
                    cases k with
                    | zero =>
                      have HE2 : Hid (bad = false) := Lib.hid (by rw [HE.out]; rfl)
                      refine wp_region_quiet (C := Gk w (.cells #[.slice (some ad) xs.length c, .int .i64 t] 24) wr.heap.size w1.heap.size xs[0] (keyB xs[0]) cn (seen.map SetK.kb)) (by kernel_rfl) (by kernel_rfl) HG.out ?_
                      dsimp only
                      repeat (first | go_big_quiet_skip | (go_big_quiet_want; go_big_quiet_op; first | go_big_quiet_on | (refine ⟨_, fun _ _ => rfl, ?_⟩; go_big_quiet_on)))
                      go_big_quiet_want
                      refine ⟨iv (keyB xs[0]), fun W hW => ?_, ?_⟩
                      · obtain ⟨sb0, sb1, sb2, sb3, sb4, sb5, _, _, _, _, _, _⟩ := cells6 hW.2.2.1
                        clear hW
                        go_simp
                      go_big_quiet_on
                      try simp only [Act.put, List.setIfInBounds_toArray, List.set_cons_zero, List.set_cons_succ]
                      repeat (first | go_big_quiet_skip | (go_big_quiet_want; go_big_quiet_op; first | go_big_quiet_on | (refine ⟨_, fun _ _ => rfl, ?_⟩; go_big_quiet_on)))
                      go_big_quiet_want
                      refine ⟨.bool false, fun W hW => ?_, ?_⟩
                      · have hlook := SetK.look hW.2.2.2.1 (iv (keyB xs[0])) _ (SetK.key_some _ HKX.out)
                        rw [hdb.out, HD.out] at hlook
                        clear hW
                        go_simp
                      go_big_quiet_on
                      try simp only [Act.put, List.setIfInBounds_toArray, List.set_cons_zero, List.set_cons_succ]
                      repeat (first | go_big_quiet_skip | (go_big_quiet_want; go_big_quiet_op; first | go_big_quiet_on | (refine ⟨_, fun _ _ => rfl, ?_⟩; go_big_quiet_on)))
                      go_big_quiet_want
                      refine ⟨iv xs[0], fun W hW => ?_, ?_⟩
                      · obtain ⟨sa0, sa1, sa2, sa3, sa4, sa5, _, _, _, _, _, _⟩ := cells6 hW.2.1
                        clear hW
                        go_simp
                      go_big_quiet_on
                      try simp only [Act.put, List.setIfInBounds_toArray, List.set_cons_zero, List.set_cons_succ]
                      repeat (first | go_big_quiet_skip | (go_big_quiet_want; go_big_quiet_op; first | go_big_quiet_on | (refine ⟨_, fun _ _ => rfl, ?_⟩; go_big_quiet_on)))
                      go_big_quiet_want
                      refine ⟨.bool true, fun W hW => ?_, ?_⟩
                      · have hcall := may_g hx0 hx4 W hW
                        rw [HM.out] at hcall
                        have HCALL := Lib.hid hcall
                        clear hW hcall
                        go_simp
                        exact HCALL.out
                      go_big_quiet_on
                      try simp only [Act.put, List.setIfInBounds_toArray, List.set_cons_zero, List.set_cons_succ]
                      repeat (first | go_big_quiet_skip | (go_big_quiet_want; go_big_quiet_op; first | go_big_quiet_on | (refine ⟨_, fun _ _ => rfl, ?_⟩; go_big_quiet_on)))
                      go_big_quiet_want
                      refine ⟨.slice (some ad) xs.length c, fun W hW => ?_, ?_⟩
                      · obtain ⟨s0, s1, -⟩ := cells2 hW.1
                        clear hW
                        go_simp
                      go_big_quiet_on
                      try simp only [Act.put, List.setIfInBounds_toArray, List.set_cons_zero, List.set_cons_succ]
                      repeat (first | go_big_quiet_skip | (go_big_quiet_want; go_big_quiet_op; first | go_big_quiet_on | (refine ⟨_, fun _ _ => rfl, ?_⟩; go_big_quiet_on)))
                      go_big_quiet_want
                      refine ⟨iv xs[0], fun W hW => ?_, ?_⟩
                      · obtain ⟨sa0, sa1, sa2, sa3, sa4, sa5, _, _, _, _, _, _⟩ := cells6 hW.2.1
                        clear hW
                        go_simp
                      go_big_quiet_on
                      try simp only [Act.put, List.setIfInBounds_toArray, List.set_cons_zero, List.set_cons_succ]
                      repeat (first | go_big_quiet_skip | (go_big_quiet_want; go_big_quiet_op; first | go_big_quiet_on | (refine ⟨_, fun _ _ => rfl, ?_⟩; go_big_quiet_on)))
                      go_big_quiet_want
                      refine ⟨.bool true, fun W hW => ?_, ?_⟩
                      · have hcall := fits_g (c := c) HC.out HS.out W hW
                        rw [HF.out] at hcall
                        have HCALL := Lib.hid hcall
                        clear hW hcall
                        go_simp
                        exact HCALL.out
                      go_big_quiet_on
                      try simp only [Act.put, List.setIfInBounds_toArray, List.set_cons_zero, List.set_cons_succ]
                      repeat (first | go_big_quiet_skip | (go_big_quiet_want; go_big_quiet_op; first | go_big_quiet_on | (refine ⟨_, fun _ _ => rfl, ?_⟩; go_big_quiet_on)))
                      refine wpQuiet_nil ?_
                      intro W hW
                      have HW := Lib.hid hW
                      clear hW
                      go_wp2_with fail
                      go_meet
                      case rel => exact ⟨by rw [HE2.out], HW.out⟩
                    | succ j =>
                      have HE2 : Hid (bad = decide (0 ≤ cmpB xs[j] xs[j + 1])) := Lib.hid (by rw [HE.out]; exact prev_succ xs j (by omega) _)
                      refine wp_region_quiet (C := Gk w (.cells #[.slice (some ad) xs.length c, .int .i64 t] 24) wr.heap.size w1.heap.size xs[j + 1] (keyB xs[j + 1]) cn (seen.map SetK.kb)) (by kernel_rfl) (by kernel_rfl) HG.out ?_
                      dsimp only
                      repeat (first | go_big_quiet_skip | (go_big_quiet_want; go_big_quiet_op; first | go_big_quiet_on | (refine ⟨_, fun _ _ => rfl, ?_⟩; go_big_quiet_on)))
                      go_big_quiet_want
                      refine ⟨iv (keyB xs[j + 1]), fun W hW => ?_, ?_⟩
                      · obtain ⟨sb0, sb1, sb2, sb3, sb4, sb5, _, _, _, _, _, _⟩ := cells6 hW.2.2.1
                        clear hW
                        go_simp
                      go_big_quiet_on
                      try simp only [Act.put, List.setIfInBounds_toArray, List.set_cons_zero, List.set_cons_succ]
                      repeat (first | go_big_quiet_skip | (go_big_quiet_want; go_big_quiet_op; first | go_big_quiet_on | (refine ⟨_, fun _ _ => rfl, ?_⟩; go_big_quiet_on)))
                      go_big_quiet_want
                      refine ⟨.bool false, fun W hW => ?_, ?_⟩
                      · have hlook := SetK.look hW.2.2.2.1 (iv (keyB xs[j + 1])) _ (SetK.key_some _ HKX.out)
                        rw [hdb.out, HD.out] at hlook
                        clear hW
                        go_simp
                      go_big_quiet_on
                      try simp only [Act.put, List.setIfInBounds_toArray, List.set_cons_zero, List.set_cons_succ]
                      repeat (first | go_big_quiet_skip | (go_big_quiet_want; go_big_quiet_op; first | go_big_quiet_on | (refine ⟨_, fun _ _ => rfl, ?_⟩; go_big_quiet_on)))
                      go_big_quiet_want
                      refine ⟨iv xs[j + 1], fun W hW => ?_, ?_⟩
                      · obtain ⟨sa0, sa1, sa2, sa3, sa4, sa5, _, _, _, _, _, _⟩ := cells6 hW.2.1
                        clear hW
                        go_simp
                      go_big_quiet_on
                      try simp only [Act.put, List.setIfInBounds_toArray, List.set_cons_zero, List.set_cons_succ]
                      repeat (first | go_big_quiet_skip | (go_big_quiet_want; go_big_quiet_op; first | go_big_quiet_on | (refine ⟨_, fun _ _ => rfl, ?_⟩; go_big_quiet_on)))
                      go_big_quiet_want
                      refine ⟨.bool true, fun W hW => ?_, ?_⟩
                      · have hcall := may_g hx0 hx4 W hW
                        rw [HM.out] at hcall
                        have HCALL := Lib.hid hcall
                        clear hW hcall
                        go_simp
                        exact HCALL.out
                      go_big_quiet_on
                      try simp only [Act.put, List.setIfInBounds_toArray, List.set_cons_zero, List.set_cons_succ]
                      repeat (first | go_big_quiet_skip | (go_big_quiet_want; go_big_quiet_op; first | go_big_quiet_on | (refine ⟨_, fun _ _ => rfl, ?_⟩; go_big_quiet_on)))
                      go_big_quiet_want
                      refine ⟨.slice (some ad) xs.length c, fun W hW => ?_, ?_⟩
                      · obtain ⟨s0, s1, -⟩ := cells2 hW.1
                        clear hW
                        go_simp
                      go_big_quiet_on
                      try simp only [Act.put, List.setIfInBounds_toArray, List.set_cons_zero, List.set_cons_succ]
                      repeat (first | go_big_quiet_skip | (go_big_quiet_want; go_big_quiet_op; first | go_big_quiet_on | (refine ⟨_, fun _ _ => rfl, ?_⟩; go_big_quiet_on)))
                      go_big_quiet_want
                      refine ⟨iv xs[j + 1], fun W hW => ?_, ?_⟩
                      · obtain ⟨sa0, sa1, sa2, sa3, sa4, sa5, _, _, _, _, _, _⟩ := cells6 hW.2.1
                        clear hW
                        go_simp
                      go_big_quiet_on
                      try simp only [Act.put, List.setIfInBounds_toArray, List.set_cons_zero, List.set_cons_succ]
                      repeat (first | go_big_quiet_skip | (go_big_quiet_want; go_big_quiet_op; first | go_big_quiet_on | (refine ⟨_, fun _ _ => rfl, ?_⟩; go_big_quiet_on)))
                      go_big_quiet_want
                      refine ⟨.bool true, fun W hW => ?_, ?_⟩
                      · have hcall := fits_g (c := c) HC.out HS.out W hW
                        rw [HF.out] at hcall
                        have HCALL := Lib.hid hcall
                        clear hW hcall
                        go_simp
                        exact HCALL.out
                      go_big_quiet_on
                      try simp only [Act.put, List.setIfInBounds_toArray, List.set_cons_zero, List.set_cons_succ]
                      repeat (first | go_big_quiet_skip | (go_big_quiet_want; go_big_quiet_op; first | go_big_quiet_on | (refine ⟨_, fun _ _ => rfl, ?_⟩; go_big_quiet_on)))
                      go_big_quiet_want
                      refine ⟨.slice (some ad) xs.length c, fun W hW => ?_, ?_⟩
                      · obtain ⟨s0, s1, -⟩ := cells2 hW.1
                        clear hW
                        go_simp
                      go_big_quiet_on
                      try simp only [Act.put, List.setIfInBounds_toArray, List.set_cons_zero, List.set_cons_succ]
                      repeat (first | go_big_quiet_skip | (go_big_quiet_want; go_big_quiet_op; first | go_big_quiet_on | (refine ⟨_, fun _ _ => rfl, ?_⟩; go_big_quiet_on)))
                      go_big_quiet_want
                      refine ⟨iv xs[j], fun W hW => ?_, ?_⟩
                      · obtain ⟨ad', hA', p0, p1, p2, p3, p4, p5⟩ := at_T26 (Kd.C_below HC.out hW.2.2.2.2) (j : Int) (by omega) (by omega)
                        rw [rd_at xs j (by omega)] at p0 p1 p2 p3 p4 p5
                        simp only [Int.toNat_natCast] at p0 p1 p2 p3 p4 p5
                        obtain rfl := Option.some.inj hA'
                        clear hW hA'
                        go_simp
                      go_big_quiet_on
                      try simp only [Act.put, List.setIfInBounds_toArray, List.set_cons_zero, List.set_cons_succ]
                      repeat (first | go_big_quiet_skip | (go_big_quiet_want; go_big_quiet_op; first | go_big_quiet_on | (refine ⟨_, fun _ _ => rfl, ?_⟩; go_big_quiet_on)))
                      go_big_quiet_want
                      refine ⟨iv xs[j + 1], fun W hW => ?_, ?_⟩
                      · obtain ⟨sa0, sa1, sa2, sa3, sa4, sa5, _, _, _, _, _, _⟩ := cells6 hW.2.1
                        clear hW
                        go_simp
                      go_big_quiet_on
                      try simp only [Act.put, List.setIfInBounds_toArray, List.set_cons_zero, List.set_cons_succ]
                      repeat (first | go_big_quiet_skip | (go_big_quiet_want; go_big_quiet_op; first | go_big_quiet_on | (refine ⟨_, fun _ _ => rfl, ?_⟩; go_big_quiet_on)))
                      go_big_quiet_want
                      refine ⟨.int .i64 (cmpB xs[j] xs[j + 1]), fun W hW => ?_, ?_⟩
                      · have hcall := cmp_g xs[j] W hW
                        have HCALL := Lib.hid hcall
                        clear hW hcall
                        go_simp
                        exact HCALL.out
                      go_big_quiet_on
                      try simp only [Act.put, List.setIfInBounds_toArray, List.set_cons_zero, List.set_cons_succ]
                      repeat (first | go_big_quiet_skip | (go_big_quiet_want; go_big_quiet_op; first | go_big_quiet_on | (refine ⟨_, fun _ _ => rfl, ?_⟩; go_big_quiet_on)))
                      refine wpQuiet_nil ?_
                      intro W hW
                      have HW := Lib.hid hW
                      clear hW
                      go_wp2_with fail
                      go_meet
                      case rel => exact ⟨by rw [HE2.out], HW.out⟩
            case rest =>
              obtain ⟨rfl, HG2⟩ := hcut
              cases bad with
              | true =>
                have HE : Hid (R = 170) := Lib.hid (by rw [← HR.out, HCF.out, HBAD.out]; rfl)
                go_wp2_with fail
                go_ret
                exact ⟨by rw [HE.out]; rfl, HG2.out.2.2.2.2⟩
              | false =>
                have HEQ2 : Hid (checkFrom xs none [] xs = checkFrom xs (ahead xs (k + 1)) (keyB xs[k] :: seen) (xs.drop (k + 1))) := Lib.hid (by rw [HCF.out, HBAD.out]; rfl)
                obtain ⟨w2, hrun2, hset2, hg2⟩ := SetK.put HG2.out.2.2.2.1 (iv (keyB xs[k])) _ (SetK.key_some _ HKX.out) (by unfold maxLen; omega)
                have HB2 := Lib.hid (HG2.out.2.2.2.2.grown hg2 HG2.out.2.2.2.2.size (by intro q hq; injection hq; omega))
                have HBX2 : Hid (w2.heap[w.heap.size]? = some (.cells #[.slice (some ad) xs.length c, .int .i64 t] 24 (0, 0))) := Lib.hid (by rw [hg2.block _ (blk_lt HG2.out.1) (by intro h; injection h; omega)]; exact HG2.out.1)
                have HS2 : Hid (SetK.SetK w2 (w.heap.size + 1) (cn + 1) ((keyB xs[k] :: seen).map SetK.kb)) := Lib.hid hset2
                have HKX2 : Hid (∀ y ∈ keyB xs[k] :: seen, SetK.Kx y) := Lib.hid (by
                  intro y hy
                  rcases List.mem_cons.mp hy with h | h
                  · rw [h]; exact HKX.out
                  · exact HKx.out y h)
                obtain ⟨sb0, sb1, sb2, sb3, sb4, sb5, _, _, _, _, _, _⟩ := cells6 HG2.out.2.2.1
                clear hset2 hg2
                go_wp2_with fail
                go_roundg (gk - 1)
                case measure => omega
                case rel => exact ⟨k + 1, cn + 1, keyB xs[k] :: seen, by omega, by omega, by go_num, by omega, HBX2, HS2, HKX2, HEQ2, HB2⟩
          · obtain rfl : k = xs.length := by omega
            have HE : Hid (R = 0) := Lib.hid (by rw [← HR.out, HEq.out, List.drop_length]; rfl)
            go_wp2_with fail
            go_ret
            exact ⟨by rw [HE.out]; rfl, HB.out⟩
      · have HE : Hid (R = 170) := Lib.hid (by rw [← HRR.out]; unfold checkB; simp [show ¬ t < 4294967296 by omega])
        go_enter Tryz.func8, Tryz.ntmps8
        go_wp2_with fail
        go_ret
        exact ⟨by rw [HE.out]; rfl, bel1 _ _⟩
    · have HE : Hid (R = 170) := Lib.hid (by rw [← HRR.out]; unfold checkB; simp [show ¬ 0 ≤ t by omega])
      go_enter Tryz.func8, Tryz.ntmps8
      go_wp2_with fail
      go_ret
      exact ⟨by rw [HE.out]; rfl, bel1 _ _⟩
  · have HE : Hid (R = 170) := Lib.hid (by rw [← HRR.out]; unfold checkB; simp [show ¬ (xs.length : Int) ≤ 100 by omega])
    go_enter Tryz.func8, Tryz.ntmps8
    go_wp2_with fail
    go_ret
    exact ⟨by rw [HE.out]; rfl, bel1 _ _⟩

end Go.Proofs.YtdfppdkhiejbdaaGreatDoor.Li

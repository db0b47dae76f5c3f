import Derived.Test.YtdfppdkhiejbdaaGreatDoorBa14
section
/- Package list's laws: live. -/
set_option linter.unusedVariables false
set_option linter.unusedSimpArgs false
namespace Go.Proofs.YtdfppdkhiejbdaaGreatDoor.Li
open Go.RowKit Go.Proofs.YtdfppdkhiejbdaaGreatDoor.PList Go.Proofs.YtdfppdkhiejbdaaGreatDoorW.PrintWords

theorem group_calls (g : Int) (s : ByteArray) (w : World) : Calls Tryz.prog 23 #[.int .i64 g, .string s] w fun e w' => e = .returned (iv ⟨s, g, 0, 1, ⟨#[]⟩, false⟩) ∧ Below w.heap.size w w' := by
  go_enter Tryz.func23, Tryz.ntmps23
  go_wp2_with fail
  refine bodyPost_ret (v := iv ⟨s, g, 0, 1, ⟨#[]⟩, false⟩) (by simp [results, Tryz.results23, go_sem]) rfl ⟨rfl, bel1 _ _⟩

theorem buddy_calls (g id : Int) (s : ByteArray) (w : World) : Calls Tryz.prog 22 #[.int .i64 g, .int .i64 id, .string s] w fun e w' => e = .returned (iv ⟨s, g, id, 0, ⟨#[]⟩, false⟩) ∧ Below w.heap.size w w' :=
  wharflaw17_buddy.calls g id s s g id 0 ⟨#[]⟩ false w rfl

theorem refSame_calls (A : Option Addr) (c : Nat) (B : Option Addr) (d : Nat) (xs : List S26) (t : Int) (w : World) (hA : Kd.C k26 w A xs.length xs) (hc : xs.length ≤ c) (hB : Kd.C k26 w B xs.length xs) (hd : xs.length ≤ d) (hl : xs.length ≤ 1099511627776) :
    Calls Tryz.prog 11 #[.agg #[.slice A xs.length c, .int .i64 t], .agg #[.slice B xs.length d, .int .i64 t]] w fun e w' => e = .returned (.bool true) ∧ Below w.heap.size w w' := by
  obtain ⟨b, h1, h2⟩ := ref_some xs xs t t hl (xs.length + 2) (by omega)
  obtain rfl := h2.mpr ⟨rfl, rfl⟩
  exact wharfref17_Same.calls (xs.length + 2) A c xs t B d xs t true w hA hc hB hd h1

theorem listSame_calls (A : Option Addr) (c : Nat) (xs : List S26) (t : Int) (w : World) (hA : Kd.C k26 w A xs.length xs) (hc : xs.length ≤ c) (hl : xs.length ≤ 1099511627776) :
    Calls Tryz.prog 24 #[.agg #[.slice A xs.length c, .int .i64 t], .agg #[.slice A xs.length c, .int .i64 t]] w fun e w' => e = .returned (.bool true) ∧ Below w.heap.size w w' := by
  obtain ⟨b, h1, h2⟩ := eq_some xs xs hl (xs.length + 1) (by omega)
  obtain rfl := h2.mpr rfl
  refine list_Same.calls (xs.length + 1) A c xs t A c xs t true w hA hc hA hc ?_
  unfold list_Same.f
  rw [if_pos rfl, h1]
  rfl

theorem live_friends_name : friends.f0.toList = [70, 114, 105, 101, 110, 100, 115] := by kernel_rfl
theorem live_joe_name : joe.f0.toList = [106, 111, 101] := by kernel_rfl

theorem C_two {w : World} {g : Nat} {x y : S26} (h : w.heap[g]? = some (.cells #[.string x.f0, .int .i64 x.f1, .int .i64 x.f2, .int .i64 x.f3, .string x.f4, .bool x.f5, .string y.f0, .int .i64 y.f1, .int .i64 y.f2, .int .i64 y.f3, .string y.f4, .bool y.f5] 26 (0, 0))) : Kd.C k26 w (some ⟨g, 0, none⟩) 2 [x, y] := by
  refine C_of_at (xs := [x, y]) (by simp) ?_
  intro j hj
  simp at hj
  rcases (show j = 0 ∨ j = 1 by omega) with rfl | rfl
  · exact ⟨blk_cell h 0, blk_cell h 1, blk_cell h 2, blk_cell h 3, blk_cell h 4, blk_cell h 5⟩
  · exact ⟨blk_cell h 6, blk_cell h 7, blk_cell h 8, blk_cell h 9, blk_cell h 10, blk_cell h 11⟩

set_option maxHeartbeats 4000000 in
set_option maxRecDepth 1000000 in
theorem live_calls (w : World) : Calls Tryz.prog 9 #[] w fun e w' => e = .returned (.bool true) ∧ Below w.heap.size w w' := by
  have HB1 := Lib.hid (buddy_calls 1 1 ⟨#[106, 111, 101]⟩ w)
  go_enter Tryz.func9, Tryz.ntmps9
  go_wp2_with fail
  refine Calls.mono HB1.out ?_
  rintro en w1 ⟨rfl, hb1⟩
  have HW1 := Lib.hid hb1
  clear hb1 HB1
  go_wp2_with fail
  refine Calls.mono (group_calls 1 ⟨#[70, 114, 105, 101, 110, 100, 115]⟩ w1) ?_
  rintro en w2 ⟨rfl, hb2⟩
  have HW2 := Lib.hid (up HW1.out hb2)
  clear hb2
  have HPUT := Lib.hid (Put_calls 7 (some ⟨w2.heap.size, 0, none⟩) 2 [joe, friends] [friends, joe] (w2.alloc (.cells #[.string joe.f0, .int .i64 joe.f1, .int .i64 joe.f2, .int .i64 joe.f3, .string joe.f4, .bool joe.f5, .string friends.f0, .int .i64 friends.f1, .int .i64 friends.f2, .int .i64 friends.f3, .string friends.f4, .bool friends.f5] 26)) (C_two (blk_new w2 _)) (by decide) (by decide) rfl (sorts_two joe friends live_cmp) live_sm live_rg)
  go_wp2_with fail
  refine Calls.mono HPUT.out ?_
  rintro en w3 ⟨h1, hb3⟩
  rw [if_pos live_check] at h1
  obtain ⟨A1, c1, rfl, hC1, hc1⟩ := h1
  have HC1 := Lib.hid hC1
  have HW3 := Lib.hid (up (up HW2.out (bel1 w2 _)) hb3)
  clear hC1 hb3 HPUT
  go_upto_region 2 with fail
  obtain ⟨W4, hW4⟩ : ∃ W4, W4 = w3.alloc (.cells #[.slice A1 2 c1, .int .i64 7] 24) := ⟨_, rfl⟩
  have HG4 : Hid (GK w [(w3.heap.size, .cells #[.slice A1 2 c1, .int .i64 7] 24 (0, 0))] [(A1, [friends, joe])] W4) := Lib.hid (by
    rw [hW4]
    refine GK.addB (GK.addR ?_ (Kd.C_below HC1.out (bel1 _ _)) (by decide)) (blk_new _ _)
    exact (show GK w [] [] _ from (GK.start w).step (up HW3.out (bel1 _ _))))
  rw [← hW4]
  obtain ⟨nl, hnl2⟩ : ∃ nl, w3.heap.size = nl := ⟨_, rfl⟩
  rw [hnl2] at HG4 ⊢
  clear hW4 hnl2 HC1
  obtain ⟨a0, a1, -⟩ := cells2 (HG4.out.blk nl _ (.head _))
  have HBU := Lib.hid (Buddy_calls ⟨#[74, 111, 101]⟩ 7 A1 c1 [friends, joe] W4 (HG4.out.row A1 _ (by simp)) live_sm (by decide))
  rw [live_buddy] at HBU
  go_wp2_with fail
  refine Calls.mono HBU.out ?_
  rintro en w5 ⟨rfl, hb5⟩
  have HG5 := Lib.hid (HG4.out.step hb5)
  clear hb5 HBU a0 a1
  go_upto_region 3 with fail
  obtain ⟨W6, hW6⟩ : ∃ W6, W6 = w5.alloc (ib joe) := ⟨_, rfl⟩
  have HG6 : Hid (GK w [(w5.heap.size, ib joe), (nl, .cells #[.slice A1 2 c1, .int .i64 7] 24 (0, 0))] [(A1, [friends, joe])] W6) := Lib.hid (by rw [hW6]; exact (HG5.out.step (bel1 _ _)).addB (blk_new _ _))
  obtain ⟨nq, hnq⟩ : ∃ nq, w5.heap.size = nq := ⟨_, rfl⟩
  rw [hnq] at HG6
  have hW6' : w5.alloc (.cells #[.string joe.f0, .int .i64 joe.f1, .int .i64 joe.f2, .int .i64 joe.f3, .string joe.f4, .bool joe.f5] 26) = W6 := hW6.symm
  first | rw [hW6'] | skip
  rw [hnq]
  clear hW6 hW6' hnq
  refine QI.wp_region_from (fun a0 L a W => ∃ u24 u25 u26 u23 u27 u28 u5 u6 : Value, a = ((((((((a0.put (some 24) u24).put (some 25) u25).put (some 26) u26).put (some 23) u23).put (some 27) u27).put (some 28) u28).put (some 5) u5).put (some 6) u6) ∧ GK w [(nq, ib joe), (nl, .cells #[.slice A1 2 c1, .int .i64 7] 24 (0, 0))] [(A1, [friends, joe])] W ∧ QI.Lst L 0 (u24 = .agg #[.slice A1 2 c1, .int .i64 7]) ∧ QI.Lst L 1 (u25 = iv gone) ∧ QI.Lst L 2 (Res [friends, joe] 7 10 u26 W) ∧ QI.Lst L 3 (Res [friends, joe] 7 10 u23 W) ∧ QI.Lst L 4 (Lv [friends, joe] 7 u27 W) ∧ QI.Lst L 5 (u28 = .int .i64 10) ∧ QI.Lst L 6 (Bx w [(nq, ib joe), (nl, .cells #[.slice A1 2 c1, .int .i64 7] 24 (0, 0))] u5 W) ∧ QI.Lst L 7 (BxOf w [(nq, ib joe), (nl, .cells #[.slice A1 2 c1, .int .i64 7] 24 (0, 0))] [friends, joe] 7 u5 W) ∧ QI.Lst L 8 (u6 = .int .i64 10)) (by kernel_rfl) (by kernel_rfl) ?start ?steps ?theend
  case start => exact ⟨_, _, _, _, _, _, _, _, (by simp only [Act.put, List.setIfInBounds_toArray, List.set_cons_zero, List.set_cons_succ]; rfl), HG6.out.drew, QI.Lst.start, QI.Lst.start, QI.Lst.start, QI.Lst.start, QI.Lst.start, QI.Lst.start, QI.Lst.start, QI.Lst.start, QI.Lst.start⟩
  case steps =>
    refine ⟨?_, ?_, ?_, ?_, ?_, ?_, ?_, ?_, ?_, trivial⟩
    · rintro L a W K hK ⟨u24, u25, u26, u23, u27, u28, u5, u6, rfl, hG, h0, h1, h2, h3, h4, h5, h6, h7, h8⟩ hcl hd hu
      clear hd
      have HK := Lib.hid hK
      clear hK
      have HG := Lib.hid hG
      clear hG
      rw [if_pos (by rfl)]
      simp only [Act.put, List.setIfInBounds_toArray, List.set_cons_zero, List.set_cons_succ]
      obtain ⟨a0, a1, -⟩ := cells2 (HG.out.blk nl _ (.tail _ (.head _)))
      go_simp
      refine HK.out _ _ ⟨.agg #[.slice A1 2 c1, .int .i64 7], u25, u26, u23, u27, u28, u5, u6, (by first | (simp only [Act.put, List.setIfInBounds_toArray, List.set_cons_zero, List.set_cons_succ]; done) | (simp only [Act.put, List.setIfInBounds_toArray, List.set_cons_zero, List.set_cons_succ]; rfl)), HG.out, QI.Lst.self (rfl), h1.other (by decide), h2.other (by decide), h3.other (by decide), h4.other (by decide), h5.other (by decide), h6.other (by decide), h7.other (by decide), h8.other (by decide)⟩
    · rintro L a W K hK ⟨u24, u25, u26, u23, u27, u28, u5, u6, rfl, hG, h0, h1, h2, h3, h4, h5, h6, h7, h8⟩ hcl hd hu
      clear hd
      have HK := Lib.hid hK
      clear hK
      have HG := Lib.hid hG
      clear hG
      rw [if_pos (by rfl)]
      simp only [Act.put, List.setIfInBounds_toArray, List.set_cons_zero, List.set_cons_succ]
      have HCALL := Lib.hid (group_calls 1 ⟨#[]⟩ W)
      go_simp
      refine Calls.mono HCALL.out ?_
      rintro en W' ⟨rfl, hbW⟩
      go_simp
      refine HK.out _ _ ⟨u24, iv gone, u26, u23, u27, u28, u5, u6, (by first | (simp only [Act.put, List.setIfInBounds_toArray, List.set_cons_zero, List.set_cons_succ]; done) | (simp only [Act.put, List.setIfInBounds_toArray, List.set_cons_zero, List.set_cons_succ]; rfl)), HG.out.step hbW, h0.other (by decide), QI.Lst.self (rfl), (h2.other (by decide)).map (fun h => h.below hbW), (h3.other (by decide)).map (fun h => h.below hbW), (h4.other (by decide)).map (fun h => h.below hbW), h5.other (by decide), (h6.other (by decide)).map (fun h => h.below hbW), (h7.other (by decide)).map (fun h => h.below hbW), h8.other (by decide)⟩
    · rintro L a W K hK ⟨u24, u25, u26, u23, u27, u28, u5, u6, rfl, hG, h0, h1, h2, h3, h4, h5, h6, h7, h8⟩ hcl hd hu
      have d0 := hd ⟨0, .data⟩ (by simp) rfl
      have d1 := hd ⟨1, .data⟩ (by simp) rfl
      clear hd
      have HK := Lib.hid hK
      clear hK
      have HG := Lib.hid hG
      clear hG
      rw [if_pos (by rfl)]
      simp only [Act.put, List.setIfInBounds_toArray, List.set_cons_zero, List.set_cons_succ]
      obtain rfl := h0.get d0
      obtain rfl := h1.get d1
      have HCALL := Lib.hid (Apply_calls 7 A1 c1 [friends, joe] 22 gone W (HG.out.row A1 [friends, joe] (by simp)) hc1 live_sm (by decide) live_mono_gone (by decide) (by decide))
      rw [live_del] at HCALL
      go_simp
      refine Calls.mono HCALL.out ?_
      rintro en W' ⟨B, c', rfl, hC', hc', hbW⟩
      go_simp
      refine HK.out _ _ ⟨.agg #[.slice A1 2 c1, .int .i64 7], iv gone, .tuple #[.agg #[.slice B 2 c', .int .i64 7], .int .i64 10], u23, u27, u28, u5, u6, (by first | (simp only [Act.put, List.setIfInBounds_toArray, List.set_cons_zero, List.set_cons_succ]; done) | (simp only [Act.put, List.setIfInBounds_toArray, List.set_cons_zero, List.set_cons_succ]; rfl)), HG.out.step hbW, h0.other (by decide), h1.other (by decide), QI.Lst.self (⟨B, c', rfl, hC', hc'⟩), (h3.other (by decide)).map (fun h => h.below hbW), (h4.other (by decide)).map (fun h => h.below hbW), h5.other (by decide), (h6.other (by decide)).map (fun h => h.below hbW), (h7.other (by decide)).map (fun h => h.below hbW), h8.other (by decide)⟩
    · rintro L a W K hK ⟨u24, u25, u26, u23, u27, u28, u5, u6, rfl, hG, h0, h1, h2, h3, h4, h5, h6, h7, h8⟩ hcl hd hu
      have d2 := hd ⟨2, .data⟩ (by simp) rfl
      clear hd
      have HK := Lib.hid hK
      clear hK
      have HG := Lib.hid hG
      clear hG
      rw [if_pos (by rfl)]
      simp only [Act.put, List.setIfInBounds_toArray, List.set_cons_zero, List.set_cons_succ]
      go_simp
      refine HK.out _ _ ⟨u24, u25, u26, u26, u27, u28, u5, u6, (by first | (simp only [Act.put, List.setIfInBounds_toArray, List.set_cons_zero, List.set_cons_succ]; done) | (simp only [Act.put, List.setIfInBounds_toArray, List.set_cons_zero, List.set_cons_succ]; rfl)), HG.out, h0.other (by decide), h1.other (by decide), h2.other (by decide), QI.Lst.self (h2.get d2), h4.other (by decide), h5.other (by decide), h6.other (by decide), h7.other (by decide), h8.other (by decide)⟩
    · rintro L a W K hK ⟨u24, u25, u26, u23, u27, u28, u5, u6, rfl, hG, h0, h1, h2, h3, h4, h5, h6, h7, h8⟩ hcl hd hu
      have d3 := hd ⟨3, .data⟩ (by simp) rfl
      clear hd
      have HK := Lib.hid hK
      clear hK
      have HG := Lib.hid hG
      clear hG
      rw [if_pos (by rfl)]
      simp only [Act.put, List.setIfInBounds_toArray, List.set_cons_zero, List.set_cons_succ]
      have hr := h3.get d3
      unfold Res at hr
      obtain ⟨B, c', he, hC', hc'⟩ := hr
      subst he
      go_simp
      refine HK.out _ _ ⟨u24, u25, u26, .tuple #[.agg #[.slice B 2 c', .int .i64 7], .int .i64 10], .agg #[.slice B 2 c', .int .i64 7], u28, u5, u6, (by first | (simp only [Act.put, List.setIfInBounds_toArray, List.set_cons_zero, List.set_cons_succ]; done) | (simp only [Act.put, List.setIfInBounds_toArray, List.set_cons_zero, List.set_cons_succ]; rfl)), HG.out, h0.other (by decide), h1.other (by decide), h2.other (by decide), h3.other (by decide), QI.Lst.self (⟨B, c', rfl, hC', hc'⟩), h5.other (by decide), h6.other (by decide), h7.other (by decide), h8.other (by decide)⟩
    · rintro L a W K hK ⟨u24, u25, u26, u23, u27, u28, u5, u6, rfl, hG, h0, h1, h2, h3, h4, h5, h6, h7, h8⟩ hcl hd hu
      have d3 := hd ⟨3, .data⟩ (by simp) rfl
      clear hd
      have HK := Lib.hid hK
      clear hK
      have HG := Lib.hid hG
      clear hG
      rw [if_pos (by rfl)]
      simp only [Act.put, List.setIfInBounds_toArray, List.set_cons_zero, List.set_cons_succ]
      have hr := h3.get d3
      unfold Res at hr
      obtain ⟨B, c', he, hC', hc'⟩ := hr
      subst he
      go_simp
      refine HK.out _ _ ⟨u24, u25, u26, .tuple #[.agg #[.slice B 2 c', .int .i64 7], .int .i64 10], u27, .int .i64 10, u5, u6, (by first | (simp only [Act.put, List.setIfInBounds_toArray, List.set_cons_zero, List.set_cons_succ]; done) | (simp only [Act.put, List.setIfInBounds_toArray, List.set_cons_zero, List.set_cons_succ]; rfl)), HG.out, h0.other (by decide), h1.other (by decide), h2.other (by decide), h3.other (by decide), h4.other (by decide), QI.Lst.self (rfl), h6.other (by decide), h7.other (by decide), h8.other (by decide)⟩
    · rintro L a W K hK ⟨u24, u25, u26, u23, u27, u28, u5, u6, rfl, hG, h0, h1, h2, h3, h4, h5, h6, h7, h8⟩ hcl hd hu
      clear hd
      have HK := Lib.hid hK
      clear hK
      have HG := Lib.hid hG
      clear hG
      rw [if_pos (by rfl)]
      simp only [Act.put, List.setIfInBounds_toArray, List.set_cons_zero, List.set_cons_succ]
      have hlt := HG.out.lt
      have H24 := Lib.hid hlt
      have HBW := Lib.hid (bel1 W (.cells #[.slice none 0 0, .int .i64 0] 24))
      clear hlt
      go_simp
      have hbW := HBW.out
      refine HK.out _ _ ⟨u24, u25, u26, u23, u27, u28, .pointer (some ⟨W.heap.size, 0, none⟩), u6, (by first | (simp only [Act.put, List.setIfInBounds_toArray, List.set_cons_zero, List.set_cons_succ]; done) | (simp only [Act.put, List.setIfInBounds_toArray, List.set_cons_zero, List.set_cons_succ]; rfl)), HG.out.step hbW, h0.other (by decide), h1.other (by decide), (h2.other (by decide)).map (fun h => h.below hbW), (h3.other (by decide)).map (fun h => h.below hbW), (h4.other (by decide)).map (fun h => h.below hbW), h5.other (by decide), QI.Lst.self (⟨W.heap.size, none, 0, 0, 0, rfl, blk_new W _, HG.out.2.2.size, fun p hp => by have := H24.out p hp; omega⟩), (hcl.not hu (oj := _) rfl ⟨6, .data⟩ (by simp) rfl rfl : QI.Lst L 7 _).other (by decide), h8.other (by decide)⟩
    · rintro L a W K hK ⟨u24, u25, u26, u23, u27, u28, u5, u6, rfl, hG, h0, h1, h2, h3, h4, h5, h6, h7, h8⟩ hcl hd hu
      have d6 := hd ⟨6, .data⟩ (by simp) rfl
      have d4 := hd ⟨4, .data⟩ (by simp) rfl
      clear hd
      have HK := Lib.hid hK
      clear hK
      have HG := Lib.hid hG
      clear hG
      rw [if_pos (by rfl)]
      simp only [Act.put, List.setIfInBounds_toArray, List.set_cons_zero, List.set_cons_succ]
      obtain ⟨B, c', rfl, hC', hc'⟩ := h4.get d4
      obtain ⟨nb, a, n, c, t0, rfl, hbx, hn0, hn1⟩ := h6.get d6
      have HBX := Lib.hid hbx
      have HN1 := Lib.hid hn1
      obtain ⟨y0, y1, -⟩ := cells2 hbx
      obtain ⟨yf, -⟩ := cells2f hbx
      clear hbx hn1
      go_simp
      have hbx := HBX.out
      have hn1 := HN1.out
      have hbx1 : (W.setCell ⟨nb, 0, none⟩ (.slice B 2 c')).heap[nb]? = some (.cells #[.slice B 2 c', .int .i64 t0] 24 (0, 0)) := blk_put hbx 0 _ rfl
      refine HK.out _ _ ⟨u24, u25, u26, u23, .agg #[.slice B 2 c', .int .i64 7], u28, .pointer (some ⟨nb, 0, none⟩), u6, (by first | (simp only [Act.put, List.setIfInBounds_toArray, List.set_cons_zero, List.set_cons_succ]; done) | (simp only [Act.put, List.setIfInBounds_toArray, List.set_cons_zero, List.set_cons_succ]; rfl)), GK.set hbx1 (GK.set hbx HG.out hn0 hn1 _ _) hn0 hn1 _ _, h0.other (by decide), h1.other (by decide), (h2.other (by decide)).map (fun h => Res.set hbx1 (Res.set hbx h (by decide) _ _) (by decide) _ _), (h3.other (by decide)).map (fun h => Res.set hbx1 (Res.set hbx h (by decide) _ _) (by decide) _ _), (h4.other (by decide)).map (fun h => Lv.set hbx1 (Lv.set hbx h (by decide) _ _) (by decide) _ _), h5.other (by decide), (h6.other (by decide)).map (fun _ => ⟨nb, _, _, _, _, rfl, put2 hbx, hn0, hn1⟩), QI.Lst.self (⟨nb, B, c', rfl, put2 hbx, C_set hbx1 (by simp) (xs := [friends, joe]) (by decide) (C_set hbx (by simp) (xs := [friends, joe]) (by decide) hC' 0 _) 1 _, hc', hn0, hn1⟩), h8.other (by decide)⟩
    · rintro L a W K hK ⟨u24, u25, u26, u23, u27, u28, u5, u6, rfl, hG, h0, h1, h2, h3, h4, h5, h6, h7, h8⟩ hcl hd hu
      have d5 := hd ⟨5, .data⟩ (by simp) rfl
      clear hd
      have HK := Lib.hid hK
      clear hK
      have HG := Lib.hid hG
      clear hG
      rw [if_pos (by rfl)]
      simp only [Act.put, List.setIfInBounds_toArray, List.set_cons_zero, List.set_cons_succ]
      obtain rfl := h5.get d5
      go_simp
      refine HK.out _ _ ⟨u24, u25, u26, u23, u27, .int .i64 10, u5, .int .i64 10, (by first | (simp only [Act.put, List.setIfInBounds_toArray, List.set_cons_zero, List.set_cons_succ]; done) | (simp only [Act.put, List.setIfInBounds_toArray, List.set_cons_zero, List.set_cons_succ]; rfl)), HG.out, h0.other (by decide), h1.other (by decide), h2.other (by decide), h3.other (by decide), h4.other (by decide), h5.other (by decide), h6.other (by decide), h7.other (by decide), QI.Lst.self (rfl)⟩
  case theend =>
    rintro L a W hall ⟨u24, u25, u26, u23, u27, u28, u5, u6, rfl, hG, h0, h1, h2, h3, h4, h5, h6, h7, h8⟩
    obtain rfl := h0.get (hall 0 (by decide))
    obtain rfl := h1.get (hall 1 (by decide))
    obtain rfl := h8.get (hall 8 (by decide))
    obtain ⟨n5, B5, c5, rfl, hx5, hC5, hc5, hg5, hne5⟩ := h7.get (hall 7 (by decide))
    have HG := Lib.hid ((hG.addR hC5 (by decide)).addB hx5)
    clear hall h0 h1 h2 h3 h4 h5 h6 h7 h8 hG hx5 hC5 hne5
    simp only [Act.put, List.setIfInBounds_toArray, List.set_cons_zero, List.set_cons_succ]
    go_upto_region 4 with fail
    refine QI.wp_region_from (fun a0 L a W => ∃ u30 u31 u32 u33 u34 u29 u35 u36 u7 u8 : Value, a = ((((((((((a0.put (some 30) u30).put (some 31) u31).put (some 32) u32).put (some 33) u33).put (some 34) u34).put (some 29) u29).put (some 35) u35).put (some 36) u36).put (some 7) u7).put (some 8) u8) ∧ GK w ((n5, .cells #[.slice B5 2 c5, .int .i64 7] 24 (0, 0)) :: [(nq, ib joe), (nl, .cells #[.slice A1 2 c1, .int .i64 7] 24 (0, 0))]) [(B5, [friends, joe]), (A1, [friends, joe])] W ∧ QI.Lst L 0 (u30 = .agg #[.slice A1 2 c1, .int .i64 7]) ∧ QI.Lst L 1 (u31 = .agg #[.slice A1 2 c1, .int .i64 7]) ∧ QI.Lst L 2 (u32 = .int .i64 2) ∧ QI.Lst L 3 (u33 = iv ann) ∧ QI.Lst L 4 (Res [friends, joe, ann] 7 0 u34 W) ∧ QI.Lst L 5 (Res [friends, joe, ann] 7 0 u29 W) ∧ QI.Lst L 6 (Lv [friends, joe, ann] 7 u35 W) ∧ QI.Lst L 7 (u36 = .int .i64 0) ∧ QI.Lst L 8 (Bx w ((n5, .cells #[.slice B5 2 c5, .int .i64 7] 24 (0, 0)) :: [(nq, ib joe), (nl, .cells #[.slice A1 2 c1, .int .i64 7] 24 (0, 0))]) u7 W) ∧ QI.Lst L 9 (BxOf w ((n5, .cells #[.slice B5 2 c5, .int .i64 7] 24 (0, 0)) :: [(nq, ib joe), (nl, .cells #[.slice A1 2 c1, .int .i64 7] 24 (0, 0))]) [friends, joe, ann] 7 u7 W) ∧ QI.Lst L 10 (u8 = .int .i64 0)) (by kernel_rfl) (by kernel_rfl) ?start ?steps ?theend
    case start => exact ⟨_, _, _, _, _, _, _, _, _, _, (by simp only [Act.put, List.setIfInBounds_toArray, List.set_cons_zero, List.set_cons_succ]; rfl), HG.out.drew, QI.Lst.start, QI.Lst.start, QI.Lst.start, QI.Lst.start, QI.Lst.start, QI.Lst.start, QI.Lst.start, QI.Lst.start, QI.Lst.start, QI.Lst.start, QI.Lst.start⟩
    case steps =>
      refine ⟨?_, ?_, ?_, ?_, ?_, ?_, ?_, ?_, ?_, ?_, ?_, trivial⟩
      · rintro L a W K hK ⟨u30, u31, u32, u33, u34, u29, u35, u36, u7, u8, rfl, hG, h0, h1, h2, h3, h4, h5, h6, h7, h8, h9, h10⟩ hcl hd hu
        clear hd
        have HK := Lib.hid hK
        clear hK
        have HG := Lib.hid hG
        clear hG
        rw [if_pos (by rfl)]
        simp only [Act.put, List.setIfInBounds_toArray, List.set_cons_zero, List.set_cons_succ]
        obtain ⟨a0, a1, -⟩ := cells2 (HG.out.blk nl _ (.tail _ (.tail _ (.head _))))
        go_simp
        refine HK.out _ _ ⟨.agg #[.slice A1 2 c1, .int .i64 7], u31, u32, u33, u34, u29, u35, u36, u7, u8, (by first | (simp only [Act.put, List.setIfInBounds_toArray, List.set_cons_zero, List.set_cons_succ]; done) | (simp only [Act.put, List.setIfInBounds_toArray, List.set_cons_zero, List.set_cons_succ]; rfl)), HG.out, QI.Lst.self (rfl), h1.other (by decide), h2.other (by decide), h3.other (by decide), h4.other (by decide), h5.other (by decide), h6.other (by decide), h7.other (by decide), h8.other (by decide), h9.other (by decide), h10.other (by decide)⟩
      · rintro L a W K hK ⟨u30, u31, u32, u33, u34, u29, u35, u36, u7, u8, rfl, hG, h0, h1, h2, h3, h4, h5, h6, h7, h8, h9, h10⟩ hcl hd hu
        clear hd
        have HK := Lib.hid hK
        clear hK
        have HG := Lib.hid hG
        clear hG
        rw [if_pos (by rfl)]
        simp only [Act.put, List.setIfInBounds_toArray, List.set_cons_zero, List.set_cons_succ]
        obtain ⟨a0, a1, -⟩ := cells2 (HG.out.blk nl _ (.tail _ (.tail _ (.head _))))
        go_simp
        refine HK.out _ _ ⟨u30, .agg #[.slice A1 2 c1, .int .i64 7], u32, u33, u34, u29, u35, u36, u7, u8, (by first | (simp only [Act.put, List.setIfInBounds_toArray, List.set_cons_zero, List.set_cons_succ]; done) | (simp only [Act.put, List.setIfInBounds_toArray, List.set_cons_zero, List.set_cons_succ]; rfl)), HG.out, h0.other (by decide), QI.Lst.self (rfl), h2.other (by decide), h3.other (by decide), h4.other (by decide), h5.other (by decide), h6.other (by decide), h7.other (by decide), h8.other (by decide), h9.other (by decide), h10.other (by decide)⟩
      · rintro L a W K hK ⟨u30, u31, u32, u33, u34, u29, u35, u36, u7, u8, rfl, hG, h0, h1, h2, h3, h4, h5, h6, h7, h8, h9, h10⟩ hcl hd hu
        have d1 := hd ⟨1, .data⟩ (by simp) rfl
        clear hd
        have HK := Lib.hid hK
        clear hK
        have HG := Lib.hid hG
        clear hG
        rw [if_pos (by rfl)]
        simp only [Act.put, List.setIfInBounds_toArray, List.set_cons_zero, List.set_cons_succ]
        obtain rfl := h1.get d1
        have HCALL := Lib.hid (Place_calls 1 7 A1 c1 [friends, joe] W (HG.out.row A1 [friends, joe] (by simp)) (by decide) live_rg)
        rw [live_place] at HCALL
        go_simp
        refine Calls.mono HCALL.out ?_
        rintro en W' ⟨rfl, hbW⟩
        go_simp
        refine HK.out _ _ ⟨u30, .agg #[.slice A1 2 c1, .int .i64 7], .int .i64 2, u33, u34, u29, u35, u36, u7, u8, (by first | (simp only [Act.put, List.setIfInBounds_toArray, List.set_cons_zero, List.set_cons_succ]; done) | (simp only [Act.put, List.setIfInBounds_toArray, List.set_cons_zero, List.set_cons_succ]; rfl)), HG.out.step hbW, h0.other (by decide), h1.other (by decide), QI.Lst.self (rfl), h3.other (by decide), (h4.other (by decide)).map (fun h => h.below hbW), (h5.other (by decide)).map (fun h => h.below hbW), (h6.other (by decide)).map (fun h => h.below hbW), h7.other (by decide), (h8.other (by decide)).map (fun h => h.below hbW), (h9.other (by decide)).map (fun h => h.below hbW), h10.other (by decide)⟩
      · rintro L a W K hK ⟨u30, u31, u32, u33, u34, u29, u35, u36, u7, u8, rfl, hG, h0, h1, h2, h3, h4, h5, h6, h7, h8, h9, h10⟩ hcl hd hu
        have d2 := hd ⟨2, .data⟩ (by simp) rfl
        clear hd
        have HK := Lib.hid hK
        clear hK
        have HG := Lib.hid hG
        clear hG
        rw [if_pos (by rfl)]
        simp only [Act.put, List.setIfInBounds_toArray, List.set_cons_zero, List.set_cons_succ]
        obtain rfl := h2.get d2
        have HCALL := Lib.hid (buddy_calls 1 2 ⟨#[97, 110, 110]⟩ W)
        go_simp
        refine Calls.mono HCALL.out ?_
        rintro en W' ⟨rfl, hbW⟩
        go_simp
        refine HK.out _ _ ⟨u30, u31, .int .i64 2, iv ann, u34, u29, u35, u36, u7, u8, (by first | (simp only [Act.put, List.setIfInBounds_toArray, List.set_cons_zero, List.set_cons_succ]; done) | (simp only [Act.put, List.setIfInBounds_toArray, List.set_cons_zero, List.set_cons_succ]; rfl)), HG.out.step hbW, h0.other (by decide), h1.other (by decide), h2.other (by decide), QI.Lst.self (rfl), (h4.other (by decide)).map (fun h => h.below hbW), (h5.other (by decide)).map (fun h => h.below hbW), (h6.other (by decide)).map (fun h => h.below hbW), h7.other (by decide), (h8.other (by decide)).map (fun h => h.below hbW), (h9.other (by decide)).map (fun h => h.below hbW), h10.other (by decide)⟩
      · rintro L a W K hK ⟨u30, u31, u32, u33, u34, u29, u35, u36, u7, u8, rfl, hG, h0, h1, h2, h3, h4, h5, h6, h7, h8, h9, h10⟩ hcl hd hu
        have d0 := hd ⟨0, .data⟩ (by simp) rfl
        have d3 := hd ⟨3, .data⟩ (by simp) rfl
        clear hd
        have HK := Lib.hid hK
        clear hK
        have HG := Lib.hid hG
        clear hG
        rw [if_pos (by rfl)]
        simp only [Act.put, List.setIfInBounds_toArray, List.set_cons_zero, List.set_cons_succ]
        obtain rfl := h0.get d0
        obtain rfl := h3.get d3
        have HCALL := Lib.hid (Apply_calls 7 A1 c1 [friends, joe] 20 ann W (HG.out.row A1 [friends, joe] (by simp)) hc1 live_sm (by decide) live_mono_ann (by decide) (by decide))
        rw [live_add] at HCALL
        go_simp
        refine Calls.mono HCALL.out ?_
        rintro en W' ⟨B, c', rfl, hC', hc', hbW⟩
        go_simp
        refine HK.out _ _ ⟨.agg #[.slice A1 2 c1, .int .i64 7], u31, u32, iv ann, .tuple #[.agg #[.slice B 3 c', .int .i64 7], .int .i64 0], u29, u35, u36, u7, u8, (by first | (simp only [Act.put, List.setIfInBounds_toArray, List.set_cons_zero, List.set_cons_succ]; done) | (simp only [Act.put, List.setIfInBounds_toArray, List.set_cons_zero, List.set_cons_succ]; rfl)), HG.out.step hbW, h0.other (by decide), h1.other (by decide), h2.other (by decide), h3.other (by decide), QI.Lst.self (⟨B, c', rfl, hC', hc'⟩), (h5.other (by decide)).map (fun h => h.below hbW), (h6.other (by decide)).map (fun h => h.below hbW), h7.other (by decide), (h8.other (by decide)).map (fun h => h.below hbW), (h9.other (by decide)).map (fun h => h.below hbW), h10.other (by decide)⟩
      · rintro L a W K hK ⟨u30, u31, u32, u33, u34, u29, u35, u36, u7, u8, rfl, hG, h0, h1, h2, h3, h4, h5, h6, h7, h8, h9, h10⟩ hcl hd hu
        have d4 := hd ⟨4, .data⟩ (by simp) rfl
        clear hd
        have HK := Lib.hid hK
        clear hK
        have HG := Lib.hid hG
        clear hG
        rw [if_pos (by rfl)]
        simp only [Act.put, List.setIfInBounds_toArray, List.set_cons_zero, List.set_cons_succ]
        go_simp
        refine HK.out _ _ ⟨u30, u31, u32, u33, u34, u34, u35, u36, u7, u8, (by first | (simp only [Act.put, List.setIfInBounds_toArray, List.set_cons_zero, List.set_cons_succ]; done) | (simp only [Act.put, List.setIfInBounds_toArray, List.set_cons_zero, List.set_cons_succ]; rfl)), HG.out, h0.other (by decide), h1.other (by decide), h2.other (by decide), h3.other (by decide), h4.other (by decide), QI.Lst.self (h4.get d4), h6.other (by decide), h7.other (by decide), h8.other (by decide), h9.other (by decide), h10.other (by decide)⟩
      · rintro L a W K hK ⟨u30, u31, u32, u33, u34, u29, u35, u36, u7, u8, rfl, hG, h0, h1, h2, h3, h4, h5, h6, h7, h8, h9, h10⟩ hcl hd hu
        have d5 := hd ⟨5, .data⟩ (by simp) rfl
        clear hd
        have HK := Lib.hid hK
        clear hK
        have HG := Lib.hid hG
        clear hG
        rw [if_pos (by rfl)]
        simp only [Act.put, List.setIfInBounds_toArray, List.set_cons_zero, List.set_cons_succ]
        have hr := h5.get d5
        unfold Res at hr
        obtain ⟨B, c', he, hC', hc'⟩ := hr
        subst he
        go_simp
        refine HK.out _ _ ⟨u30, u31, u32, u33, u34, .tuple #[.agg #[.slice B 3 c', .int .i64 7], .int .i64 0], .agg #[.slice B 3 c', .int .i64 7], u36, u7, u8, (by first | (simp only [Act.put, List.setIfInBounds_toArray, List.set_cons_zero, List.set_cons_succ]; done) | (simp only [Act.put, List.setIfInBounds_toArray, List.set_cons_zero, List.set_cons_succ]; rfl)), HG.out, h0.other (by decide), h1.other (by decide), h2.other (by decide), h3.other (by decide), h4.other (by decide), h5.other (by decide), QI.Lst.self (⟨B, c', rfl, hC', hc'⟩), h7.other (by decide), h8.other (by decide), h9.other (by decide), h10.other (by decide)⟩
      · rintro L a W K hK ⟨u30, u31, u32, u33, u34, u29, u35, u36, u7, u8, rfl, hG, h0, h1, h2, h3, h4, h5, h6, h7, h8, h9, h10⟩ hcl hd hu
        have d5 := hd ⟨5, .data⟩ (by simp) rfl
        clear hd
        have HK := Lib.hid hK
        clear hK
        have HG := Lib.hid hG
        clear hG
        rw [if_pos (by rfl)]
        simp only [Act.put, List.setIfInBounds_toArray, List.set_cons_zero, List.set_cons_succ]
        have hr := h5.get d5
        unfold Res at hr
        obtain ⟨B, c', he, hC', hc'⟩ := hr
        subst he
        go_simp
        refine HK.out _ _ ⟨u30, u31, u32, u33, u34, .tuple #[.agg #[.slice B 3 c', .int .i64 7], .int .i64 0], u35, .int .i64 0, u7, u8, (by first | (simp only [Act.put, List.setIfInBounds_toArray, List.set_cons_zero, List.set_cons_succ]; done) | (simp only [Act.put, List.setIfInBounds_toArray, List.set_cons_zero, List.set_cons_succ]; rfl)), HG.out, h0.other (by decide), h1.other (by decide), h2.other (by decide), h3.other (by decide), h4.other (by decide), h5.other (by decide), h6.other (by decide), QI.Lst.self (rfl), h8.other (by decide), h9.other (by decide), h10.other (by decide)⟩
      · rintro L a W K hK ⟨u30, u31, u32, u33, u34, u29, u35, u36, u7, u8, rfl, hG, h0, h1, h2, h3, h4, h5, h6, h7, h8, h9, h10⟩ hcl hd hu
        clear hd
        have HK := Lib.hid hK
        clear hK
        have HG := Lib.hid hG
        clear hG
        rw [if_pos (by rfl)]
        simp only [Act.put, List.setIfInBounds_toArray, List.set_cons_zero, List.set_cons_succ]
        have hlt := HG.out.lt
        have H24 := Lib.hid hlt
        have HBW := Lib.hid (bel1 W (.cells #[.slice none 0 0, .int .i64 0] 24))
        clear hlt
        go_simp
        have hbW := HBW.out
        refine HK.out _ _ ⟨u30, u31, u32, u33, u34, u29, u35, u36, .pointer (some ⟨W.heap.size, 0, none⟩), u8, (by first | (simp only [Act.put, List.setIfInBounds_toArray, List.set_cons_zero, List.set_cons_succ]; done) | (simp only [Act.put, List.setIfInBounds_toArray, List.set_cons_zero, List.set_cons_succ]; rfl)), HG.out.step hbW, h0.other (by decide), h1.other (by decide), h2.other (by decide), h3.other (by decide), (h4.other (by decide)).map (fun h => h.below hbW), (h5.other (by decide)).map (fun h => h.below hbW), (h6.other (by decide)).map (fun h => h.below hbW), h7.other (by decide), QI.Lst.self (⟨W.heap.size, none, 0, 0, 0, rfl, blk_new W _, HG.out.2.2.size, fun p hp => by have := H24.out p hp; omega⟩), (hcl.not hu (oj := _) rfl ⟨8, .data⟩ (by simp) rfl rfl : QI.Lst L 9 _).other (by decide), h10.other (by decide)⟩
      · rintro L a W K hK ⟨u30, u31, u32, u33, u34, u29, u35, u36, u7, u8, rfl, hG, h0, h1, h2, h3, h4, h5, h6, h7, h8, h9, h10⟩ hcl hd hu
        have d8 := hd ⟨8, .data⟩ (by simp) rfl
        have d6 := hd ⟨6, .data⟩ (by simp) rfl
        clear hd
        have HK := Lib.hid hK
        clear hK
        have HG := Lib.hid hG
        clear hG
        rw [if_pos (by rfl)]
        simp only [Act.put, List.setIfInBounds_toArray, List.set_cons_zero, List.set_cons_succ]
        obtain ⟨B, c', rfl, hC', hc'⟩ := h6.get d6
        obtain ⟨nb, a, n, c, t0, rfl, hbx, hn0, hn1⟩ := h8.get d8
        have HBX := Lib.hid hbx
        have HN1 := Lib.hid hn1
        obtain ⟨y0, y1, -⟩ := cells2 hbx
        obtain ⟨yf, -⟩ := cells2f hbx
        clear hbx hn1
        go_simp
        have hbx := HBX.out
        have hn1 := HN1.out
        have hbx1 : (W.setCell ⟨nb, 0, none⟩ (.slice B 3 c')).heap[nb]? = some (.cells #[.slice B 3 c', .int .i64 t0] 24 (0, 0)) := blk_put hbx 0 _ rfl
        refine HK.out _ _ ⟨u30, u31, u32, u33, u34, u29, .agg #[.slice B 3 c', .int .i64 7], u36, .pointer (some ⟨nb, 0, none⟩), u8, (by first | (simp only [Act.put, List.setIfInBounds_toArray, List.set_cons_zero, List.set_cons_succ]; done) | (simp only [Act.put, List.setIfInBounds_toArray, List.set_cons_zero, List.set_cons_succ]; rfl)), GK.set hbx1 (GK.set hbx HG.out hn0 hn1 _ _) hn0 hn1 _ _, h0.other (by decide), h1.other (by decide), h2.other (by decide), h3.other (by decide), (h4.other (by decide)).map (fun h => Res.set hbx1 (Res.set hbx h (by decide) _ _) (by decide) _ _), (h5.other (by decide)).map (fun h => Res.set hbx1 (Res.set hbx h (by decide) _ _) (by decide) _ _), (h6.other (by decide)).map (fun h => Lv.set hbx1 (Lv.set hbx h (by decide) _ _) (by decide) _ _), h7.other (by decide), (h8.other (by decide)).map (fun _ => ⟨nb, _, _, _, _, rfl, put2 hbx, hn0, hn1⟩), QI.Lst.self (⟨nb, B, c', rfl, put2 hbx, C_set hbx1 (by simp) (xs := [friends, joe, ann]) (by decide) (C_set hbx (by simp) (xs := [friends, joe, ann]) (by decide) hC' 0 _) 1 _, hc', hn0, hn1⟩), h10.other (by decide)⟩
      · rintro L a W K hK ⟨u30, u31, u32, u33, u34, u29, u35, u36, u7, u8, rfl, hG, h0, h1, h2, h3, h4, h5, h6, h7, h8, h9, h10⟩ hcl hd hu
        have d7 := hd ⟨7, .data⟩ (by simp) rfl
        clear hd
        have HK := Lib.hid hK
        clear hK
        have HG := Lib.hid hG
        clear hG
        rw [if_pos (by rfl)]
        simp only [Act.put, List.setIfInBounds_toArray, List.set_cons_zero, List.set_cons_succ]
        obtain rfl := h7.get d7
        go_simp
        refine HK.out _ _ ⟨u30, u31, u32, u33, u34, u29, u35, .int .i64 0, u7, .int .i64 0, (by first | (simp only [Act.put, List.setIfInBounds_toArray, List.set_cons_zero, List.set_cons_succ]; done) | (simp only [Act.put, List.setIfInBounds_toArray, List.set_cons_zero, List.set_cons_succ]; rfl)), HG.out, h0.other (by decide), h1.other (by decide), h2.other (by decide), h3.other (by decide), h4.other (by decide), h5.other (by decide), h6.other (by decide), h7.other (by decide), h8.other (by decide), h9.other (by decide), QI.Lst.self (rfl)⟩
    case theend =>
      rintro L a W2 hall ⟨u30, u31, u32, u33, u34, u29, u35, u36, u7, u8, rfl, hG, h0, h1, h2, h3, h4, h5, h6, h7, h8, h9, h10⟩
      obtain rfl := h0.get (hall 0 (by decide))
      obtain rfl := h1.get (hall 1 (by decide))
      obtain rfl := h2.get (hall 2 (by decide))
      obtain rfl := h3.get (hall 3 (by decide))
      obtain rfl := h10.get (hall 10 (by decide))
      obtain ⟨n7, B7, c7, rfl, hx7, hC7, hc7, hg7, hne7⟩ := h9.get (hall 9 (by decide))
      have HG2 := Lib.hid ((hG.addR hC7 (by decide)).addB hx7)
      clear hall h0 h1 h2 h3 h4 h5 h6 h7 h8 h9 h10 hG hx7 hC7 hne7
      simp only [Act.put, List.setIfInBounds_toArray, List.set_cons_zero, List.set_cons_succ]
      go_upto_region 5 with fail
      go_wp2_with fail
      refine Calls.mono (buddy_calls 1 1 ⟨#[106, 111, 101]⟩ W2) ?_
      rintro en w8 ⟨rfl, hb8⟩
      have HG3 := Lib.hid (HG2.out.step hb8)
      clear hb8
      have HPUT := Lib.hid (Put_calls 0 (some ⟨w8.heap.size, 0, none⟩) 1 [joe] [joe] (w8.alloc (ib joe)) (C_one (blk_new w8 _)) (by decide) (by decide) rfl (sorts_one joe) live_sm1 live_rg1)
      go_wp2_with fail
      refine Calls.mono HPUT.out ?_
      rintro en w9 ⟨h1, hb9⟩
      rw [if_neg (by rw [live_check0]; exact Bool.false_ne_true)] at h1
      subst h1
      have HG4 := Lib.hid ((HG3.out.step (bel1 w8 (ib joe))).step hb9)
      clear hb9 HPUT
      go_upto_region 6 with fail
      have HG5 := Lib.hid (HG4.out.step (bel1 w9 (.cells #[.slice none 0 0, .int .i64 0] 24)))
      generalize w9.alloc (.cells #[.slice none 0 0, .int .i64 0] 24) = X at *
      go_wp2_with fail
      refine Calls.mono (wharflaw17_num.calls 0 0 X rfl) ?_
      rintro en x1 ⟨rfl, hd1⟩
      have HX1 := Lib.hid (HG5.out.step hd1.below)
      clear hd1
      obtain ⟨a0, a1, -⟩ := cells2 (HX1.out.blk nl _ (.tail _ (.tail _ (.tail _ (.head _)))))
      obtain ⟨b0, b1, -⟩ := cells2 (HX1.out.blk n5 _ (.tail _ (.head _)))
      obtain ⟨q0, q1, q2, q3, q4, q5, _, _, _, _, _, _⟩ := cells6 (HX1.out.blk nq _ (.tail _ (.tail _ (.head _))))
      have hjo : joe.f0.toList = [106, 111, 101] := live_joe_name
      have HSR := Lib.hid (refSame_calls B5 c5 A1 c1 [friends, joe] 7 x1 (HX1.out.row B5 [friends, joe] (.tail _ (.head _))) hc5 (HX1.out.row A1 [friends, joe] (.tail _ (.tail _ (.head _)))) hc1 (by decide))
      go_wp2_with fail
      refine Calls.mono HSR.out ?_
      rintro en x2 ⟨rfl, hd2⟩
      have HX2 := Lib.hid (HX1.out.step hd2)
      clear hd2 HSR a0 a1 b0 b1 q0 q1 q2 q3 q4 q5
      obtain ⟨a0, a1, -⟩ := cells2 (HX2.out.blk nl _ (.tail _ (.tail _ (.tail _ (.head _)))))
      obtain ⟨b0, b1, -⟩ := cells2 (HX2.out.blk n7 _ (.head _))
      have HRM := Lib.hid (Room_calls 7 A1 c1 [friends, joe] x2 (HX2.out.row A1 [friends, joe] (.tail _ (.tail _ (.head _)))) (by decide) live_rg)
      rw [live_room] at HRM
      go_wp2_with fail
      refine Calls.mono HRM.out ?_
      rintro en x3 ⟨rfl, hd3⟩
      have HX3 := Lib.hid (HX2.out.step hd3)
      clear hd3 HRM a0 a1 b0 b1
      obtain ⟨a0, a1, -⟩ := cells2 (HX3.out.blk nl _ (.tail _ (.tail _ (.tail _ (.head _)))))
      have HTI := Lib.hid (Title_calls 1 7 A1 c1 [friends, joe] x3 (HX3.out.row A1 [friends, joe] (.tail _ (.tail _ (.head _)))) live_sm)
      rw [live_title] at HTI
      go_wp2_with fail
      refine Calls.mono HTI.out ?_
      rintro en x4 ⟨rfl, hd4⟩
      have HX4 := Lib.hid (HX3.out.step hd4)
      clear hd4 HTI a0 a1
      have hfr : friends.f0.toList = [70, 114, 105, 101, 110, 100, 115] := live_friends_name
      go_wp2_with fail
      refine Calls.mono (wharflaw17_num.calls 170 170 x4 rfl) ?_
      rintro en x5 ⟨rfl, hd5⟩
      have HX5 := Lib.hid (HX4.out.step hd5.below)
      clear hd5
      obtain ⟨a0, a1, -⟩ := cells2 (HX5.out.blk nl _ (.tail _ (.tail _ (.tail _ (.head _)))))
      have HLS := Lib.hid (listSame_calls A1 c1 [friends, joe] 7 x5 (HX5.out.row A1 [friends, joe] (.tail _ (.tail _ (.head _)))) hc1 (by decide))
      go_wp2_with fail
      refine Calls.mono HLS.out ?_
      rintro en x6 ⟨rfl, hd6⟩
      have HX6 := Lib.hid (HX5.out.step hd6)
      clear hd6 HLS a0 a1
      go_wp2_with fail
      go_ret
      exact ⟨rfl, HX6.out.2.2⟩

end Go.Proofs.YtdfppdkhiejbdaaGreatDoor.Li
end

section
/- Package list, plain law: what Check tells; a list is followed by a list. -/
set_option linter.unusedVariables false
set_option linter.unusedSimpArgs false
namespace Go.Proofs.YtdfppdkhiejbdaaGreatDoor.Li
open Go.RowKit Go.Proofs.YtdfppdkhiejbdaaGreatDoor.PList Go.Proofs.YtdfppdkhiejbdaaGreatDoorW.PrintWords

def LtI (x y : S26) : Prop := x.f1 < y.f1 ∨ (x.f1 = y.f1 ∧ x.f2 < y.f2)
theorem cmp_lt (x y : S26) : cmpB x y < 0 ↔ LtI x y := by
  unfold cmpB cmpP orI cmpI LtI
  constructor
  · intro h
    repeat' split at h
    all_goals omega
  · intro h
    repeat' split
    all_goals omega
theorem cmp_eq (x y : S26) : cmpB x y = 0 ↔ x.f1 = y.f1 ∧ x.f2 = y.f2 := by
  unfold cmpB cmpP orI cmpI
  constructor
  · intro h
    repeat' split at h
    all_goals omega
  · intro h
    repeat' split
    all_goals omega
theorem LtI.trans {x y z : S26} (h : LtI x y) (k : LtI y z) : LtI x z := by unfold LtI at *; omega
theorem LtI.irrefl (x : S26) : ¬ LtI x x := by unfold LtI; omega
theorem not_lt {x y : S26} (h : ¬ LtI x y) (he : cmpB x y ≠ 0) : LtI y x := by
  rw [Ne, cmp_eq] at he
  unfold LtI at *; omega

/-- A list that may be. -/
structure Good (xs : List S26) : Prop where
  item : ∀ x ∈ xs, itemB x = true
  fits : ∀ x ∈ xs, fitsB xs x = true
  ord : xs.Pairwise LtI
  keys : xs.Pairwise fun a b => keyB a ≠ keyB b

def Adj : Option S26 → List S26 → Prop
  | _, [] => True
  | p, x :: t => prevB p x = false ∧ Adj (some x) t
theorem adj_some : ∀ (y : S26) (l : List S26), Adj (some y) l ↔ (y :: l).Pairwise LtI
  | y, [] => by simp [Adj]
  | y, x :: t => by
    unfold Adj
    rw [adj_some x t]
    have e : prevB (some y) x = false ↔ LtI y x := by
      unfold prevB
      rw [← cmp_lt]
      simp
    rw [e, List.pairwise_cons (a := y)]
    constructor
    · rintro ⟨h, k⟩
      refine ⟨fun z hz => ?_, k⟩
      rcases List.mem_cons.mp hz with rfl | hz
      · exact h
      · exact h.trans (List.rel_of_pairwise_cons k hz)
    · rintro ⟨h, k⟩
      exact ⟨h x (by simp), k⟩
theorem adj_none : ∀ l : List S26, Adj none l ↔ l.Pairwise LtI
  | [] => by simp [Adj]
  | x :: t => by unfold Adj; rw [adj_some]; simp [prevB]

theorem check_from (xs : List S26) : ∀ (l : List S26) (p : Option S26) (seen : List S26), checkFrom xs p seen l = true ↔
    (∀ x ∈ l, itemB x = true ∧ fitsB xs x = true ∧ keyB x ∉ seen) ∧ Adj p l ∧ l.Pairwise fun a b => keyB a ≠ keyB b
  | [], p, seen => by simp [checkFrom, Adj]
  | x :: t, p, seen => by
    rw [checkFrom, Bool.and_eq_true, check_from xs t (some x) (keyB x :: seen)]
    unfold badB
    have ha : Adj p (x :: t) = (prevB p x = false ∧ Adj (some x) t) := rfl
    rw [ha]
    have hd : dupB seen (keyB x) = false ↔ keyB x ∉ seen := by rw [← dup_iff]; simp
    simp only [Bool.not_eq_true', Bool.or_eq_false_iff, Bool.not_eq_false']
    rw [hd, List.pairwise_cons]
    constructor
    · rintro ⟨⟨⟨⟨h1, h2⟩, h3⟩, h4⟩, h5, h6, h7⟩
      refine ⟨fun z hz => ?_, ⟨h4, h6⟩, fun z hz => ?_, h7⟩
      · rcases List.mem_cons.mp hz with rfl | hz
        · exact ⟨h2, h3, h1⟩
        · exact ⟨(h5 z hz).1, (h5 z hz).2.1, fun hh => (h5 z hz).2.2 (by simp [hh])⟩
      · intro e
        exact (h5 z hz).2.2 (by simp [e])
    · rintro ⟨h1, ⟨h4, h6⟩, h2, h7⟩
      have hx := h1 x (by simp)
      refine ⟨⟨⟨⟨hx.2.2, hx.1⟩, hx.2.1⟩, h4⟩, fun z hz => ?_, h6, h7⟩
      have hz1 := h1 z (by simp [hz])
      refine ⟨hz1.1, hz1.2.1, ?_⟩
      intro hh
      rcases List.mem_cons.mp hh with e | hh
      · exact h2 z hz e.symm
      · exact hz1.2.2 hh

theorem good_iff (xs : List S26) : checkFrom xs none [] xs = true ↔ Good xs := by
  rw [check_from, adj_none]
  constructor
  · rintro ⟨h1, h2, h3⟩
    exact ⟨fun x hx => (h1 x hx).1, fun x hx => (h1 x hx).2.1, h2, h3⟩
  · rintro ⟨h1, h2, h3, h4⟩
    exact ⟨fun x hx => ⟨h1 x hx, h2 x hx, by simp⟩, h3, h4⟩

theorem check_iff (xs : List S26) (t : Int) : checkB xs t = true ↔ xs.length ≤ 100 ∧ 0 ≤ t ∧ t < 4294967296 ∧ Good xs := by
  unfold checkB
  rw [← good_iff]
  simp only [Bool.and_eq_true, decide_eq_true_eq]
  constructor
  · rintro ⟨⟨⟨h1, h2⟩, h3⟩, h4⟩; exact ⟨by omega, h2, h3, h4⟩
  · rintro ⟨h1, h2, h3, h4⟩; exact ⟨⟨⟨by omega, h2⟩, h3⟩, h4⟩

theorem mono_of_ord (x : S26) {xs : List S26} (h : xs.Pairwise LtI) : MonoB x xs := by
  intro a b hab ha hb hlt
  rcases Nat.eq_or_lt_of_le hab with rfl | hab
  · exact hlt
  · rw [cmp_lt] at hlt ⊢
    exact (List.pairwise_iff_getElem.mp h a b ha hb hab).trans hlt

theorem pos_cons (x y : S26) (t : List S26) : posB x (y :: t) = if cmpB y x < 0 then posB x t + 1 else posB x t := by
  unfold posB
  rw [List.countP_cons]
  split <;> simp_all
theorem pos_zero (x : S26) : ∀ (t : List S26), (∀ z ∈ t, ¬ LtI z x) → posB x t = 0
  | [], _ => rfl
  | y :: t, h => by
    rw [pos_cons, if_neg (by rw [cmp_lt]; exact h y (by simp)), pos_zero x t fun z hz => h z (by simp [hz])]

theorem parts (x : S26) : ∀ (xs : List S26), xs.Pairwise LtI → (∀ y ∈ xs.take (posB x xs), LtI y x) ∧ (∀ y ∈ xs.drop (posB x xs), ¬ LtI y x)
  | [], _ => by simp
  | y :: t, h => by
    obtain ⟨h1, h2⟩ := List.pairwise_cons.mp h
    rw [pos_cons]
    by_cases hy : LtI y x
    · rw [if_pos ((cmp_lt y x).mpr hy), List.take_succ_cons, List.drop_succ_cons]
      obtain ⟨i1, i2⟩ := parts x t h2
      refine ⟨fun z hz => ?_, i2⟩
      rcases List.mem_cons.mp hz with rfl | hz
      · exact hy
      · exact i1 z hz
    · have hz : ∀ z ∈ t, ¬ LtI z x := fun z hz hh => hy ((h1 z hz).trans hh)
      rw [if_neg (by rw [cmp_lt]; exact hy), pos_zero x t hz]
      refine ⟨by simp, fun z hz' => ?_⟩
      rw [List.drop_zero] at hz'
      rcases List.mem_cons.mp hz' with rfl | hz'
      · exact hy
      · exact hz z hz'

/-- Ahead of x all is less; behind, all is more. -/
theorem split_ord (x : S26) {xs : List S26} (h : xs.Pairwise LtI) : (∀ y ∈ aheadB x xs, LtI y x) ∧ (∀ y ∈ behindB x xs, LtI x y) := by
  obtain ⟨h1, h2⟩ := parts x xs h
  refine ⟨h1, ?_⟩
  rcases hit_cases x xs with ⟨hh, _, _⟩ | ⟨y, hlt, hy, hh, _, hxs⟩
  · unfold behindB
    rw [hh, if_neg Bool.false_ne_true]
    intro y hy
    refine not_lt (h2 y hy) ?_
    intro he
    by_cases hp : posB x xs < xs.length
    · have hd : xs.drop (posB x xs) = xs[posB x xs] :: xs.drop (posB x xs + 1) := List.drop_eq_getElem_cons hp
      have hne : cmpB xs[posB x xs] x ≠ 0 := by
        intro e
        unfold hitB at hh
        rw [List.getElem?_eq_getElem hp] at hh
        simp [e] at hh
      have hgt := not_lt (h2 xs[posB x xs] (by rw [hd]; exact List.mem_cons_self)) hne
      rw [hd] at hy
      rcases List.mem_cons.mp hy with rfl | hy
      · exact hne he
      · have hpw : (xs.drop (posB x xs)).Pairwise LtI := h.drop
        rw [hd] at hpw
        have := List.rel_of_pairwise_cons hpw hy
        have hxy := hgt.trans this
        rw [cmp_eq] at he
        unfold LtI at hxy; omega
    · rw [List.drop_of_length_le (by omega)] at hy
      cases hy
  · unfold behindB
    rw [hh, if_pos rfl]
    intro z hz
    have hd : xs.drop (posB x xs) = xs[posB x xs] :: xs.drop (posB x xs + 1) := List.drop_eq_getElem_cons hlt
    have hpw : (xs.drop (posB x xs)).Pairwise LtI := h.drop
    rw [hd] at hpw
    have h3 := List.rel_of_pairwise_cons hpw hz
    have he : cmpB xs[posB x xs] x = 0 := by
      unfold hitB at hh
      rw [List.getElem?_eq_getElem hlt] at hh
      simpa using hh
    rw [cmp_eq] at he
    unfold LtI at *; omega

theorem hit_eq {x : S26} {xs : List S26} {y : S26} (hlt : posB x xs < xs.length) (hy : xs[posB x xs] = y) (hh : hitB x xs = true) : y.f1 = x.f1 ∧ y.f2 = x.f2 := by
  unfold hitB at hh
  rw [List.getElem?_eq_getElem hlt, hy] at hh
  rw [← cmp_eq]
  simpa using hh

theorem fits_of {xs ys : List S26} {z : S26} (h : fitsB xs z = true) (hs : isG z = false → xs.any (inG z.f1) = true → ys.any (inG z.f1) = true) : fitsB ys z = true := by
  unfold fitsB at *
  cases hg : isG z with
  | true => rw [hg] at h; simpa using h
  | false =>
    rw [hg] at h
    simp only [Bool.false_eq_true, if_false, Bool.and_eq_true] at h ⊢
    exact ⟨h.1, hs hg h.2⟩

theorem any_mono {xs ys : List S26} {p : S26 → Bool} (h : ∀ x ∈ xs, p x = true → ∃ y ∈ ys, p y = true) (hx : xs.any p = true) : ys.any p = true := by
  rw [List.any_eq_true] at *
  obtain ⟨x, hx, hp⟩ := hx
  exact h x hx hp

theorem Good.insert {p q : List S26} {x : S26} (h : Good (p ++ q)) (h1 : ∀ y ∈ p, LtI y x) (h2 : ∀ y ∈ q, LtI x y) (hi : itemB x = true) (hf : fitsB (p ++ q) x = true) (hk : ∀ y ∈ p ++ q, keyB y ≠ keyB x) : Good (p ++ x :: q) := by
  have hsub : ∀ z, z ∈ p ++ q → z ∈ p ++ x :: q := fun z hz => by simp at hz ⊢; rcases hz with h | h <;> simp [h]
  have hfit : ∀ z, fitsB (p ++ q) z = true → fitsB (p ++ x :: q) z = true := fun z hz => fits_of hz fun _ ha => any_mono (fun u hu hp => ⟨u, hsub u hu, hp⟩) ha
  obtain ⟨o1, o2, o3⟩ := List.pairwise_append.mp h.ord
  obtain ⟨k1, k2, k3⟩ := List.pairwise_append.mp h.keys
  refine ⟨fun z hz => ?_, fun z hz => ?_, ?_, ?_⟩
  · simp at hz
    rcases hz with hz | rfl | hz
    · exact h.item z (by simp [hz])
    · exact hi
    · exact h.item z (by simp [hz])
  · simp at hz
    rcases hz with hz | rfl | hz
    · exact hfit z (h.fits z (by simp [hz]))
    · exact hfit z hf
    · exact hfit z (h.fits z (by simp [hz]))
  · refine List.pairwise_append.mpr ⟨o1, List.pairwise_cons.mpr ⟨h2, o2⟩, fun a ha b hb => ?_⟩
    rcases List.mem_cons.mp hb with rfl | hb
    · exact h1 a ha
    · exact o3 a ha b hb
  · refine List.pairwise_append.mpr ⟨k1, List.pairwise_cons.mpr ⟨fun b hb e => hk b (by simp [hb]) e.symm, k2⟩, fun a ha b hb => ?_⟩
    rcases List.mem_cons.mp hb with rfl | hb
    · exact hk a (by simp [ha])
    · exact k3 a ha b hb

theorem pw_erase {R : S26 → S26 → Prop} {p q : List S26} {y : S26} (h : (p ++ y :: q).Pairwise R) : (p ++ q).Pairwise R := by
  refine h.sublist ?_
  exact List.Sublist.append (List.Sublist.refl _) (List.sublist_cons_self _ _)

/-- y taken away, z unless what stays leans on it. -/
theorem Good.erase {p q : List S26} {y : S26} (h : Good (p ++ y :: q)) (hn : isG y = true → ∀ z ∈ p ++ q, fullB y z = false) : Good (p ++ q) := by
  have hsub : ∀ z, z ∈ p ++ q → z ∈ p ++ y :: q := fun z hz => by simp at hz ⊢; rcases hz with h | h <;> simp [h]
  refine ⟨fun z hz => h.item z (hsub z hz), fun z hz => ?_, pw_erase h.ord, pw_erase h.keys⟩
  refine fits_of (h.fits z (hsub z hz)) fun hg ha => ?_
  refine any_mono (fun u hu hp => ?_) ha
  simp at hu
  rcases hu with hu | rfl | hu
  · exact ⟨u, by simp [hu], hp⟩
  · exfalso
    unfold inG at hp
    simp only [Bool.and_eq_true, beq_iff_eq] at hp
    have := hn hp.1 z hz
    unfold fullB at this
    simp [hg, hp.2] at this
  · exact ⟨u, by simp [hu], hp⟩

/-- y in another form. -/
theorem Good.set {p q : List S26} {x y : S26} (h : Good (p ++ y :: q)) (he : y.f1 = x.f1 ∧ y.f2 = x.f2) (ht : y.f3 = x.f3) (hi : itemB x = true) (hf : fitsB (p ++ y :: q) x = true) (hk : ∀ z ∈ p ++ q, keyB z ≠ keyB x) : Good (p ++ x :: q) := by
  have hgx : ∀ g, inG g y = inG g x := fun g => by unfold inG isG; rw [ht, he.1]
  have hfit : ∀ z, fitsB (p ++ y :: q) z = true → fitsB (p ++ x :: q) z = true := fun z hz => fits_of hz fun _ ha => any_mono (fun u hu hp => by
    simp at hu
    rcases hu with hu | rfl | hu
    · exact ⟨u, by simp [hu], hp⟩
    · exact ⟨x, by simp, by rw [← hgx]; exact hp⟩
    · exact ⟨u, by simp [hu], hp⟩) ha
  obtain ⟨o1, o2, o3⟩ := List.pairwise_append.mp h.ord
  obtain ⟨o4, o5⟩ := List.pairwise_cons.mp o2
  obtain ⟨k1, k2, k3⟩ := List.pairwise_append.mp h.keys
  obtain ⟨k4, k5⟩ := List.pairwise_cons.mp k2
  refine ⟨fun z hz => ?_, fun z hz => ?_, ?_, ?_⟩
  · simp at hz
    rcases hz with hz | rfl | hz
    · exact h.item z (by simp [hz])
    · exact hi
    · exact h.item z (by simp [hz])
  · simp at hz
    rcases hz with hz | rfl | hz
    · exact hfit z (h.fits z (by simp [hz]))
    · exact hfit z hf
    · exact hfit z (h.fits z (by simp [hz]))
  · refine List.pairwise_append.mpr ⟨o1, List.pairwise_cons.mpr ⟨fun b hb => ?_, o5⟩, fun a ha b hb => ?_⟩
    · have := o4 b hb; unfold LtI at *; omega
    · rcases List.mem_cons.mp hb with rfl | hb
      · have := o3 a ha y (by simp); unfold LtI at *; omega
      · exact o3 a ha b (by simp [hb])
  · refine List.pairwise_append.mpr ⟨k1, List.pairwise_cons.mpr ⟨fun b hb e => hk b (by simp [hb]) e.symm, k5⟩, fun a ha b hb => ?_⟩
    rcases List.mem_cons.mp hb with rfl | hb
    · exact hk a (by simp [ha])
    · exact k3 a ha b (by simp [hb])

theorem no_twin {x : S26} {l : List S26} (h : l.any (twinB x) = false) : ∀ y ∈ l, keyB y ≠ keyB x := by
  intro y hy e
  rw [List.any_eq_false] at h
  exact h y hy (by unfold twinB; rw [eqI_iff]; exact e)

theorem lacks_ok {xs : List S26} {k : Int} {x was : S26} {there : Bool} (h : lacksB xs k x was there = 0) :
    ((k = 20 ∧ there = false ∧ xs.length < 100) ∨ (k = 21 ∧ there = true ∧ was.f3 = x.f3)) ∧ itemB x = true ∧ fitsB xs x = true ∨
    (k = 22 ∧ there = true ∧ (isG was = true → xs.any (fullB was) = false)) := by
  unfold lacksB lacksR at h
  by_cases h20 : k = 20
  · subst h20
    simp at h
    split at h
    · rename_i hi
      cases there with
      | false =>
        simp at h
        exact .inl ⟨.inl ⟨rfl, rfl, by omega⟩, hi⟩
      | true => simp at h
    · omega
  · by_cases h21 : k = 21
    · subst h21
      simp at h
      split at h
      · rename_i hi
        cases there with
        | false => simp at h
        | true =>
          simp at h
          exact .inl ⟨.inr ⟨rfl, rfl, h⟩, hi⟩
      · omega
    · by_cases h22 : k = 22
      · subst h22
        cases there with
        | false => simp at h
        | true =>
          simp at h
          refine .inr ⟨rfl, rfl, fun hi => ?_⟩
          simpa using fun z hz => by simpa using h hi z hz
      · simp [h20, h21, h22] at h

/-- What a change does to a list that may be. -/
theorem apply_cases {xs : List S26} (hg : Good xs) (hl : xs.length ≤ 100) (k : Int) (x : S26) :
    (∃ c, c ≠ 0 ∧ applyB xs k x = (xs, c)) ∨
    (∃ p q, k = 20 ∧ xs = p ++ q ∧ applyB xs k x = (p ++ x :: q, 0) ∧ Good (p ++ x :: q) ∧ xs.length < 100) ∨
    (∃ p q y, k = 21 ∧ xs = p ++ y :: q ∧ applyB xs k x = (p ++ x :: q, 0) ∧ Good (p ++ x :: q)) ∨
    (∃ p q y, k = 22 ∧ xs = p ++ y :: q ∧ applyB xs k x = (p ++ q, 0) ∧ Good (p ++ q)) := by
  obtain ⟨s1, s2⟩ := split_ord x hg.ord
  by_cases hc : lacksB xs k x (wasB x xs) (hitB x xs) = 0
  · have hap : applyB xs k x = if k = 22 then (aheadB x xs ++ behindB x xs, 0) else if (aheadB x xs ++ behindB x xs).any (twinB x) = true then (xs, 3) else (aheadB x xs ++ x :: behindB x xs, 0) := by
      unfold applyB; simp only [hc, ne_eq, not_true_eq_false, if_false]
    rcases hit_cases x xs with ⟨hh, hw, hxs⟩ | ⟨y, hlt, hy, hh, hw, hxs⟩
    · rw [hh, hw] at hc
      rcases lacks_ok hc with ⟨⟨rfl, _, hn⟩ | ⟨_, h, _⟩, hi, hf⟩ | ⟨_, h, _⟩
      · rw [if_neg (by omega)] at hap
        cases hany : (aheadB x xs ++ behindB x xs).any (twinB x) with
        | true => rw [hany, if_pos rfl] at hap; exact .inl ⟨3, by omega, hap⟩
        | false =>
          rw [hany, if_neg Bool.false_ne_true] at hap
          refine .inr (.inl ⟨_, _, rfl, hxs.symm, hap, ?_, hn⟩)
          exact Good.insert (by rw [hxs]; exact hg) s1 s2 hi (by rw [hxs]; exact hf) (no_twin hany)
      · cases h
      · cases h
    · rw [hh, hw] at hc
      rcases lacks_ok hc with ⟨⟨_, h, _⟩ | ⟨rfl, _, ht⟩, hi, hf⟩ | ⟨rfl, _, hn⟩
      · cases h
      · rw [if_neg (by omega)] at hap
        cases hany : (aheadB x xs ++ behindB x xs).any (twinB x) with
        | true => rw [hany, if_pos rfl] at hap; exact .inl ⟨3, by omega, hap⟩
        | false =>
          rw [hany, if_neg Bool.false_ne_true] at hap
          refine .inr (.inr (.inl ⟨_, _, y, rfl, hxs, hap, ?_⟩))
          exact Good.set (by rw [← hxs]; exact hg) (hit_eq hlt hy hh) ht hi (by rw [← hxs]; exact hf) (no_twin hany)
      · rw [if_pos rfl] at hap
        refine .inr (.inr (.inr ⟨_, _, y, rfl, hxs, hap, ?_⟩))
        refine Good.erase (y := y) (by rw [← hxs]; exact hg) fun hgy z hz => ?_
        have := hn hgy
        rw [List.any_eq_false] at this
        have hz' : z ∈ xs := by rw [hxs]; simp at hz ⊢; rcases hz with h | h <;> simp [h]
        simpa using this z hz'
  · exact .inl ⟨_, hc, by unfold applyB; simp only [ne_eq, hc, not_false_eq_true, if_true]⟩

end Go.Proofs.YtdfppdkhiejbdaaGreatDoor.Li
end

section
/- Package list's laws: items; what a law's arguments are. -/
set_option linter.unusedVariables false
set_option linter.unusedSimpArgs false
namespace Go.Proofs.YtdfppdkhiejbdaaGreatDoor.Li
open Go.RowKit Go.Proofs.YtdfppdkhiejbdaaGreatDoor.PList Go.Proofs.YtdfppdkhiejbdaaGreatDoorW.PrintWords

/-- Items that came in. -/
def Came (xs : List S26) : Prop := xs.length ≤ 4398046511104 ∧ ∀ x ∈ xs, x.f0.size ≤ 140737488355328 ∧ x.f4.size ≤ 140737488355328 ∧ (Lit.int .i64 x.f1).wf = true ∧ (Lit.int .i64 x.f2).wf = true ∧ (Lit.int .i64 x.f3).wf = true
theorem Came.rg {xs : List S26} (h : Came xs) : Rg xs := fun x hx => (h.2 x hx).2.2

theorem wrap_far {i n : Nat} (h : i < n) (hn : n ≤ 4398046511104) : wrap64 ((i : Int) + 1) = ((i + 1 : Nat) : Int) := by unfold wrap64; omega

theorem items_from (xs : List S26) (h : Came xs) (d : Nat) : ∀ (i : Nat) (n : Int), xs.length - i = d → 0 ≤ n → n ≤ 562949953421312 →
    ∃ b, (∀ k, d < k → wharflaw17_items.l0 k xs n i = some b) ∧ (b = true → xs.length ≤ 120 ∧ n ≤ 12000 ∧ ∀ j, i ≤ j → ∀ hj : j < xs.length, n + (xs[j].f0.size : Int) + (xs[j].f4.size : Int) ≤ 12000) := by
  induction d with
  | zero =>
    intro i n hd h0 h1
    by_cases hl : (xs.length : Int) ≤ 120
    · refine ⟨decide (n ≤ 12000), fun k hk => ?_, fun hb => ⟨by omega, by simpa using hb, fun j hj hj2 => by omega⟩⟩
      obtain ⟨m, rfl⟩ : ∃ m, k = m + 1 := ⟨k - 1, by omega⟩
      simp only [wharflaw17_items.l0]
      rw [if_neg (by omega), if_pos hl]
    · refine ⟨false, fun k hk => ?_, fun hb => by cases hb⟩
      obtain ⟨m, rfl⟩ : ∃ m, k = m + 1 := ⟨k - 1, by omega⟩
      simp only [wharflaw17_items.l0]
      rw [if_neg (by omega), if_neg hl]
  | succ d ih =>
    intro i n hd h0 h1
    have hi : i < xs.length := by omega
    by_cases h2 : (i : Int) ≤ 120 ∧ n ≤ 12000
    · obtain ⟨s0, s4, _⟩ := h.2 xs[i] (List.getElem_mem hi)
      obtain ⟨b, hb, hbt⟩ := ih (i + 1) (n + 1 + (xs[i].f0.size : Int) + (xs[i].f4.size : Int)) (by omega) (by omega) (by omega)
      refine ⟨b, fun k hk => ?_, fun e => ?_⟩
      · obtain ⟨m, rfl⟩ : ∃ m, k = m + 1 := ⟨k - 1, by omega⟩
        simp only [wharflaw17_items.l0]
        rw [if_pos (by omega), if_pos h2.1, if_pos h2.2, if_pos (by omega), rd_at xs i hi, wrap_far hi h.1]
        have e1 : wrap64 (n + 1) = n + 1 := by unfold wrap64; omega
        have e2 : wrap64 (n + 1 + (xs[i].f0.size : Int)) = n + 1 + (xs[i].f0.size : Int) := by unfold wrap64; omega
        have e3 : wrap64 (n + 1 + (xs[i].f0.size : Int) + (xs[i].f4.size : Int)) = n + 1 + (xs[i].f0.size : Int) + (xs[i].f4.size : Int) := by unfold wrap64; omega
        rw [e1, e2, e3]
        exact hb m (by omega)
      · obtain ⟨t1, t2, t3⟩ := hbt e
        refine ⟨t1, h2.2, fun j hj hj2 => ?_⟩
        rcases Nat.eq_or_lt_of_le hj with rfl | hj
        · omega
        · have := t3 j (by omega) hj2; omega
    · refine ⟨false, fun k hk => ?_, fun hb => by cases hb⟩
      obtain ⟨m, rfl⟩ : ∃ m, k = m + 1 := ⟨k - 1, by omega⟩
      simp only [wharflaw17_items.l0]
      rw [if_pos (by omega)]
      by_cases h3 : (i : Int) ≤ 120
      · have h4 : ¬ n ≤ 12000 := fun hh => h2 ⟨h3, hh⟩
        rw [if_pos h3, if_neg h4]
        split <;> simp [h4]
      · rw [if_neg h3, if_neg (by omega)]

theorem items_any (A : Option Addr) (c : Nat) (xs : List S26) (h : Came xs) (hcap : xs.length ≤ c) : ∃ b : Bool, (b = true → xs.length ≤ 120 ∧ ∀ x ∈ xs, x.f0.size + x.f4.size ≤ 12000) ∧
    ∀ w, Kd.C k26 w A xs.length xs → Calls Tryz.prog 6 #[.slice A xs.length c] w fun e w' => e = .returned (.bool b) ∧ Below w.heap.size w w' := by
  obtain ⟨b, h1, h2⟩ := items_from xs h xs.length 0 0 (by omega) (by omega) (by omega)
  refine ⟨b, fun e => ?_, fun w hC => ?_⟩
  · obtain ⟨t1, _, t3⟩ := h2 e
    refine ⟨t1, fun x hx => ?_⟩
    obtain ⟨j, hj, rfl⟩ := List.getElem_of_mem hx
    have := t3 j (by omega) hj
    omega
  · refine Calls.mono (wharflaw17_items.calls (xs.length + 1) A c xs b w hC hcap ?_) fun e w' ⟨he, hd⟩ => ⟨he, hd.below⟩
    exact h1 _ (by omega)

theorem sm_of {xs : List S26} (h : xs.length ≤ 120 ∧ ∀ x ∈ xs, x.f0.size + x.f4.size ≤ 12000) : Sm xs := ⟨by omega, fun x hx => by have := h.2 x hx; omega⟩

end Go.Proofs.YtdfppdkhiejbdaaGreatDoor.Li
end

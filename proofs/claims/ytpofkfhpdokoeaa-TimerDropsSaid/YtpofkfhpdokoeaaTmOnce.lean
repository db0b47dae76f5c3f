/- The statement TimerOnce, walked. -/
import Derived.Test.YtpofkfhpdokoeaaTmArgs
set_option linter.unusedVariables false
set_option linter.unusedSimpArgs false
namespace Go.Proofs.Ytpofkfhpdokoeaa.Tm
open Go.RowKit

theorem TM.drew {w : World} {B p : Nat} {hs : List Al} {last : Int} (h : TM w B p hs last) : TM w.drew B p hs last := h

theorem below_drew (B : Nat) (w : World) : Below B w w.drew := (Below.refl B w).drew

set_option maxHeartbeats 4000000 in
set_option maxRecDepth 100000 in
theorem Once_calls (v u : Value) (l : List Ac) (nows : List Int) (w : World) (h : Acts w v l) (h' : Nums w u nows) : Calls Try.prog 3 #[v, u] w fun e w' => e = .returned (.bool true) ∧ Below w.heap.size w w' := by
  have hs := small_calls v l w h
  obtain ⟨a, cap, rfl, hl, hat, hc⟩ := h
  obtain ⟨a', cap', rfl, hl', hc'⟩ := h'
  have HS := Lib.hid hs
  have HC := Lib.hid hc
  have HC' := Lib.hid hc'
  have HAT := Lib.hid hat
  clear hs hc hc' hat
  go_enter Try.func3, Try.ntmps3
  go_wp2_with first
    | (go_at_call 6; (with_reducible refine Calls.mono HS.out ?_); rintro e w1 ⟨⟨b, rfl, hb100⟩, rfl⟩; have HB100 := Lib.hid hb100; clear hb100)
    | (go_at_call 7; (with_reducible refine Calls.mono (live_calls _) ?_); rintro e w6 ⟨rfl, hb6⟩)
    | (go_at_call 8; refine Calls.mono (New_calls _) ?_; unfold P; rintro e w2 ⟨rfl, h2, hb2⟩; have HB2 := Lib.hid hb2; have H2 := Lib.hid h2; clear h2 hb2)
  · go_ret
    exact ⟨rfl, hb6⟩
  · have hl100 : l.length ≤ 100 := HB100.out (by assumption)
    have hn100 : nows.length ≤ 100 := by omega
    clear HB100
    go_loopw [6, 7] (fun x y wr => ∃ (i : Nat) (hs : List Al), x = .int .i64 hs.length ∧ y = .int .i64 i ∧ i ≤ l.length ∧ hs.length ≤ i ∧ Hid (∀ a ∈ hs, a.at_ ≤ 9223372036854775807) ∧ Hid (TM wr w1.heap.size w1.heap.size hs hs.length) ∧ Hid (Below w1.heap.size w1 wr)) (fun _ y _ => l.length - (intOf y).toNat)
    case atStart => exact ⟨0, [], rfl, rfl, Nat.zero_le _, Nat.le_refl _, (show ∀ a ∈ ([] : List Al), _ from fun a ha => by cases ha), H2.out, HB2.out⟩
    case round =>
      obtain ⟨i, hs, rfl, rfl, hi, hn, hall, ht, hb⟩ := hrel
      by_cases hlt : i < l.length
      · obtain ⟨b', off, rfl, hbl, hcell⟩ := HC.out (by rintro rfl; simp at hlt)
        obtain ⟨c0, c1, c2⟩ := hcell i hlt
        have d1 := (hb.out.cell (p := ⟨b', off + i * 3 + 1, none⟩) hbl).trans c1
        have d2 := (hb.out.cell (p := ⟨b', off + i * 3 + 2, none⟩) hbl).trans c2
        clear hcell c0 c1 c2
        have hax := HAT.out l[i] (List.getElem_mem hlt)
        generalize l[i] = act at *
        by_cases hbad : act.at_ < 0 ∨ 256 < act.key.size
        · have hadd := Lib.hid (fun W => Add_arg2 act.at_ act.key w1.heap.size W hbad)
          clear hbad
          go_wp2
          go_region_with (go_at_call 9; (with_reducible refine Calls.mono (hadd.out _) ?_); rintro e w5 ⟨rfl, rfl⟩)
          all_goals go_wp2_with (go_at_call 10; (with_reducible refine Calls.mono (num_calls _ _) ?_); rintro e w5 ⟨rfl, rfl⟩)
          all_goals refine ⟨⟨i + 1, hs, rfl, by go_num, by omega, by omega, hall, ht.out.drew, hb.out.trans (below_drew _ _)⟩, by simp [intOf]; omega⟩
        · have hok := Lib.hid hbad
          have hadd := Lib.hid (fun W (hW : TM W w1.heap.size w1.heap.size hs hs.length) => Add_calls' act.at_ act.key w1.heap.size w1.heap.size hs hs.length ((hs.length : Int) + 1) W hW (by omega) (by omega) (by omega) (by omega) (by omega) rfl)
          clear hbad
          go_wp2
          go_region_with (go_at_call 9; (with_reducible refine Calls.mono (hadd.out _ ?_) ?_); exact ht.out.drew; rintro e w5 ⟨rfl, h5, f5⟩; have H5 := Lib.hid h5; have F5 := Lib.hid f5; clear h5 f5)
          all_goals go_wp2_with (go_at_call 10; (with_reducible refine Calls.mono (num_calls _ _) ?_); rintro e w5 ⟨rfl, rfl⟩)
          all_goals
            have hlen := pushF_length hs ⟨act.at_, (hs.length : Int) + 1, act.key⟩
            refine ⟨⟨i + 1, pushF hs ⟨act.at_, (hs.length : Int) + 1, act.key⟩, by rw [hlen]; go_num, by go_num, by omega, by omega, ?_, ?_, hb.out.trans ((below_drew _ _).trans (F5.out.below ht.out.drew))⟩, by simp [intOf]; omega⟩
            · show ∀ a ∈ pushF _ _, _
              intro a ha
              rcases List.mem_cons.1 ((pushF_perm _ _).mem_iff.1 ha) with rfl | h
              · exact hax
              · exact hall.out a h
            · show TM _ _ _ _ _
              rw [hlen]
              exact H5.out
      · obtain rfl : i = l.length := by omega
        clear hi
        have hN100 : hs.length ≤ 100 := by omega
        go_wp2
        go_loopw [10, 11] (fun x y wr2 => ∃ (k told : Nat) (hs2 : List Al), x = .int .i64 told ∧ y = .int .i64 k ∧ k ≤ nows.length ∧ told + hs2.length = hs.length ∧ Hid (∀ a ∈ hs2, a.at_ ≤ 9223372036854775807) ∧ Hid (TM wr2 w1.heap.size w1.heap.size hs2 hs.length) ∧ Hid (Below w1.heap.size w1 wr2)) (fun _ y _ => nows.length - (intOf y).toNat)
        case atStart => exact ⟨0, 0, hs, rfl, rfl, Nat.zero_le _, by omega, hall, ht.out, hb.out⟩
        case round =>
          obtain ⟨k, told, hs2, rfl, rfl, hk, htold, hall2, ht2, hb2⟩ := hrel
          clear hall ht hb
          by_cases hkl : k < nows.length
          · obtain ⟨b', off, rfl, hbl, hcell⟩ := HC'.out (by rintro rfl; simp at hkl)
            have d0 := (hb2.out.cell (p := ⟨b', off + k, none⟩) hbl).trans (hcell k hkl)
            have C0 := Lib.hid (hcell k hkl)
            clear hcell
            generalize nows[k] = now at *
            have hdue := Due_calls now w1.heap.size w1.heap.size hs2 hs.length wr ht2.out (by omega)
            have hdl := due_length hs2.length now hs2
            have hdd := due_done hs2.length now hs2 (Nat.le_refl _)
            have hdm : ∀ a ∈ (dueF hs2.length now hs2).2, a.at_ ≤ 9223372036854775807 := by
              obtain ⟨l', _, hp⟩ := due_perm hs2.length now hs2
              exact fun a ha => hall2.out a (hp.mem_iff.1 (List.mem_append_right _ ha))
            generalize dueF hs2.length now hs2 = D at *
            obtain ⟨o, r⟩ := D
            simp only at hdue hdl hdd hdm
            unfold P at hdue
            have HDUE := Lib.hid hdue
            have HDM := Lib.hid hdm
            clear hdue hdm
            cases r with
            | nil =>
              simp only [List.length_nil, Nat.add_zero] at hdl
              clear hdd
              go_wp2_with first
                | (go_at_call 11; (with_reducible refine Calls.mono HDUE.out ?_); rintro e w3 ⟨v3, rfl, hr3, ht3, hf3⟩; obtain ⟨a3, cap3, rfl⟩ := str_form hr3; have hnx := Next_calls _ _ _ _ _ ht3 (by simp); have hln := Len_calls _ _ _ _ _ ht3; rw [show nextV [] = .tuple #[.int .i64 0, .bool false] from rfl] at hnx; unfold P at hnx hln; have HNX := Lib.hid hnx; have HLN := Lib.hid hln; have HT3 := Lib.hid ht3; have HF3 := Lib.hid hf3; clear hr3 ht3 hf3 hnx hln)
                | (go_at_call 12; (with_reducible refine Calls.mono HNX.out ?_); rintro e w4 ⟨rfl, rfl⟩)
                | (go_at_call 13; (with_reducible refine Calls.mono HLN.out ?_); rintro e w4 ⟨rfl, rfl⟩)
              refine ⟨⟨k + 1, told + hs2.length, [], by go_num, by go_num, by omega, by simp; omega, (show ∀ a ∈ ([] : List Al), _ from fun a ha => by cases ha), HT3.out, hb2.out.trans (HF3.out.below ht2.out)⟩, by simp [intOf]; omega⟩
            | cons a0 r =>
              have hlt0 : now < a0.at_ := hdd a0 rfl
              clear hdd
              simp only [List.length_cons] at hdl
              have hlt1 : (told : Int) + (o.length : Int) < (hs.length : Int) := by omega
              go_wp2_with first
                | (go_at_call 11; (with_reducible refine Calls.mono HDUE.out ?_); rintro e w3 ⟨v3, rfl, hr3, ht3, hf3⟩; obtain ⟨a3, cap3, rfl⟩ := str_form hr3; have d3 := ((hb2.out.trans (hf3.below ht2.out)).cell (p := ⟨b', off + k, none⟩) hbl).trans C0.out; have hnx := Next_calls _ _ _ _ _ ht3 (by simp; omega); have hln := Len_calls _ _ _ _ _ ht3; rw [show nextV (a0 :: r) = .tuple #[.int .i64 a0.at_, .bool true] from rfl] at hnx; unfold P at hnx hln; have HNX := Lib.hid hnx; have HLN := Lib.hid hln; have HT3 := Lib.hid ht3; have HF3 := Lib.hid hf3; clear hr3 ht3 hf3 hnx hln)
                | (go_at_call 12; (with_reducible refine Calls.mono HNX.out ?_); rintro e w4 ⟨rfl, rfl⟩)
                | (go_at_call 13; (with_reducible refine Calls.mono HLN.out ?_); rintro e w4 ⟨rfl, rfl⟩)
              refine ⟨⟨k + 1, told + o.length, a0 :: r, by go_num, by go_num, by omega, by simp; omega, HDM.out, HT3.out, hb2.out.trans (HF3.out.below ht2.out)⟩, by simp [intOf]; omega⟩
          · obtain rfl : k = nows.length := by omega
            have hdue := Due_calls 9223372036854775807 w1.heap.size w1.heap.size hs2 hs.length wr ht2.out (by omega)
            have hdl := due_length hs2.length 9223372036854775807 hs2
            have hdd := due_done hs2.length 9223372036854775807 hs2 (Nat.le_refl _)
            have hdm : ∀ a ∈ (dueF hs2.length 9223372036854775807 hs2).2, a.at_ ≤ 9223372036854775807 := by
              obtain ⟨l', _, hp⟩ := due_perm hs2.length 9223372036854775807 hs2
              exact fun a ha => hall2.out a (hp.mem_iff.1 (List.mem_append_right _ ha))
            generalize dueF hs2.length 9223372036854775807 hs2 = D at *
            obtain ⟨o, r⟩ := D
            simp only at hdue hdl hdd hdm
            have hr : r = [] := by
              cases r with
              | nil => rfl
              | cons a0 r => have h1 := hdd a0 rfl; have h2 := hdm a0 (List.mem_cons_self ..); omega
            subst hr
            simp only [List.length_nil, Nat.add_zero] at hdl
            unfold P at hdue
            have HDUE := Lib.hid hdue
            clear hdue hdm hdd
            go_wp2_with first
              | (go_at_call 11; (with_reducible refine Calls.mono HDUE.out ?_); rintro e w3 ⟨v3, rfl, hr3, ht3, hf3⟩; obtain ⟨a3, cap3, rfl⟩ := str_form hr3; have hln := Len_calls _ _ _ _ _ ht3; unfold P at hln; have HLN := Lib.hid hln; have HT3 := Lib.hid ht3; have HF3 := Lib.hid hf3; clear hr3 ht3 hf3 hln)
              | (go_at_call 13; (with_reducible refine Calls.mono HLN.out ?_); rintro e w4 ⟨rfl, rfl⟩)
              | (go_at_call 7; (with_reducible refine Calls.mono (live_calls _) ?_); rintro e w6 ⟨rfl, hb6⟩)
            go_ret
            have hb4 := hb2.out.trans (HF3.out.below ht2.out)
            exact ⟨rfl, hb4.trans (hb6.mono hb4.size)⟩
  · go_ret
    exact ⟨rfl, hb6⟩

end Go.Proofs.Ytpofkfhpdokoeaa.Tm

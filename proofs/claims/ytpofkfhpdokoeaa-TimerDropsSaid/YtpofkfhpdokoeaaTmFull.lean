/- The statement TimerFull, walked. -/
import Derived.Test.YtpofkfhpdokoeaaTmLive
set_option linter.unusedVariables false
set_option linter.unusedSimpArgs false
namespace Go.Proofs.Ytpofkfhpdokoeaa.Tm
open Go.RowKit

theorem Add_calls' (x : Int) (key : ByteArray) (B p : Nat) (hs : List Al) (last n : Int) (w : World) (ht : TM w B p hs last) (hx : 0 ≤ x) (hk : key.size ≤ 256) (hl : hs.length < 1000) (h0 : 0 ≤ last) (h1 : last ≤ 1000000) (hn : n = last + 1) : Calls Try.prog 9 #[.pointer (some ⟨p, 0, none⟩), .int .i64 x, .string key] w fun e w' => e = .returned (.tuple #[.int .i64 n, .int .i64 0]) ∧ TM w' B p (pushF hs ⟨x, n, key⟩) n ∧ Fr p w w' := by
  subst hn
  exact Add_calls x key B p hs last w ht hx hk hl h0 h1

theorem keep_none {key : ByteArray} {hs : List Al} (h : ∀ a ∈ hs, isKey key a = true) : keep key hs = [] := by
  unfold keep
  rw [List.filter_eq_nil_iff]
  intro a ha
  have := h a ha
  unfold isKey at this
  simp [this]

set_option maxHeartbeats 4000000 in
set_option maxRecDepth 100000 in
theorem Full_calls (x : Int) (key : ByteArray) (w : World) (hk : key.size ≤ 9223372036854775807) : Calls Try.prog 4 #[.int .i64 x, .string key] w fun e w' => e = .returned (.bool true) ∧ Below w.heap.size w w' := by
  by_cases h300 : 300 < key.size
  · go_enter Try.func4, Try.ntmps4
    go_wp2_with (go_at_call 7; (with_reducible refine Calls.mono (live_calls _) ?_); rintro e w1 ⟨rfl, hb⟩)
    go_ret
    exact ⟨rfl, hb⟩
  · by_cases harg : x < 0 ∨ 256 < key.size
    · go_enter Try.func4, Try.ntmps4
      have hk2 : key.size ≤ 300 := by omega
      by_cases hx : x < 0
      · have haa := fun (p : Nat) (W : World) => Add_arg x key p W harg hk
        unfold P at haa
        have HARG := Lib.hid haa
        clear haa
        clear harg
        go_wp2_with first
        | (go_at_call 9; (with_reducible refine Calls.mono (Add_nil _ _ _) ?_); rintro e w1 ⟨rfl, rfl⟩)
        | (go_at_call 12; (with_reducible refine Calls.mono (Next_nil _) ?_); rintro e w1 ⟨rfl, rfl⟩)
        | (go_at_call 8; refine Calls.mono (New_calls _) ?_; unfold P; rintro e w2 ⟨rfl, h2, hb2⟩; generalize hp : w1.heap.size = p at *; have HB2 := Lib.hid hb2; have HPP := Lib.hid hp; have H2 := Lib.hid h2; clear h2 hb2 hp)
        | (go_at_call 10; (with_reducible refine Calls.mono (num_calls _ _) ?_); rintro e w2 ⟨rfl, rfl⟩)
        | (go_at_call 13; (with_reducible refine Calls.mono (Len_nil _) ?_); rintro e w2 ⟨rfl, rfl⟩)
        | (go_at_call 14; (with_reducible refine Calls.mono (Drop_nil _ _) ?_); rintro e w3 ⟨rfl, hb3⟩; have HB3 := Lib.hid hb3; clear hb3)
        | (go_at_call 11; (with_reducible refine Calls.mono (Due_nil _ _) ?_); rintro e w3 ⟨rfl, rfl⟩)
        | (go_at_call 15; (with_reducible refine Calls.mono (Has_nil _ _) ?_); rintro e w4 ⟨rfl, hb4⟩; have HB4 := Lib.hid hb4; clear hb4)
        | (go_at_call 9; (with_reducible refine Calls.mono (HARG.out p _) ?_); rintro e w5 ⟨rfl, rfl⟩)
        | (go_at_call 7; (with_reducible refine Calls.mono (live_calls _) ?_); rintro e w6 ⟨rfl, hb6⟩)
        go_ret
        have hb4 := HB2.out.trans ((HB3.out.mono (by have := HB2.out.size; have := HPP.out; omega)).trans (HB4.out.mono (by have := HB2.out.size; have := HB3.out.size; have := HPP.out; omega)))
        exact ⟨rfl, by rw [HPP.out]; exact hb4.trans (hb6.mono (by have := hb4.size; have := HPP.out; omega))⟩
      · have hk3 : 256 < key.size := by omega
        have haa := fun (p : Nat) (W : World) => Add_arg x key p W harg hk
        unfold P at haa
        have HARG := Lib.hid haa
        clear haa
        clear harg
        go_wp2_with first
        | (go_at_call 9; (with_reducible refine Calls.mono (Add_nil _ _ _) ?_); rintro e w1 ⟨rfl, rfl⟩)
        | (go_at_call 12; (with_reducible refine Calls.mono (Next_nil _) ?_); rintro e w1 ⟨rfl, rfl⟩)
        | (go_at_call 8; refine Calls.mono (New_calls _) ?_; unfold P; rintro e w2 ⟨rfl, h2, hb2⟩; generalize hp : w1.heap.size = p at *; have HB2 := Lib.hid hb2; have HPP := Lib.hid hp; have H2 := Lib.hid h2; clear h2 hb2 hp)
        | (go_at_call 10; (with_reducible refine Calls.mono (num_calls _ _) ?_); rintro e w2 ⟨rfl, rfl⟩)
        | (go_at_call 13; (with_reducible refine Calls.mono (Len_nil _) ?_); rintro e w2 ⟨rfl, rfl⟩)
        | (go_at_call 14; (with_reducible refine Calls.mono (Drop_nil _ _) ?_); rintro e w3 ⟨rfl, hb3⟩; have HB3 := Lib.hid hb3; clear hb3)
        | (go_at_call 11; (with_reducible refine Calls.mono (Due_nil _ _) ?_); rintro e w3 ⟨rfl, rfl⟩)
        | (go_at_call 15; (with_reducible refine Calls.mono (Has_nil _ _) ?_); rintro e w4 ⟨rfl, hb4⟩; have HB4 := Lib.hid hb4; clear hb4)
        | (go_at_call 9; (with_reducible refine Calls.mono (HARG.out p _) ?_); rintro e w5 ⟨rfl, rfl⟩)
        | (go_at_call 7; (with_reducible refine Calls.mono (live_calls _) ?_); rintro e w6 ⟨rfl, hb6⟩)
        go_ret
        have hb4 := HB2.out.trans ((HB3.out.mono (by have := HB2.out.size; have := HPP.out; omega)).trans (HB4.out.mono (by have := HB2.out.size; have := HB3.out.size; have := HPP.out; omega)))
        exact ⟨rfl, by rw [HPP.out]; exact hb4.trans (hb6.mono (by have := hb4.size; have := HPP.out; omega))⟩
    · have hx0 : 0 ≤ x := by omega
      have hk256 : key.size ≤ 256 := by omega
      clear harg
      go_enter Try.func4, Try.ntmps4
      go_wp2_with first
        | (go_at_call 9; (with_reducible refine Calls.mono (Add_nil _ _ _) ?_); rintro e w1 ⟨rfl, rfl⟩)
        | (go_at_call 12; (with_reducible refine Calls.mono (Next_nil _) ?_); rintro e w1 ⟨rfl, rfl⟩)
        | (go_at_call 8; refine Calls.mono (New_calls _) ?_; unfold P; rintro e w2 ⟨rfl, h2, hb2⟩; generalize hp : w1.heap.size = p at *; have HB2 := Lib.hid hb2; have HPP := Lib.hid hp; have H2 := Lib.hid h2; clear h2 hb2 hp)
        | (go_at_call 10; (with_reducible refine Calls.mono (num_calls _ _) ?_); rintro e w2 ⟨rfl, rfl⟩)
        | (go_at_call 13; (with_reducible refine Calls.mono (Len_nil _) ?_); rintro e w2 ⟨rfl, rfl⟩)
        | (go_at_call 14; (with_reducible refine Calls.mono (Drop_nil _ _) ?_); rintro e w3 ⟨rfl, hb3⟩; have HB3 := Lib.hid hb3; clear hb3)
        | (go_at_call 11; (with_reducible refine Calls.mono (Due_nil _ _) ?_); rintro e w3 ⟨rfl, rfl⟩)
        | (go_at_call 15; (with_reducible refine Calls.mono (Has_nil _ _) ?_); rintro e w4 ⟨rfl, hb4⟩; have HB4 := Lib.hid hb4; clear hb4)
      obtain ⟨h3, _⟩ := H2.out.below HB3.out
      obtain ⟨h4, _⟩ := h3.below HB4.out
      have hb4 : Below p w1 w4 := HB2.out.trans ((HB3.out.mono (by have := HB2.out.size; have := HPP.out; omega)).trans (HB4.out.mono (by have := HB2.out.size; have := HB3.out.size; have := HPP.out; omega)))
      go_loopw [13] (fun y wr => ∃ (i : Nat) (hs : List Al), y = .int .i64 i ∧ i ≤ 1000 ∧ Hid (hs.length = i) ∧ Hid (∀ a ∈ hs, isKey key a = true) ∧ Hid (TM wr p p hs i) ∧ Hid (Below p w1 wr)) (fun y _ => 1000 - (intOf y).toNat)
      case atStart => exact ⟨0, [], rfl, by omega, rfl, (show ∀ a ∈ ([] : List Al), isKey key a = true from fun a ha => by cases ha), h4, hb4⟩
      case round =>
        obtain ⟨i, hs, rfl, hi, hl, hall, ht, hb⟩ := hrel
        clear hb4 h4 h3
        by_cases hlt : i < 1000
        · have ha := Add_calls' x key p p hs i ((i : Int) + 1) wr ht.out hx0 hk256 (by rw [hl.out]; exact hlt) (by omega) (by omega) rfl
          have HA := Lib.hid ha
          clear ha
          go_wp2_with first
            | (go_at_call 9; (with_reducible refine Calls.mono HA.out ?_); rintro e w5 ⟨rfl, h5, f5⟩; have H5 := Lib.hid h5; have F5 := Lib.hid f5; clear h5 f5)
            | (go_at_call 10; (with_reducible refine Calls.mono (num_calls _ _) ?_); rintro e w5 ⟨rfl, rfl⟩)
          refine ⟨⟨i + 1, pushF hs ⟨x, (i : Int) + 1, key⟩, by go_num, by omega, ?_, ?_, H5.out, hb.out.trans (F5.out.below ht.out)⟩, by simp [intOf]; omega⟩
          · show (pushF _ _).length = i + 1
            rw [pushF_length, hl.out]
          · show ∀ a ∈ _, _
            intro a ha
            have := (pushF_perm hs ⟨x, (i : Int) + 1, key⟩).mem_iff.1 ha
            rcases List.mem_cons.1 this with rfl | h
            · unfold isKey; exact beq_self_eq_true _
            · exact hall.out a h
        · obtain rfl : i = 1000 := by omega
          have hfull := Add_full x key p p hs _ wr ht.out hx0 hk256 hl.out
          unfold P at hfull
          have HFU := Lib.hid hfull
          have hdr := Drop_calls key p p hs _ wr ht.out (by rw [hl.out]; exact Nat.le_refl _)
          rw [keep_none hall.out, hl.out] at hdr
          unfold P at hdr
          have HDR := Lib.hid hdr
          clear hfull hdr
          go_wp2_with first
            | (go_at_call 9; (with_reducible refine Calls.mono HFU.out ?_); rintro e w5 ⟨rfl, rfl⟩)
            | (go_at_call 10; (with_reducible refine Calls.mono (num_calls _ _) ?_); rintro e w5 ⟨rfl, rfl⟩)
            | (go_at_call 14; (with_reducible refine Calls.mono HDR.out ?_); rintro e w6 ⟨rfl, h6, f6⟩; have H6 := Lib.hid h6; have F6 := Lib.hid f6; clear h6 f6)
            | (go_at_call 7; (with_reducible refine Calls.mono (live_calls _) ?_); rintro e w7 ⟨rfl, hb7⟩)
          go_ret
          have hb6 := hb.out.trans (F6.out.below ht.out)
          exact ⟨rfl, by rw [HPP.out]; exact hb6.trans (hb7.mono (by have := hb6.size; have := HPP.out; omega))⟩

end Go.Proofs.Ytpofkfhpdokoeaa.Tm

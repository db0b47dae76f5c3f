/- The statement TimerDrops, walked. -/
import Derived.Test.YtpofkfhpdokoeaaTmOnce
set_option linter.unusedVariables false
set_option linter.unusedSimpArgs false
namespace Go.Proofs.Ytpofkfhpdokoeaa.Tm
open Go.RowKit

def cnt (key : ByteArray) (hs : List Al) : Nat := hs.countP (isKey key)

theorem cnt_keep (key : ByteArray) (hs : List Al) : cnt key hs + (keep key hs).length = hs.length := by
  unfold cnt keep
  induction hs with
  | nil => rfl
  | cons a t ih =>
    rw [List.countP_cons, List.filter_cons]
    by_cases h : isKey key a = true
    · have h' : (a.key.toList == key.toList) = true := h
      simp [h, h']; omega
    · have h' : (a.key.toList == key.toList) = false := by simpa [isKey] using h
      simp [h, h']; omega

theorem any_cnt (key : ByteArray) (hs : List Al) : hs.any (isKey key) = decide (0 < cnt key hs) := by
  unfold cnt
  rw [Bool.eq_iff_iff, decide_eq_true_eq, List.countP_pos_iff, List.any_eq_true]

theorem keep_all {key : ByteArray} {hs : List Al} (h : ∀ a ∈ hs, isKey key a = false) : keep key hs = hs := by
  unfold keep
  rw [List.filter_eq_self]
  intro a ha
  have := h a ha
  unfold isKey at this
  rw [this]; rfl

theorem keep_not (key : ByteArray) (hs : List Al) : ∀ a ∈ keep key hs, isKey key a = false := by
  intro a ha
  unfold keep at ha
  have := (List.mem_filter.1 ha).2
  unfold isKey
  simpa using this

theorem due_pos {hs : List Al} {a : Al} {now : Int} (h : hs[0]? = some a) (hn : ¬ now < a.at_) : 0 < (dueF hs.length now hs).1.length := by
  have h0 : 0 < hs.length := (List.getElem?_eq_some_iff.1 h).1
  obtain ⟨f, hf⟩ : ∃ f, hs.length = f + 1 := ⟨hs.length - 1, by omega⟩
  rw [hf, dueF, h]
  simp [hn]

set_option maxHeartbeats 4000000 in
set_option maxRecDepth 100000 in
theorem Drops_calls (v : Value) (l : List Ac) (key : ByteArray) (w : World) (h : Acts w v l) : Calls Try.prog 5 #[v, .string key] w fun e w' => e = .returned (.bool true) ∧ Below w.heap.size w w' := by
  have hs := small_calls v l w h
  obtain ⟨a, cap, rfl, hl, hat, hc⟩ := h
  have HS := Lib.hid hs
  have HC := Lib.hid hc
  clear hs hc hat
  go_enter Try.func5, Try.ntmps5
  go_wp2_with first
    | (go_at_call 6; (with_reducible refine Calls.mono HS.out ?_); rintro e w1 ⟨⟨b, rfl, hb100⟩, rfl⟩; have HB100 := Lib.hid hb100; clear hb100)
    | (go_at_call 7; (with_reducible refine Calls.mono (live_calls _) ?_); rintro e w6 ⟨rfl, hb6⟩)
    | (go_at_call 8; refine Calls.mono (New_calls _) ?_; unfold P; rintro e w2 ⟨rfl, h2, hb2⟩; have HB2 := Lib.hid hb2; have H2 := Lib.hid h2; clear h2 hb2)
  · go_ret
    exact ⟨rfl, hb6⟩
  · have hl100 : l.length ≤ 100 := HB100.out (by assumption)
    clear HB100
    go_loopw [6, 7, 8] (fun x z y wr => ∃ (i : Nat) (hs : List Al), x = .int .i64 hs.length ∧ z = .int .i64 (cnt key hs) ∧ y = .int .i64 i ∧ i ≤ l.length ∧ hs.length ≤ i ∧ Hid (∀ a ∈ hs, 0 ≤ a.at_) ∧ Hid (TM wr w1.heap.size w1.heap.size hs hs.length) ∧ Hid (Below w1.heap.size w1 wr)) (fun _ _ y _ => l.length - (intOf y).toNat)
    case atStart => exact ⟨0, [], rfl, rfl, rfl, Nat.zero_le _, Nat.le_refl _, (show ∀ a ∈ ([] : List Al), _ from fun a ha => by cases ha), H2.out, HB2.out⟩
    case round =>
      obtain ⟨i, hs, rfl, rfl, rfl, hi, hn, hall, ht, hb⟩ := hrel
      by_cases hlt : i < l.length
      · obtain ⟨b', off, rfl, hbl, hcell⟩ := HC.out (by rintro rfl; simp at hlt)
        obtain ⟨c0, c1, c2⟩ := hcell i hlt
        have d1 := (hb.out.cell (p := ⟨b', off + i * 3 + 1, none⟩) hbl).trans c1
        have d2 := (hb.out.cell (p := ⟨b', off + i * 3 + 2, none⟩) hbl).trans c2
        have C2 := Lib.hid c2
        clear hcell c0 c1 c2
        generalize l[i] = act at *
        by_cases hbad : act.at_ < 0 ∨ 256 < act.key.size
        · have hadd := Lib.hid (fun W => Add_arg2 act.at_ act.key w1.heap.size W hbad)
          clear hbad
          go_wp2
          go_region_with (go_at_call 9; (with_reducible refine Calls.mono (hadd.out _) ?_); rintro e w5 ⟨rfl, rfl⟩)
          all_goals go_wp2_with (go_at_call 10; (with_reducible refine Calls.mono (num_calls _ _) ?_); rintro e w5 ⟨rfl, rfl⟩)
          all_goals refine ⟨⟨i + 1, hs, rfl, rfl, by go_num, by omega, by omega, hall, ht.out.drew, hb.out.trans (below_drew _ _)⟩, by simp [intOf]; omega⟩
        · have hok := Lib.hid hbad
          have hadd := Lib.hid (fun W (hW : TM W w1.heap.size w1.heap.size hs hs.length) => Add_calls' act.at_ act.key w1.heap.size w1.heap.size hs hs.length ((hs.length : Int) + 1) W hW (by omega) (by omega) (by omega) (by omega) (by omega) rfl)
          clear hbad
          have hcn : cnt key hs ≤ hs.length := by have := cnt_keep key hs; omega
          have hlen := pushF_length hs ⟨act.at_, (hs.length : Int) + 1, act.key⟩
          have hcp : cnt key (pushF hs ⟨act.at_, (hs.length : Int) + 1, act.key⟩) = cnt key hs + (if (act.key.toList == key.toList) = true then 1 else 0) := by
            unfold cnt
            rw [(pushF_perm _ _).countP_eq, List.countP_cons]
            rfl
          have HLEN := Lib.hid hlen
          have HCP := Lib.hid hcp
          clear hlen hcp
          cases hq : (act.key.toList == key.toList) with
          | true =>
            have HQ := Lib.hid hq
            go_wp2
            go_region_with (go_at_call 9; (with_reducible refine Calls.mono (hadd.out _ ?_) ?_); exact ht.out.drew; rintro e w5 ⟨rfl, h5, f5⟩; have d5 := ((hb.out.trans ((below_drew _ _).trans (f5.below ht.out.drew))).cell (p := ⟨b', off + i * 3 + 2, none⟩) hbl).trans C2.out; have H5 := Lib.hid h5; have F5 := Lib.hid f5; clear h5 f5)
            all_goals go_wp2_with (go_at_call 10; (with_reducible refine Calls.mono (num_calls _ _) ?_); rintro e w5 ⟨rfl, rfl⟩)
            all_goals
              refine ⟨⟨i + 1, pushF hs ⟨act.at_, (hs.length : Int) + 1, act.key⟩, by rw [HLEN.out]; go_num, by rw [HCP.out, if_pos HQ.out]; go_num, by go_num, by omega, by rw [HLEN.out]; omega, ?_, ?_, hb.out.trans ((below_drew _ _).trans (F5.out.below ht.out.drew))⟩, by simp [intOf]; omega⟩
              · show ∀ a ∈ pushF _ _, _
                intro a ha
                rcases List.mem_cons.1 ((pushF_perm _ _).mem_iff.1 ha) with rfl | h
                · have := hok.out; show 0 ≤ act.at_; omega
                · exact hall.out a h
              · show TM _ _ _ _ _
                rw [HLEN.out]
                exact H5.out
          | false =>
            have HQ := Lib.hid hq
            go_wp2
            go_region_with (go_at_call 9; (with_reducible refine Calls.mono (hadd.out _ ?_) ?_); exact ht.out.drew; rintro e w5 ⟨rfl, h5, f5⟩; have d5 := ((hb.out.trans ((below_drew _ _).trans (f5.below ht.out.drew))).cell (p := ⟨b', off + i * 3 + 2, none⟩) hbl).trans C2.out; have H5 := Lib.hid h5; have F5 := Lib.hid f5; clear h5 f5)
            all_goals go_wp2_with (go_at_call 10; (with_reducible refine Calls.mono (num_calls _ _) ?_); rintro e w5 ⟨rfl, rfl⟩)
            all_goals
              refine ⟨⟨i + 1, pushF hs ⟨act.at_, (hs.length : Int) + 1, act.key⟩, by rw [HLEN.out]; go_num, by rw [HCP.out, if_neg (by rw [HQ.out]; exact Bool.false_ne_true)]; rfl, by go_num, by omega, by rw [HLEN.out]; omega, ?_, ?_, hb.out.trans ((below_drew _ _).trans (F5.out.below ht.out.drew))⟩, by simp [intOf]; omega⟩
              · show ∀ a ∈ pushF _ _, _
                intro a ha
                rcases List.mem_cons.1 ((pushF_perm _ _).mem_iff.1 ha) with rfl | h
                · have := hok.out; show 0 ≤ act.at_; omega
                · exact hall.out a h
              · show TM _ _ _ _ _
                rw [HLEN.out]
                exact H5.out
      · obtain rfl : i = l.length := by omega
        clear hi
        have hN100 : hs.length ≤ 100 := by omega
        have hcn := cnt_keep key hs
        have hH1 := Has_calls key w1.heap.size w1.heap.size hs hs.length wr ht.out (by omega)
        rw [any_cnt] at hH1
        unfold P at hH1
        have HH1 := Lib.hid hH1
        have hD1 := fun W (hW : TM W w1.heap.size w1.heap.size hs hs.length) => Drop_calls key w1.heap.size w1.heap.size hs hs.length W hW (by omega)
        unfold P at hD1
        have HD1 := Lib.hid hD1
        clear hH1 hD1
        obtain ⟨hs2, hhs2⟩ : ∃ hs2, dropF key hs = hs2 := ⟨_, rfl⟩
        have hperm2 := dropF_perm key hs
        have hnot2 : ∀ a ∈ hs2, isKey key a = false := fun a ha => keep_not key hs a ((hhs2 ▸ hperm2).mem_iff.1 ha)
        have hlen2 : hs2.length = (keep key hs).length := (hhs2 ▸ hperm2).length_eq
        have hall2 : ∀ a ∈ hs2, 0 ≤ a.at_ := fun a ha => hall.out a (List.mem_filter.1 ((hhs2 ▸ hperm2).mem_iff.1 ha)).1
        have hany2 : hs2.any (isKey key) = false := by
          rw [List.any_eq_false]; intro x hx; rw [hnot2 x hx]; exact Bool.false_ne_true
        obtain ⟨hs3, hhs3⟩ : ∃ hs3, dropF key hs2 = hs3 := ⟨_, rfl⟩
        have hperm3 : hs3.Perm hs2 := by rw [← hhs3]; have := dropF_perm key hs2; rwa [keep_all hnot2] at this
        have hall3 : ∀ a ∈ hs3, 0 ≤ a.at_ := fun a ha => hall2 a (hperm3.mem_iff.1 ha)
        have hnot3 : ∀ a ∈ hs3, isKey key a = false := fun a ha => hnot2 a (hperm3.mem_iff.1 ha)
        have hlen3 : hs3.length = hs2.length := hperm3.length_eq
        have HH2 := Lib.hid (fun W (hW : TM W w1.heap.size w1.heap.size hs2 hs.length) => (show Calls _ _ #[.pointer (some ⟨w1.heap.size, 0, none⟩), .string key] W (fun e w' => e = .returned (.bool false) ∧ Below W.heap.size W w') from hany2 ▸ Has_calls key w1.heap.size w1.heap.size hs2 hs.length W hW (by omega)))
        have HD2 := Lib.hid (fun W (hW : TM W w1.heap.size w1.heap.size hs2 hs.length) => (show Calls _ _ #[.pointer (some ⟨w1.heap.size, 0, none⟩), .string key] W (fun e w' => e = .returned (.int .i64 0) ∧ TM w' w1.heap.size w1.heap.size hs3 hs.length ∧ Fr w1.heap.size W w') from by
          have := Drop_calls key w1.heap.size w1.heap.size hs2 hs.length W hW (by omega)
          rw [keep_all hnot2, hhs3] at this
          unfold P at this
          simpa using this))
        rw [hhs2] at HD1
        have HALL3 := Lib.hid hall3
        have HNOT3 := Lib.hid hnot3
        have hce : (cnt key hs : Int) = (hs.length : Int) - ((keep key hs).length : Int) := by omega
        have hke : (((keep key hs).length : Int) != (hs.length : Int) - ((hs.length : Int) - ((keep key hs).length : Int))) = false := by
          rw [show (hs.length : Int) - ((hs.length : Int) - ((keep key hs).length : Int)) = ((keep key hs).length : Int) by omega]
          exact bne_self_eq_false _
        clear hall2 hnot2 hany2 hperm2 hperm3 hhs2 hhs3 hall3 hnot3 HC
        go_wp2_with first
          | (go_at_call 15; (with_reducible refine Calls.mono HH1.out ?_); rintro e w3 ⟨rfl, hb3⟩; obtain ⟨ht3, hf3⟩ := ht.out.below hb3; have HT3 := Lib.hid ht3; have HF3 := Lib.hid hf3; clear hb3 ht3 hf3)
          | (go_at_call 14; (with_reducible refine Calls.mono (HD1.out _ HT3.out) ?_); rintro e w4 ⟨rfl, ht4, hf4⟩; have HT4 := Lib.hid ht4; have HF4 := Lib.hid hf4; clear ht4 hf4)
          | (go_at_call 15; (with_reducible refine Calls.mono (HH2.out _ HT4.out) ?_); rintro e w5 ⟨rfl, hb5⟩; obtain ⟨ht5, hf5⟩ := HT4.out.below hb5; have HT5 := Lib.hid ht5; have HF5 := Lib.hid hf5; clear hb5 ht5 hf5)
          | (go_at_call 14; (with_reducible refine Calls.mono (HD2.out _ HT5.out) ?_); rintro e w6 ⟨rfl, ht6, hf6⟩; have hln := Len_calls _ _ _ _ _ ht6; unfold P at hln; have HLN := Lib.hid hln; have HT6 := Lib.hid ht6; have HF6 := Lib.hid hf6; clear ht6 hf6 hln)
          | (go_at_call 13; (with_reducible refine Calls.mono HLN.out ?_); rintro e w6 ⟨rfl, rfl⟩)
        have hb6 := hb.out.trans ((HF3.out.below ht.out).trans ((HF4.out.below HT3.out).trans ((HF5.out.below HT4.out).trans (HF6.out.below HT5.out))))
        have HB6 := Lib.hid hb6
        have hle3 : hs3.length ≤ hs.length := by omega
        clear hb6 hce
        go_loopw [11, 12] (fun x y wr => ∃ (i : Nat) (last : Int) (hs4 : List Al), x = .int .i64 last ∧ y = .int .i64 i ∧ hs4.length + i ≤ hs.length ∧ Hid (∀ a, hs4[0]? = some a → last ≤ a.at_) ∧ Hid (∀ a ∈ hs4, isKey key a = false) ∧ Hid (TM wr w1.heap.size w1.heap.size hs4 hs.length) ∧ Hid (Below w1.heap.size w1 wr)) (fun _ y _ => hs.length + 1 - (intOf y).toNat)
        case atStart => exact ⟨0, 0, hs3, rfl, rfl, by omega, (show ∀ a, hs3[0]? = some a → (0 : Int) ≤ a.at_ from fun a ha => HALL3.out a (List.mem_of_getElem? ha)), HNOT3.out, HT6.out, HB6.out⟩
        case round =>
          obtain ⟨i, last, hs4, rfl, rfl, hi4, hlast, hnot4, ht4, hb4⟩ := hrel
          have hnx := Next_calls w1.heap.size w1.heap.size hs4 hs.length wr ht4.out (by omega)
          unfold P at hnx
          cases hs4 with
          | nil =>
            rw [show nextV [] = .tuple #[.int .i64 0, .bool false] from rfl] at hnx
            have HNX := Lib.hid hnx
            have hln4 := Len_calls w1.heap.size w1.heap.size [] hs.length wr ht4.out
            unfold P at hln4
            have HLN4 := Lib.hid hln4
            clear hnx hln4
            simp only [List.length_nil, Nat.zero_add] at hi4
            go_wp2_with first
              | (go_at_call 12; (with_reducible refine Calls.mono HNX.out ?_); rintro e w7 ⟨rfl, rfl⟩)
              | (go_at_call 13; (with_reducible refine Calls.mono HLN4.out ?_); rintro e w7 ⟨rfl, rfl⟩)
              | (go_at_call 7; (with_reducible refine Calls.mono (live_calls _) ?_); rintro e w8 ⟨rfl, hb8⟩)
            go_ret
            exact ⟨rfl, hb4.out.trans (hb8.mono hb4.out.size)⟩
          | cons a0 t =>
            rw [show nextV (a0 :: t) = .tuple #[.int .i64 a0.at_, .bool true] from rfl] at hnx
            have HNX := Lib.hid hnx
            have hla : last ≤ a0.at_ := hlast.out a0 rfl
            have hdue := Due_calls a0.at_ w1.heap.size w1.heap.size (a0 :: t) hs.length wr ht4.out (by omega)
            have hdl := due_length (a0 :: t).length a0.at_ (a0 :: t)
            have hdd := due_done (a0 :: t).length a0.at_ (a0 :: t) (Nat.le_refl _)
            have hdp : 0 < (dueF (a0 :: t).length a0.at_ (a0 :: t)).1.length := due_pos (a := a0) rfl (by omega)
            have hdm : (∀ a ∈ (dueF (a0 :: t).length a0.at_ (a0 :: t)).2, isKey key a = false) ∧ ∀ s ∈ (dueF (a0 :: t).length a0.at_ (a0 :: t)).1, (s.toList == key.toList) = false := by
              obtain ⟨l', h1, hp⟩ := due_perm (a0 :: t).length a0.at_ (a0 :: t)
              refine ⟨fun a ha => hnot4.out a (hp.mem_iff.1 (List.mem_append_right _ ha)), fun s hs' => ?_⟩
              rw [h1] at hs'
              obtain ⟨a, ha, rfl⟩ := List.mem_map.1 hs'
              exact hnot4.out a (hp.mem_iff.1 (List.mem_append_left _ ha))
            simp only [List.length_cons] at hi4
            generalize dueF (a0 :: t).length a0.at_ (a0 :: t) = D at *
            obtain ⟨o, r⟩ := D
            simp only [List.length_cons] at hdue hdl hdd hdm hdp
            unfold P at hdue
            have HDUE := Lib.hid hdue
            have HDM := Lib.hid hdm
            have HDD := Lib.hid hdd
            clear hnx hdue hdm hdd
            go_wp2_with first
              | (go_at_call 12; (with_reducible refine Calls.mono HNX.out ?_); rintro e w7 ⟨rfl, rfl⟩)
              | (go_at_call 11; (with_reducible refine Calls.mono HDUE.out ?_); rintro e w8 ⟨v8, rfl, hr8, ht8, hf8⟩; obtain ⟨a8, cap8, rfl⟩ := str_form hr8; have HR8 := Lib.hid hr8; have HT8 := Lib.hid ht8; have HF8 := Lib.hid hf8; clear hr8 ht8 hf8)
            have hol : o.length ≤ 1000 := by omega
            go_loopw [16] (fun x wr2 => ∃ k : Nat, x = .int .i64 k ∧ k ≤ o.length ∧ wr2 = w8) (fun x _ => o.length - (intOf x).toNat)
            case atStart => exact ⟨0, rfl, Nat.zero_le _, rfl⟩
            case round =>
              obtain ⟨k, rfl, hk, rfl⟩ := hrel
              by_cases hkl : k < o.length
              · obtain ⟨g, c, hv, c0⟩ := str_cell HR8.out k hkl
                cases hv
                have hne := HDM.out.2 o[k] (List.getElem_mem hkl)
                go_wp2
                exact ⟨⟨k + 1, by go_num, by omega, trivial⟩, by simp [intOf]; omega⟩
              · obtain rfl : k = o.length := by omega
                go_wp2
                go_roundw
                case rel => exact ⟨i + 1, a0.at_, r, rfl, by go_num, by omega, (show ∀ a, r[0]? = some a → a0.at_ ≤ a.at_ from fun a ha => by have := HDD.out a ha; omega), HDM.out.1, HT8.out, hb4.out.trans (HF8.out.below ht4.out)⟩
                case measure => simp [intOf]; omega
  · go_ret
    exact ⟨rfl, hb6⟩

end Go.Proofs.Ytpofkfhpdokoeaa.Tm

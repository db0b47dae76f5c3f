/- slices.DeleteFunc over the timers. -/
import Derived.Test.YtpofkfhpdokoeaaTmFuncs2
set_option linter.unusedVariables false
set_option linter.unusedSimpArgs false
namespace Go.Proofs.Ytpofkfhpdokoeaa.Tm
open Go.RowKit

def zA : Array Value := #[.int .i64 0, .int .i64 0, .string ByteArray.empty]

theorem zA_size : zA.size = 3 := rfl

theorem zero_alarm (w : World) : (zeroValue 52).run Try.prog w = .ok (.agg zA) w := by kernel_rfl

theorem zeroCells_one (n : Nat) : ∀ v ∈ (Builtin.zeroCells zA n).toList, v.oneCell' = true := by
  intro v hv
  simp only [Builtin.zeroCells, zA] at hv
  simp at hv
  obtain ⟨a, _, rfl⟩ := hv
  have h3 : a % 3 < 3 := Nat.mod_lt _ (by omega)
  match h : a % 3, h3 with
  | 0, _ => rfl
  | 1, _ => rfl
  | 2, _ => rfl

theorem clear_row {w : World} {B g cap n : Nat} {hs : List Al} (h : w.ownsRow B 52 3 (.slice (some ⟨g, 0, none⟩) n cap) n (cellsL hs)) (hn : n = hs.length) (i : Nat) (hi : i < n) :
    ∃ w', (∀ ty, (Builtin.clear_ #[46] ty #[.slice (some ⟨g, i * 3, none⟩) (n - i) (cap - i)]).run Try.prog w = .ok (.tuple #[]) w') ∧ w'.ownsRow B 52 3 (.slice (some ⟨g, 0, none⟩) i cap) i (cellsL (hs.take i)) ∧ w.grownBy w' (some g) := by
  rcases h.2 with ⟨h', _⟩ | ⟨g', cap', cur, hv, hB, hg, hnc, hcm, hcs, htake⟩
  · cases h'
  · cases hv
    have hfit : i * 3 + 0 + (Builtin.zeroCells zA (n - i)).toList.length ≤ cur.size := by
      simp [size_zeroCells, zA_size]; omega
    have hst := run_storeCells_at Try.prog g (i * 3) 52 _ 0 cur w hg hfit (zeroCells_one (n - i))
    obtain ⟨cs, hcs2, hst⟩ : ∃ cs : Array Value, cs.toList = cur.toList.take (i * 3 + 0) ++ (Builtin.zeroCells zA (n - i)).toList ++ cur.toList.drop (i * 3 + 0 + (Builtin.zeroCells zA (n - i)).toList.length) ∧ (storeCells ⟨g, i * 3, none⟩ (Builtin.zeroCells zA (n - i)).toList 0).run Try.prog w = .ok () (w.setRow g cs) := ⟨_, by simp, hst⟩
    refine ⟨w.setRow g cs, fun ty => ?_, ?_, ?_⟩
    · obtain ⟨m, hm⟩ : ∃ m, n - i = m + 1 := ⟨n - i - 1, by omega⟩
      rw [hm] at hst ⊢
      simp [Builtin.clear_, run_underlying Try.underlying46, zero_alarm, Value.cells]
      rw [show (#[Value.int IntKind.i64 0, Value.int IntKind.i64 0, Value.string { data := #[] }] : Array Value) = zA from rfl, hst]
      rfl
    · refine ⟨by rw [cellsL_length, List.length_take]; omega, .inr ⟨g, cap, cs, rfl, hB, setRow_heap w g cur cs _ _ hg, by omega, hcm, ?_, ?_⟩⟩
      · have : cs.size = cs.toList.length := by simp
        rw [this, hcs2]
        simp [size_zeroCells, zA_size]; omega
      · have h3 : (cur.toList.take (n * 3)).take (i * 3) = (cellsL hs).take (i * 3) := by rw [htake]
        rw [List.take_take, Nat.min_eq_left (by omega), cellsL_take] at h3
        rw [← h3, hcs2, List.append_assoc, List.take_append_of_le_length (by simp; omega), List.take_take]
        simp
    · exact ⟨rfl, rfl, rfl, by simp [World.setRow], fun k _ hk => setRow_other w g k _ (fun e => hk (by simp [e]))⟩

theorem keep_true {key : ByteArray} {hs : List Al} {j : Nat} (hj : j < hs.length) (hq : isKey key hs[j] = true) : keep key (hs.take (j + 1)) = keep key (hs.take j) := by
  rw [List.take_succ_eq_append_getElem hj]
  unfold keep
  unfold isKey at hq
  rw [List.filter_append]
  simp [hq]

theorem keep_false {key : ByteArray} {hs : List Al} {j : Nat} (hj : j < hs.length) (hq : isKey key hs[j] = false) : keep key (hs.take (j + 1)) = keep key (hs.take j) ++ [hs[j]] := by
  rw [List.take_succ_eq_append_getElem hj]
  unfold keep
  unfold isKey at hq
  rw [List.filter_append]
  simp only [List.filter_cons, hq, Bool.not_false, if_true, List.filter_nil]

theorem drop_next {α : Type} {a b : List α} {j : Nat} (h : a.drop j = b.drop j) : a.drop (j + 1) = b.drop (j + 1) := by
  have := congrArg (·.drop 1) h
  simpa [List.drop_drop] using this

theorem kept_row {w w' : World} {B g cap n : Nat} {xs : List Value} (hr : w.ownsRow B 52 3 (.slice (some ⟨g, 0, none⟩) n cap) n xs) (hb : Below w.heap.size w w') : w'.ownsRow B 52 3 (.slice (some ⟨g, 0, none⟩) n cap) n xs :=
  hr.kept (row := none) ⟨hb.os, hb.tape, hb.output, hb.size, fun k hk _ => hb.block k hk⟩ (.inr (by simp [Value.ownBlock]))

theorem grown_below {w wr w' : World} {r : Option Nat} (h : w.grownBy wr r) (hb : Below wr.heap.size wr w') : w.grownBy w' r :=
  ⟨hb.os.trans h.os, hb.tape.trans h.tape, hb.output.trans h.output, Nat.le_trans h.size hb.size, fun k hk hn => (hb.block k (Nat.lt_of_lt_of_le hk h.size)).trans (h.block k hk hn)⟩

theorem grown_set {w wr : World} {g o : Nat} (h : w.grownBy wr (some g)) (v : Value) : w.grownBy (wr.setCell ⟨g, o, none⟩ v) (some g) :=
  ⟨h.os, h.tape, h.output, by simpa [World.setCell] using h.size, fun k hk hn => (Below.heap_setCell _ _ _ _ (by simpa using fun e => hn (by rw [e]))).trans (h.block k hk hn)⟩

theorem grown_trans {w a b : World} {r : Option Nat} (h : w.grownBy a r) (h2 : a.grownBy b r) : w.grownBy b r :=
  ⟨h2.os.trans h.os, h2.tape.trans h.tape, h2.output.trans h.output, Nat.le_trans h.size h2.size, fun k hk hn => (h2.block k (Nat.lt_of_lt_of_le hk h.size) hn).trans (h.block k hk hn)⟩

set_option maxHeartbeats 2000000 in
theorem Delete_calls (kb : Nat) (key : ByteArray) (g cap : Nat) (B : Nat) (hs : List Al) (w : World) (hr : w.ownsRow B 52 3 (.slice (some ⟨g, 0, none⟩) hs.length cap) hs.length (cellsL hs)) (h1000 : hs.length ≤ 1000) (hk : w.cell? ⟨kb, 0, none⟩ = some (.string key)) (hkg : kb ≠ g) :
    Calls Try.prog 19 #[.slice (some ⟨g, 0, none⟩) hs.length cap, .func (.func 20) #[] #[.pointer (some ⟨kb, 0, none⟩)]] w fun e w' => e = .returned (.slice (some ⟨g, 0, none⟩) (keep key hs).length cap) ∧ w'.ownsRow B 52 3 (.slice (some ⟨g, 0, none⟩) (keep key hs).length cap) (keep key hs).length (cellsL (keep key hs)) ∧ w.grownBy w' (some g) := by
  have HR := Lib.hid hr
  have HK := Lib.hid hk
  have hcap2 : hs.length ≤ cap ∧ cap ≤ 9223372036854775807 := by
    rcases hr.2 with ⟨h, _⟩ | ⟨_, c, _, hv, _, _, h1, hc, _⟩
    · cases h
    · cases hv; simp only [maxLen] at hc; omega
  obtain ⟨hc1, hc2⟩ := hcap2
  have hidx := Index_calls 20 kb key (enters_of Try.func20 (by kernel_rfl) rfl) _ B hs w hr h1000 (fun W a hb => by
    have hlt := World.block_lt_of_cell? w _ hk
    exact (dropFn_calls kb key a W ((hb.cell (p := ⟨kb, 0, none⟩) hlt).trans hk)).mono fun e w' ⟨h1, h2⟩ => ⟨h1, hb.trans (h2.mono hb.size)⟩)
  have HI := Lib.hid hidx
  clear hr hk hidx
  cases hf : hs.findIdx? (isKey key) with
  | none =>
    have hik : idx key hs = -1 := by unfold idx; rw [hf]
    rw [hik] at HI
    have hkeep : keep key hs = hs := by
      unfold keep
      rw [List.filter_eq_self]
      intro x hx
      have := (List.findIdx?_eq_none_iff.1 hf) x hx
      unfold isKey at this
      rw [this]; rfl
    rw [hkeep]
    clear hf hik hkeep
    go_enter Try.func19, Try.ntmps19
    go_wp2_with (go_at_call 26; refine Calls.mono HI.out ?_; rintro e w1 ⟨rfl, hb1⟩)
    go_ret
    have hg1 : w.grownBy w1 (some g) := ⟨hb1.os, hb1.tape, hb1.output, hb1.size, fun k hk _ => hb1.block k hk⟩
    exact ⟨rfl, HR.out.kept (row := none) ⟨hb1.os, hb1.tape, hb1.output, hb1.size, fun k hk _ => hb1.block k hk⟩ (.inr (by simp [Value.ownBlock])), hg1⟩
  | some k =>
    have hik : idx key hs = (k : Int) := by unfold idx; rw [hf]
    rw [hik] at HI
    obtain ⟨hkn, hkq, hkno⟩ := List.findIdx?_eq_some_iff_getElem.1 hf
    have hstart : Hid (hs.take k = keep key (hs.take (k + 1))) := by
      show hs.take k = keep key (hs.take (k + 1))
      rw [List.take_succ_eq_append_getElem hkn]
      unfold keep
      rw [List.filter_append]
      have h1 : (hs.take k).filter (fun a => !(a.key.toList == key.toList)) = hs.take k := by
        rw [List.filter_eq_self]
        intro x hx
        obtain ⟨j, hj, rfl⟩ := List.getElem_of_mem hx
        have hj' : j < k := by simp at hj; omega
        have := hkno j hj'
        rw [List.getElem_take]
        unfold isKey at this
        simpa using this
      have h2 : [hs[k]].filter (fun a => !(a.key.toList == key.toList)) = [] := by
        unfold isKey at hkq
        simp [hkq]
      rw [h1, h2, List.append_nil]
    have hkne : ((k : Int) == -1) = false := beq_eq_false_iff_ne.2 (by omega)
    clear hf hik hkq hkno
    go_enter Try.func19, Try.ntmps19
    go_wp2_with (go_at_call 26; refine Calls.mono HI.out ?_; rintro e w1 ⟨rfl, hb1⟩)
    have hg1 : w.grownBy w1 (some g) := ⟨hb1.os, hb1.tape, hb1.output, hb1.size, fun k hk _ => hb1.block k hk⟩
    have hr1 : w1.ownsRow B 52 3 (.slice (some ⟨g, 0, none⟩) hs.length cap) hs.length (cellsL hs) := HR.out.kept (row := none) ⟨hb1.os, hb1.tape, hb1.output, hb1.size, fun k hk _ => hb1.block k hk⟩ (.inr (by simp [Value.ownBlock]))
    clear hkne
    go_loopw [5, 6] (fun x y wr => ∃ (i j : Nat) (hs' : List Al), x = .int .i64 i ∧ y = .int .i64 j ∧ i < j ∧ j ≤ hs.length ∧ Hid (hs'.length = hs.length) ∧ Hid (wr.ownsRow B 52 3 (.slice (some ⟨g, 0, none⟩) hs.length cap) hs.length (cellsL hs')) ∧ Hid (w.grownBy wr (some g)) ∧ Hid (hs'.take i = keep key (hs.take j)) ∧ Hid (hs'.drop j = hs.drop j)) (fun _ y _ => hs.length - (intOf y).toNat)
    case atStart => exact ⟨k, k + 1, hs, rfl, by go_num, by omega, by omega, rfl, hr1, hg1, hstart, rfl⟩
    case round =>
      obtain ⟨i, j, hs', rfl, rfl, hij, hj, hl, hr', hg', ht, hd⟩ := hrel
      by_cases hlt : j < hs.length
      · have hjl : j < hs'.length := by rw [hl.out]; exact hlt
        have hsj : hs'[j] = hs[j] := by
          have h1 : (hs'.drop j)[0]? = (hs.drop j)[0]? := by rw [hd.out]
          simpa [hjl, hlt] using h1
        obtain ⟨a0, a1, a2⟩ := row_cells hr'.out hl.out.symm j hjl
        rw [hsj] at a0 a1 a2
        obtain ⟨i0, i1, i2⟩ := row_cells hr'.out hl.out.symm i (by omega)
        have hb0 := (Below.refl wr.heap.size wr).alloc (Nat.le_refl _) (.cells #[.int .i64 hs[j].at_, .int .i64 hs[j].num, .string hs[j].key] 52)
        have hk0 := (hb0.cell (p := ⟨kb, 0, none⟩) (World.block_lt_of_cell? wr _ (hg'.out.cell HK.out (by simpa using hkg)))).trans (hg'.out.cell HK.out (by simpa using hkg))
        have hgb := World.block_lt_of_cell? wr _ i0
        have b0 := cell_three_new wr (.int .i64 hs[j].at_) (.int .i64 hs[j].num) (.string hs[j].key) 52 0 _ rfl
        have b1 := cell_three_new wr (.int .i64 hs[j].at_) (.int .i64 hs[j].num) (.string hs[j].key) 52 1 _ rfl
        have b2 := cell_three_new wr (.int .i64 hs[j].at_) (.int .i64 hs[j].num) (.string hs[j].key) 52 2 _ rfl
        simp only [Addr.add_lit] at b0 b1 b2
        have hcall := dropFn_calls kb key hs[j] _ hk0
        have hsz : (wr.alloc (.cells #[.int .i64 hs[j].at_, .int .i64 hs[j].num, .string hs[j].key] 52)).heap.size = wr.heap.size + 1 := by simp
        unfold encA at hcall
        have HB0 := Lib.hid hb0
        have HSZ := Lib.hid hsz
        have B0 := Lib.hid b0
        have B1 := Lib.hid b1
        have B2 := Lib.hid b2
        have I0 := Lib.hid i0
        have I1 := Lib.hid i1
        have I2 := Lib.hid i2
        have GB := Lib.hid hgb
        cases hq : isKey key hs[j] with
        | true =>
          rw [hq] at hcall
          have HQ := Lib.hid hq
          have HC := Lib.hid hcall
          clear hq hcall hb0 hsz hk0 i0 i1 i2
          go_wp2_with (go_at_call 20; refine Calls.mono HC.out ?_; rintro e w2 ⟨rfl, hb2⟩)
          have hb3 := HB0.out.trans (hb2.mono (by rw [HSZ.out]; omega))
          refine ⟨⟨i, j + 1, hs', rfl, by go_num, by omega, by omega, hl, kept_row hr'.out hb3, grown_below hg'.out hb3, ?_, drop_next hd.out⟩, by simp [intOf]; omega⟩
          show hs'.take i = keep key (hs.take (j + 1))
          rw [keep_true hlt HQ.out]; exact ht.out
        | false =>
          rw [hq] at hcall
          have HQ := Lib.hid hq
          have HC := Lib.hid hcall
          clear hq hcall hb0 hsz hk0 i0 i1 i2
          go_wp2_with (go_at_call 20; refine Calls.mono HC.out ?_; rintro e w2 ⟨rfl, hb2⟩; have hb3 := HB0.out.trans (hb2.mono (by rw [HSZ.out]; omega)); have hr3 := kept_row hr'.out hb3; have c0 := (hb2.cell (p := ⟨wr.heap.size, 0, none⟩) (by rw [HSZ.out]; exact Nat.lt_succ_self _)).trans B0.out; have c1 := (hb2.cell (p := ⟨wr.heap.size, 1, none⟩) (by rw [HSZ.out]; exact Nat.lt_succ_self _)).trans B1.out; have c2 := (hb2.cell (p := ⟨wr.heap.size, 2, none⟩) (by rw [HSZ.out]; exact Nat.lt_succ_self _)).trans B2.out; have d0 := (hb3.cell (p := ⟨g, i * 3, none⟩) GB.out).trans I0.out; have d1 := (hb3.cell (p := ⟨g, i * 3 + 1, none⟩) GB.out).trans I1.out; have d2 := (hb3.cell (p := ⟨g, i * 3 + 2, none⟩) GB.out).trans I2.out; have f0 := hr3.frozenAt (i * 3); have f1 := hr3.frozenAt (i * 3 + 1); have f2 := hr3.frozenAt (i * 3 + 2); have HR3 := Lib.hid hr3; have HB3 := Lib.hid hb3; clear hr3 hb3 hb2)
          have hil : i < hs'.length := by rw [hl.out]; omega
          refine ⟨⟨i + 1, j + 1, hs'.set i hs[j], by go_num, by go_num, by omega, by omega, ?_, TM.stored HR3.out i hs[j], grown_set (grown_set (grown_set (grown_below hg'.out HB3.out) _) _) _, ?_, ?_⟩, by simp [intOf]; omega⟩
          · show (hs'.set i hs[j]).length = hs.length
            rw [List.length_set]; exact hl.out
          · show (hs'.set i hs[j]).take (i + 1) = keep key (hs.take (j + 1))
            rw [keep_false hlt HQ.out, ← ht.out, List.take_succ_eq_append_getElem (by simpa using hil)]
            simp
            rw [List.take_set, List.set_eq_of_length_le (by simp; omega)]
          · show (hs'.set i hs[j]).drop (j + 1) = hs.drop (j + 1)
            rw [List.drop_set_of_lt (by omega)]
            exact drop_next hd.out
      · obtain rfl : j = hs.length := by omega
        obtain ⟨w2, hcl, hr2, hg2⟩ := clear_row hr'.out hl.out.symm i hij
        have hlen : i = (keep key hs).length := by
          have := congrArg List.length ht.out
          rw [List.take_length, List.length_take, hl.out] at this
          omega
        have hrow : hs'.take i = keep key hs := by rw [ht.out, List.take_length]
        rw [hrow] at hr2
        have HR2 := Lib.hid hr2
        have HL := Lib.hid hlen
        clear hrow hr2 hlen
        go_wp2
        go_ret
        rw [← HL.out]
        exact ⟨rfl, HR2.out, grown_trans hg'.out hg2⟩

end Go.Proofs.Ytpofkfhpdokoeaa.Tm

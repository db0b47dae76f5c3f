/- timer.Timers: Add and Due. -/
import Derived.Test.YtpofkfhpdokoeaaTmDrop
set_option linter.unusedVariables false
set_option linter.unusedSimpArgs false
namespace Go.Proofs.Ytpofkfhpdokoeaa.Tm
open Go.RowKit

theorem Add_nil (x : Int) (key : ByteArray) (w : World) : Calls Try.prog 9 #[.pointer none, .int .i64 x, .string key] w fun e w' => e = .returned (.tuple #[.int .i64 0, .int .i64 7]) ∧ w' = w := by
  go_enter Try.func9, Try.ntmps9
  go_wp2
  go_ret2
  exact ⟨rfl, rfl⟩

theorem Add_arg (x : Int) (key : ByteArray) (p : Nat) (w : World) (h : x < 0 ∨ 256 < key.size) (hk : key.size ≤ 9223372036854775807) : Calls Try.prog 9 #[P p, .int .i64 x, .string key] w fun e w' => e = .returned (.tuple #[.int .i64 0, .int .i64 2]) ∧ w' = w := by
  unfold P
  by_cases h1 : 256 < key.size
  · clear h
    go_enter Try.func9, Try.ntmps9
    go_wp2
    go_ret2
    exact ⟨rfl, rfl⟩
  · have hx : x < 0 := by omega
    clear h
    go_enter Try.func9, Try.ntmps9
    go_wp2
    go_ret2
    exact ⟨rfl, rfl⟩

theorem Add_full (x : Int) (key : ByteArray) (B p : Nat) (hs : List Al) (last : Int) (w : World) (ht : TM w B p hs last) (hx : 0 ≤ x) (hk : key.size ≤ 256) (hl : hs.length = 1000) : Calls Try.prog 9 #[P p, .int .i64 x, .string key] w fun e w' => e = .returned (.tuple #[.int .i64 0, .int .i64 5]) ∧ w' = w := by
  unfold P
  obtain ⟨a, cap, p0⟩ := ht.cell
  rw [hl] at p0
  clear ht hl
  go_enter Try.func9, Try.ntmps9
  go_wp2
  go_ret2
  exact ⟨rfl, rfl⟩

theorem set_p1 {w : World} {p : Nat} {v : Value} {last : Int} (x : Int) (hp : w.heap[p]? = some (.cells #[v, .int .i64 last] 48 (0, 0))) : (w.setCell ⟨p, 1, none⟩ (.int .i64 x)).heap[p]? = some (.cells #[v, .int .i64 x] 48 (0, 0)) := by
  rw [heap_setCell_same w p 1 _ _ _ hp]
  simp

theorem TM.setLast {w : World} {B p : Nat} {hs : List Al} {last : Int} (h : TM w B p hs last) (x : Int) : TM (w.setCell ⟨p, 1, none⟩ (.int .i64 x)) B p hs x ∧ Fr p w (w.setCell ⟨p, 1, none⟩ (.int .i64 x)) := by
  obtain ⟨v, hB, hp, hr⟩ := h
  have hp2 := set_p1 x hp
  have hk := row_kind hp hr
  refine ⟨⟨v, hB, hp2, ?_⟩, rfl, rfl, rfl, by simp [World.setCell], fun k _ hkp _ => Below.heap_setCell _ _ _ _ (by simpa using hkp), fun g hg => .inl ?_⟩
  · refine hr.kept (row := some p) ⟨rfl, rfl, rfl, by simp [World.setCell], fun k _ hkp => Below.heap_setCell _ _ _ _ (by rintro rfl; exact hkp rfl)⟩ ?_
    cases hvb : v.ownBlock with
    | none => exact .inl rfl
    | some g => exact .inr (fun e => hk (by rw [hvb]; exact e.symm))
  · rw [own_of hp2] at hg
    rw [own_of hp]; exact hg

set_option maxHeartbeats 1000000 in
set_option maxRecDepth 100000 in
theorem Add_calls (x : Int) (key : ByteArray) (B p : Nat) (hs : List Al) (last : Int) (w : World) (ht : TM w B p hs last) (hx : 0 ≤ x) (hk : key.size ≤ 256) (hl : hs.length < 1000) (h0 : 0 ≤ last) (h1 : last ≤ 1000000) : Calls Try.prog 9 #[P p, .int .i64 x, .string key] w fun e w' => e = .returned (.tuple #[.int .i64 (last + 1), .int .i64 0]) ∧ TM w' B p (pushF hs ⟨x, last + 1, key⟩) (last + 1) ∧ Fr p w w' := by
  unfold P
  obtain ⟨v, hB, hp, hr⟩ := ht
  obtain ⟨a, cap, rfl⟩ : ∃ a cap, v = .slice a hs.length cap := by
    rcases hr.2 with ⟨rfl, h'⟩ | ⟨g, cap, cur, rfl, _⟩
    · exact ⟨none, 0, by rw [h']⟩
    · exact ⟨_, cap, rfl⟩
  obtain ⟨p0, p1, pf⟩ := cell_p0 hp
  have pf1 := pf 1
  obtain ⟨hT, hF⟩ := TM.setLast (show TM w B p hs last from ⟨_, hB, hp, hr⟩) (last + 1)
  have hlt := hT.lt
  have hpu := hPush_calls B p hs (last + 1) ⟨x, last + 1, key⟩ (w.setCell ⟨p, 1, none⟩ (.int .i64 (last + 1))).drew hT (by omega) (by show B ≤ (w.setCell ⟨p, 1, none⟩ (.int .i64 (last + 1))).heap.size; omega)
  obtain ⟨v2, _, hp2, hr2⟩ := hT
  have q1 := (cell_p0 hp2).2.1
  have hlen : (pushF hs ⟨x, last + 1, key⟩).length = hs.length + 1 := pushF_length _ _
  unfold H encA at hpu
  simp only at hpu
  have HPU := Lib.hid hpu
  have HF := Lib.hid hF
  clear hpu hF hp hr hp2 hr2 pf hlen
  go_enter Try.func9, Try.ntmps9
  go_wp2
  clear p0 p1 pf1 hlt
  generalize w.setCell ⟨p, 1, none⟩ (.int .i64 (last + 1)) = W at *
  refine wp_region_still_tail 12 (by kernel_rfl) (by kernel_rfl) ?_
  simp only [List.take_succ_cons, List.take_zero, List.drop_succ_cons, List.drop_zero]
  repeat still_step
  try refine wpStill_nil ?_
  change wpList _ _ _ _ _ (World.drew _)
  go_wp2_with first
    | (go_at_call 17; refine Calls.mono HPU.out ?_; rintro e w2 ⟨rfl, h2, hf2⟩; have r1 := (cell_p0 h2.choose_spec.2.1).2.1; have H2 := Lib.hid h2; have HF2 := Lib.hid hf2; clear h2 hf2)
  go_ret2
  exact ⟨rfl, H2.out, (show Fr p w W.drew from ⟨HF.out.os, HF.out.tape, HF.out.output, HF.out.size, HF.out.block, HF.out.owns⟩).trans HF2.out⟩

end Go.Proofs.Ytpofkfhpdokoeaa.Tm

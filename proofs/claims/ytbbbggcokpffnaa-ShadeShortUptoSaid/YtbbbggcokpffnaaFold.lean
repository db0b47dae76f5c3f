/- What glyph.Fold and the reference's Fold answer. Conditions: the text's size is one that Go has. -/
import Derived.Test.YtbbbggcokpffnaaProg
import Derived.Test.YtbbbggcokpffnaaPlain
import Derived.WalkKit
import Derived.KernelRfl
import Derived.Lib.OthersKept
import Derived.Lib.ConvBytes
import Derived.Laws.IdiomStrings
import Derived.Lib.Hide
set_option linter.unusedVariables false
set_option linter.unusedSimpArgs false
namespace Go.Proofs.Ytbbbggcokpffnaa.Fold
open Go.RowKit Go.Proofs.Ytbbbggcokpffnaa.Plain

/-- Block B is a row of bytes whose first n cells are l. -/
def Row (w : World) (B : Nat) (e : TypeId) (l : List UInt8) : Prop := ∃ cur M, w.heap[B]? = some (.cells cur e (M, M + 1)) ∧ l.length ≤ M ∧ cur.size = M ∧ ∀ j (h : j < l.length), cur[j]? = some (.int .u8 (l[j].toNat : Int))

theorem Row.cell {w : World} {B : Nat} {e : TypeId} {l : List UInt8} (h : Row w B e l) (j : Nat) (hj : j < l.length) : w.cell? ⟨B, j, none⟩ = some (.int .u8 (l[j].toNat : Int)) := by
  obtain ⟨cur, M, hb, hl, hs, hc⟩ := h
  simp [World.cell?, hb, hc j hj]

theorem Row.frozen {w : World} {B : Nat} {e : TypeId} {l : List UInt8} (h : Row w B e l) (j : Nat) (hj : j < l.length) : w.frozen? ⟨B, j, none⟩ = false := by
  obtain ⟨cur, M, hb, hl, hs, hc⟩ := h
  simp [World.frozen?, hb]
  omega

theorem Row.set {w : World} {B : Nat} {e : TypeId} {l : List UInt8} (h : Row w B e l) (j : Nat) (c : UInt8) (v : Value) (hv : v = .int .u8 (c.toNat : Int)) : Row (w.setCell ⟨B, j, none⟩ v) B e (l.set j c) := by
  obtain ⟨cur, M, hb, hl, hs, hc⟩ := h
  subst hv
  refine ⟨cur.setIfInBounds j (.int .u8 (c.toNat : Int)), M, by simp [World.setCell, Array.getElem?_modify, hb], by simpa using hl, by simpa using hs, fun i hi => ?_⟩
  have hi' : i < l.length := by simpa using hi
  have hM : i < cur.size := by omega
  rw [Array.getElem?_setIfInBounds]
  by_cases hji : j = i
  · subst hji; simp [hM]
  · rw [if_neg hji, hc i hi']; simp [List.getElem_set, hji]

theorem Row.new (w : World) (e : TypeId) (s : ByteArray) : Row (Lib.bytesWorld w e s) w.heap.size e s.data.toList := by
  refine ⟨_, _, Lib.bytesWorld_at_new w e s, ?_, rfl, fun j hj => ?_⟩
  · simp [Lib.bytesCells]
  · have hj' : j < s.size := by simpa using hj
    have := Lib.bytesWorld_cell w e s j hj'
    simp [World.cell?, Lib.bytesWorld_at_new] at this
    rw [this]
    simp [List.getD, hj']

theorem Row.below {w : World} (e : TypeId) (s : ByteArray) : Below w.heap.size w (Lib.bytesWorld w e s) := by
  refine ⟨?_, ?_, ?_, by rw [Lib.bytesWorld_size]; omega, fun i hi => Lib.bytesWorld_at_old w e s i hi⟩
  all_goals (unfold Lib.bytesWorld World.freeze; rfl)

theorem low_yes (c : UInt8) : ((c.toNat : Int) - 65) % 256 < 26 → (bits BinOp.or IntKind.u8 (c.toNat : Int) 32) = ((low c).toNat : Int) := by
  refine byte_all (p := fun c => ((c.toNat : Int) - 65) % 256 < 26 → (bits BinOp.or IntKind.u8 (c.toNat : Int) 32) = ((low c).toNat : Int)) ?_ c
  decide +kernel
theorem low_no (c : UInt8) : 26 ≤ ((c.toNat : Int) - 65) % 256 → low c = c := by
  refine byte_all (p := fun c => 26 ≤ ((c.toNat : Int) - 65) % 256 → low c = c) ?_ c
  decide +kernel
theorem low_add (c : UInt8) : 65 ≤ (c.toNat : Int) → (c.toNat : Int) ≤ 90 → ((c.toNat : Int) + 32) = ((low c).toNat : Int) := by
  refine byte_all (p := fun c => 65 ≤ (c.toNat : Int) → (c.toNat : Int) ≤ 90 → ((c.toNat : Int) + 32) = ((low c).toNat : Int)) ?_ c
  decide +kernel
theorem low_not (c : UInt8) : ¬ (65 ≤ (c.toNat : Int) ∧ (c.toNat : Int) ≤ 90) → low c = c := by
  refine byte_all (p := fun c => ¬ (65 ≤ (c.toNat : Int) ∧ (c.toNat : Int) ≤ 90) → low c = c) ?_ c
  decide +kernel

theorem Row.string {P : Program} {w : World} {B cap : Nat} {e src dst : TypeId} {l : List UInt8} {n : Nat} (h : Row w B e l) (hn : l.length = n) (hs : P.underlying src = some (.slice e)) (he : P.underlying e = some (.int .u8)) (hd : P.underlying dst = some .string) :
    (convert src dst (.slice (some ⟨B, 0, none⟩) n cap)).run P w = .ok (.string ⟨l.toArray⟩) w := by
  subst hn
  refine run_convert_bytes_back w src dst e ⟨B, 0, none⟩ cap l hs he hd (fun j hj => ?_)
  have := h.cell j hj
  have e : (⟨B, 0, none⟩ : Addr).add j = ⟨B, j, none⟩ := by unfold Addr.add; split <;> simp_all
  rw [e]; exact this

set_option maxHeartbeats 400000 in
set_option maxRecDepth 100000 in
theorem Fold_any (s : ByteArray) (w : World) (hs : s.size ≤ 9223372036854775807) : Calls Try.prog 31 #[.string s] w fun e w' => e = .returned (.string (foldB s)) ∧ Below w.heap.size w w' := by
  have hconv := Lib.run_convert_string_bytes (P := Try.prog) w 9 38 5 s Try.underlying9 Try.underlying38 Try.underlying5
  have hR0 := Row.new w 5 s
  have hB0 := Row.below (w := w) 5 s
  generalize Lib.bytesWorld w 5 s = W0 at hconv hR0 hB0
  generalize grownCap w s.size 0 5 = cap at hconv
  go_enter Try.func31, Try.ntmps31
  go_wp2
  go_loopw [10] (fun i wr => ∃ k : Nat, k ≤ s.size ∧ i = .int .i64 k ∧ Row wr w.heap.size 5 (foldTo s.data.toList k) ∧ Below w.heap.size w wr) (fun i _ => s.size - (intOf i).toNat)
  case atStart => exact ⟨0, Nat.zero_le _, rfl, by rw [foldTo_zero]; exact hR0, hB0⟩
  case round =>
    obtain ⟨k, hk, rfl, hR, hB⟩ := hrel
    by_cases hlt : k < s.size
    · have hkl : k < s.data.toList.length := by simpa using hlt
      have hcell := hR.cell k (by rw [foldTo_length]; exact hkl)
      rw [foldTo_at _ _ hkl] at hcell
      have hfz := hR.frozen k (by rw [foldTo_length]; exact hkl)
      have HS := Lib.hid (foldTo_succ s.data.toList k hkl)
      have HM := Lib.hid (foldTo_same s.data.toList k hkl)
      have HR := Lib.hid hR
      clear hR
      generalize s.data.toList[k] = c at *
      have hc256 := c.toNat_lt
      go_wp2
      · have hc : ((c.toNat : Int) - 65) % 256 < 26 := by assumption
        refine ⟨⟨k + 1, by omega, by go_num, ?_, hB.setCell (p := ⟨w.heap.size, k, none⟩) (Nat.le_refl _) _⟩, by simp [intOf]; omega⟩
        rw [HS.out, low_yes c hc]
        exact HR.out.set k _ _ rfl
      · have hc : 26 ≤ ((c.toNat : Int) - 65) % 256 := by assumption
        refine ⟨⟨k + 1, by omega, by go_num, ?_, hB⟩, by simp [intOf]; omega⟩
        rw [HM.out (low_no c hc)]
        exact HR.out
    · obtain rfl : k = s.size := by omega
      have hall := hR
      rw [show s.size = s.data.toList.length by simp, foldTo_all] at hall
      have hback := hall.string (P := Try.prog) (cap := cap) (src := 38) (dst := 9) (n := s.size) (by simp) Try.underlying38 Try.underlying5 Try.underlying9
      clear hall hR
      go_wp2
      go_ret
      exact ⟨rfl, hB⟩

set_option maxHeartbeats 400000 in
set_option maxRecDepth 100000 in
theorem RFold_any (s : ByteArray) (w : World) (hs : s.size ≤ 9223372036854775807) : Calls Try.prog 35 #[.string s] w fun e w' => e = .returned (.string (foldB s)) ∧ Below w.heap.size w w' := by
  have hconv := Lib.run_convert_string_bytes (P := Try.prog) w 9 38 5 s Try.underlying9 Try.underlying38 Try.underlying5
  have hR0 := Row.new w 5 s
  have hB0 := Row.below (w := w) 5 s
  generalize Lib.bytesWorld w 5 s = W0 at hconv hR0 hB0
  generalize grownCap w s.size 0 5 = cap at hconv
  go_enter Try.func35, Try.ntmps35
  go_wp2
  go_loopw [4] (fun i wr => ∃ k : Nat, k ≤ s.size ∧ i = .int .i64 k ∧ Row wr w.heap.size 5 (foldTo s.data.toList k) ∧ Below w.heap.size w wr) (fun i _ => s.size - (intOf i).toNat)
  case atStart => exact ⟨0, Nat.zero_le _, rfl, by rw [foldTo_zero]; exact hR0, hB0⟩
  case round =>
    obtain ⟨k, hk, rfl, hR, hB⟩ := hrel
    by_cases hlt : k < s.size
    · have hkl : k < s.data.toList.length := by simpa using hlt
      have hcell := hR.cell k (by rw [foldTo_length]; exact hkl)
      rw [foldTo_at _ _ hkl] at hcell
      have hfz := hR.frozen k (by rw [foldTo_length]; exact hkl)
      have HS := Lib.hid (foldTo_succ s.data.toList k hkl)
      have HM := Lib.hid (foldTo_same s.data.toList k hkl)
      have HR := Lib.hid hR
      clear hR
      generalize s.data.toList[k] = c at *
      have hc256 := c.toNat_lt
      by_cases hc : 65 ≤ (c.toNat : Int) ∧ (c.toNat : Int) ≤ 90
      · obtain ⟨hc1, hc2⟩ := hc
        go_wp2
        refine ⟨⟨k + 1, by omega, by go_num, ?_, hB.setCell (p := ⟨w.heap.size, k, none⟩) (Nat.le_refl _) _⟩, by simp [intOf]; omega⟩
        rw [HS.out, low_add c hc1 hc2]
        exact HR.out.set k _ _ rfl
      · have hc' := Lib.hid (low_not c hc)
        by_cases hc1 : 65 ≤ (c.toNat : Int)
        · have hc2 : ¬ (c.toNat : Int) ≤ 90 := fun h => hc ⟨hc1, h⟩
          clear hc
          go_wp2
          refine ⟨⟨k + 1, by omega, by go_num, ?_, hB⟩, by simp [intOf]; omega⟩
          rw [HM.out hc'.out]
          exact HR.out
        · clear hc
          go_wp2
          refine ⟨⟨k + 1, by omega, by go_num, ?_, hB⟩, by simp [intOf]; omega⟩
          rw [HM.out hc'.out]
          exact HR.out
    · obtain rfl : k = s.size := by omega
      have hall := hR
      rw [show s.size = s.data.toList.length by simp, foldTo_all] at hall
      have hback := hall.string (P := Try.prog) (cap := cap) (src := 38) (dst := 9) (n := s.size) (by simp) Try.underlying38 Try.underlying5 Try.underlying9
      clear hall hR
      go_wp2
      go_ret
      exact ⟨rfl, hB⟩

end Go.Proofs.Ytbbbggcokpffnaa.Fold

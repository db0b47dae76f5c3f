/- Package tag: Kid. -/
import Derived.Test.YtaidgkmacpiajaaTgFuncs
import Derived.Lib.OthersKept
set_option linter.unusedVariables false
set_option linter.unusedSimpArgs false
namespace Go.Proofs.Ytaidgkmacpiajaa.Tg
open Go.RowKit Go.Proofs.Ytaidgkmacpiajaa.PTag Go.Proofs.YtaidgkmacpiajaaW.PrintWords

def kidB (sp nm : ByteArray) (k : S25) : Bool := (k.f0.toList == sp.toList) && (k.f1.toList == nm.toList)

set_option maxHeartbeats 1000000 in
theorem kidFn_calls (sp nm : ByteArray) (e : S25) (A2 : Option Addr) (c2 : Nat) (A4 : Option Addr) (c4 : Nat) (ka kb : Nat) (W : World) (ha : W.cell? ⟨ka, 0, none⟩ = some (.string sp)) (hb : W.cell? ⟨kb, 0, none⟩ = some (.string nm)) :
    Calls Try.prog 31 #[.agg #[.string e.f0, .string e.f1, .slice A2 e.f2.length c2, .string e.f3, .slice A4 e.f4.length c4], .pointer (some ⟨ka, 0, none⟩), .pointer (some ⟨kb, 0, none⟩)] W fun en w' => en = .returned (.bool (kidB sp nm e)) ∧ Below W.heap.size W w' := by
  have h1 := World.block_lt_of_cell? W _ ha
  have h2 := World.block_lt_of_cell? W _ hb
  have n1 : ka ≠ W.heap.size := by simp at h1; omega
  have n2 : kb ≠ W.heap.size := by simp at h2; omega
  unfold kidB
  cases q0 : (e.f0.toList == sp.toList) with
  | false =>
    go_enter Try.func31, Try.ntmps31
    go_wp2_with fail
    go_ret
    exact ⟨rfl, (Below.refl _ _).alloc (Nat.le_refl _) _⟩
  | true =>
    obtain ⟨r, hr⟩ : ∃ r, (e.f1.toList == nm.toList) = r := ⟨_, rfl⟩
    rw [hr]
    go_enter Try.func31, Try.ntmps31
    go_wp2_with fail
    go_ret
    exact ⟨by first | rfl | simp, (Below.refl _ _).alloc (Nat.le_refl _) _⟩

theorem kid_index (sp nm : ByteArray) (A : Option Addr) (c : Nat) (xs : List S25) (w : World) (hC : Kd.C k25 w A xs.length xs) (hl : xs.length ≤ 1099511627776) (ka kb : Nat) (ha : w.cell? ⟨ka, 0, none⟩ = some (.string sp)) (hb : w.cell? ⟨kb, 0, none⟩ = some (.string nm)) :
    Calls Try.prog 30 #[.slice A xs.length c, .func (.func 31) #[] #[.pointer (some ⟨ka, 0, none⟩), .pointer (some ⟨kb, 0, none⟩)]] w fun e w' => e = .returned (.int .i64 (idxB (kidB sp nm) xs)) ∧ Below w.heap.size w w' :=
  Index2_calls 31 ka kb (kidB sp nm) (enters_of Try.func31 (by kernel_rfl) rfl) A c xs w hC hl
    (fun V x B2 d2 B4 d4 _ hV _ _ _ _ => (kidFn_calls sp nm x B2 d2 B4 d4 ka kb V ((hV.cell (p := ⟨ka, 0, none⟩) (World.block_lt_of_cell? w _ ha)).trans ha) ((hV.cell (p := ⟨kb, 0, none⟩) (World.block_lt_of_cell? w _ hb)).trans hb)).mono fun en V' ⟨h1, h2⟩ => ⟨h1, hV.trans (h2.mono hV.size)⟩)

set_option maxHeartbeats 4000000 in
set_option maxRecDepth 1000000 in
theorem Kid_calls (e : S25) (sp nm : ByteArray) (A2 : Option Addr) (c2 : Nat) (A4 : Option Addr) (c4 : Nat) (W : World) (hC4 : Kd.C k25 W A4 e.f4.length e.f4) (hc4 : e.f4.length ≤ c4) (hl : e.f4.length ≤ 1099511627776) (i : Nat) (hi : i < e.f4.length) (hx : idxB (kidB sp nm) e.f4 = i) :
    Calls Try.prog 15 #[.agg #[.string e.f0, .string e.f1, .slice A2 e.f2.length c2, .string e.f3, .slice A4 e.f4.length c4], .string sp, .string nm] W
      fun en w' => (∃ B2 d2 B4 d4, en = .returned (.tuple #[.agg #[.string e.f4[i].f0, .string e.f4[i].f1, .slice B2 e.f4[i].f2.length d2, .string e.f4[i].f3, .slice B4 e.f4[i].f4.length d4], .bool true])) ∧ Below W.heap.size W w' := by
  have HC := Lib.hid hC4
  have HX := Lib.hid hx
  clear hC4 hx
  obtain ⟨n, hn⟩ : ∃ n, W.heap.size = n := ⟨_, rfl⟩
  go_enter Try.func15, Try.ntmps15
  go_wp2_with fail
  have hV := (((((Below.refl W.heap.size W).alloc (Nat.le_refl _) (.cells #[.string e.f0, .string e.f1, .slice A2 e.f2.length c2, .string e.f3, .slice A4 e.f4.length c4] 25)).alloc (by simp) (.cells #[.string sp] 9)).alloc (by simp; omega) (.cells #[.string nm] 9)).alloc (by simp; omega) (.cells #[.string ⟨#[]⟩, .string ⟨#[]⟩, .slice none 0 0, .string ⟨#[]⟩, .slice none 0 0] 25))
  have HV := Lib.hid hV
  clear hV
  have hK := kid_index sp nm A4 c4 e.f4 _ (Kd.C_below HC.out HV.out) hl (n + 1) (n + 1 + 1) (by go_simp) (by go_simp)
  rw [HX.out] at hK
  refine Calls.mono hK ?_
  rintro en w1 ⟨rfl, hb1⟩
  have B1 := Lib.hid (HV.out.trans (hb1.mono HV.out.size))
  clear hK
  have x0 : w1.heap[n]? = some (.cells #[.string e.f0, .string e.f1, .slice A2 e.f2.length c2, .string e.f3, .slice A4 e.f4.length c4] 25 (0, 0)) := by
    rw [hb1.block n (by simp; omega), Below.heap_alloc _ _ _ (by simp; omega), Below.heap_alloc _ _ _ (by simp; omega), Below.heap_alloc _ _ _ (by simp; omega), ← hn]; exact heap_alloc_new _ _
  have x3 : w1.heap[n + 1 + 1 + 1]? = some (.cells #[.string ⟨#[]⟩, .string ⟨#[]⟩, .slice none 0 0, .string ⟨#[]⟩, .slice none 0 0] 25 (0, 0)) := by
    rw [hb1.block (n + 1 + 1 + 1) (by simp; omega)]
    have := heap_alloc_new (((W.alloc (.cells #[.string e.f0, .string e.f1, .slice A2 e.f2.length c2, .string e.f3, .slice A4 e.f4.length c4] 25)).alloc (.cells #[.string sp] 9)).alloc (.cells #[.string nm] 9)) (.cells #[.string ⟨#[]⟩, .string ⟨#[]⟩, .slice none 0 0, .string ⟨#[]⟩, .slice none 0 0] 25)
    simp only [World.size_alloc, hn] at this
    exact this
  clear hb1
  obtain ⟨ad, B2, d2, B4, d4, hA, q0, q1, q2, q3, q4, l2, g2, l4, g4⟩ := at_T25 (Kd.C_below HC.out B1.out) (i : Int) (by omega) (by omega)
  have hrd : rd_T25 e.f4 (i : Int) = e.f4[i] := by simp [rd_T25, hi]
  rw [hrd] at q0 q1 q2 q3 q4
  subst hA
  simp only [Int.toNat_natCast] at q0 q1 q2 q3 q4
  have c4' : w1.cell? ⟨n, 4, none⟩ = some (.slice (some ad) e.f4.length c4) := by rw [Lib.cell_of_heap x0]; rfl
  have z0 : w1.cell? ⟨n + 1 + 1 + 1, 0, none⟩ = some (.string ⟨#[]⟩) := by rw [Lib.cell_of_heap x3]; rfl
  have z1 : w1.cell? ⟨n + 1 + 1 + 1, 1, none⟩ = some (.string ⟨#[]⟩) := by rw [Lib.cell_of_heap x3]; rfl
  have z2 : w1.cell? ⟨n + 1 + 1 + 1, 2, none⟩ = some (.slice none 0 0) := by rw [Lib.cell_of_heap x3]; rfl
  have z3 : w1.cell? ⟨n + 1 + 1 + 1, 3, none⟩ = some (.string ⟨#[]⟩) := by rw [Lib.cell_of_heap x3]; rfl
  have z4 : w1.cell? ⟨n + 1 + 1 + 1, 4, none⟩ = some (.slice none 0 0) := by rw [Lib.cell_of_heap x3]; rfl
  have f0 : w1.frozen? ⟨n + 1 + 1 + 1, 0, none⟩ = false := Lib.frozen_of_heap x3 0
  have f1 : w1.frozen? ⟨n + 1 + 1 + 1, 1, none⟩ = false := Lib.frozen_of_heap x3 1
  have f2 : w1.frozen? ⟨n + 1 + 1 + 1, 2, none⟩ = false := Lib.frozen_of_heap x3 2
  have f3 : w1.frozen? ⟨n + 1 + 1 + 1, 3, none⟩ = false := Lib.frozen_of_heap x3 3
  have f4 : w1.frozen? ⟨n + 1 + 1 + 1, 4, none⟩ = false := Lib.frozen_of_heap x3 4
  clear x0 x3 hrd
  go_wp2_with fail
  refine bodyPost_ret (v := .tuple #[.agg #[.string e.f4[i].f0, .string e.f4[i].f1, .slice B2 e.f4[i].f2.length d2, .string e.f4[i].f3, .slice B4 e.f4[i].f4.length d4], .bool true]) (by simp [results, Try.results15, go_sem, z0, z1, z2, z3, z4]) rfl ⟨⟨B2, d2, B4, d4, rfl⟩, ?_⟩
  exact ((((B1.out.setCell (by simp; omega) _).setCell (by simp; omega) _).setCell (by simp; omega) _).setCell (by simp; omega) _).setCell (by simp; omega) _

set_option maxHeartbeats 4000000 in
set_option maxRecDepth 1000000 in
theorem Kid_none (e : S25) (sp nm : ByteArray) (A2 : Option Addr) (c2 : Nat) (A4 : Option Addr) (c4 : Nat) (W : World) (hC4 : Kd.C k25 W A4 e.f4.length e.f4) (hc4 : e.f4.length ≤ c4) (hl : e.f4.length ≤ 1099511627776) (hx : idxB (kidB sp nm) e.f4 = -1) :
    Calls Try.prog 15 #[.agg #[.string e.f0, .string e.f1, .slice A2 e.f2.length c2, .string e.f3, .slice A4 e.f4.length c4], .string sp, .string nm] W
      fun en w' => en = .returned (.tuple #[.agg #[.string ⟨#[]⟩, .string ⟨#[]⟩, .slice none 0 0, .string ⟨#[]⟩, .slice none 0 0], .bool false]) ∧ Below W.heap.size W w' := by
  have HC := Lib.hid hC4
  have HX := Lib.hid hx
  clear hC4 hx
  obtain ⟨n, hn⟩ : ∃ n, W.heap.size = n := ⟨_, rfl⟩
  go_enter Try.func15, Try.ntmps15
  go_wp2_with fail
  have hV := (((((Below.refl W.heap.size W).alloc (Nat.le_refl _) (.cells #[.string e.f0, .string e.f1, .slice A2 e.f2.length c2, .string e.f3, .slice A4 e.f4.length c4] 25)).alloc (by simp) (.cells #[.string sp] 9)).alloc (by simp; omega) (.cells #[.string nm] 9)).alloc (by simp; omega) (.cells #[.string ⟨#[]⟩, .string ⟨#[]⟩, .slice none 0 0, .string ⟨#[]⟩, .slice none 0 0] 25))
  have HV := Lib.hid hV
  clear hV
  have hK := kid_index sp nm A4 c4 e.f4 _ (Kd.C_below HC.out HV.out) hl (n + 1) (n + 1 + 1) (by go_simp) (by go_simp)
  rw [HX.out] at hK
  refine Calls.mono hK ?_
  rintro en w1 ⟨rfl, hb1⟩
  have B1 := Lib.hid (HV.out.trans (hb1.mono HV.out.size))
  clear hK
  have x0 : w1.heap[n]? = some (.cells #[.string e.f0, .string e.f1, .slice A2 e.f2.length c2, .string e.f3, .slice A4 e.f4.length c4] 25 (0, 0)) := by
    rw [hb1.block n (by simp; omega), Below.heap_alloc _ _ _ (by simp; omega), Below.heap_alloc _ _ _ (by simp; omega), Below.heap_alloc _ _ _ (by simp; omega), ← hn]; exact heap_alloc_new _ _
  have x3 : w1.heap[n + 1 + 1 + 1]? = some (.cells #[.string ⟨#[]⟩, .string ⟨#[]⟩, .slice none 0 0, .string ⟨#[]⟩, .slice none 0 0] 25 (0, 0)) := by
    rw [hb1.block (n + 1 + 1 + 1) (by simp; omega)]
    have := heap_alloc_new (((W.alloc (.cells #[.string e.f0, .string e.f1, .slice A2 e.f2.length c2, .string e.f3, .slice A4 e.f4.length c4] 25)).alloc (.cells #[.string sp] 9)).alloc (.cells #[.string nm] 9)) (.cells #[.string ⟨#[]⟩, .string ⟨#[]⟩, .slice none 0 0, .string ⟨#[]⟩, .slice none 0 0] 25)
    simp only [World.size_alloc, hn] at this
    exact this
  clear hb1
  have c4' : w1.cell? ⟨n, 4, none⟩ = some (.slice A4 e.f4.length c4) := by rw [Lib.cell_of_heap x0]; rfl
  have z0 : w1.cell? ⟨n + 1 + 1 + 1, 0, none⟩ = some (.string ⟨#[]⟩) := by rw [Lib.cell_of_heap x3]; rfl
  have z1 : w1.cell? ⟨n + 1 + 1 + 1, 1, none⟩ = some (.string ⟨#[]⟩) := by rw [Lib.cell_of_heap x3]; rfl
  have z2 : w1.cell? ⟨n + 1 + 1 + 1, 2, none⟩ = some (.slice none 0 0) := by rw [Lib.cell_of_heap x3]; rfl
  have z3 : w1.cell? ⟨n + 1 + 1 + 1, 3, none⟩ = some (.string ⟨#[]⟩) := by rw [Lib.cell_of_heap x3]; rfl
  have z4 : w1.cell? ⟨n + 1 + 1 + 1, 4, none⟩ = some (.slice none 0 0) := by rw [Lib.cell_of_heap x3]; rfl
  have f0 : w1.frozen? ⟨n + 1 + 1 + 1, 0, none⟩ = false := Lib.frozen_of_heap x3 0
  have f1 : w1.frozen? ⟨n + 1 + 1 + 1, 1, none⟩ = false := Lib.frozen_of_heap x3 1
  have f2 : w1.frozen? ⟨n + 1 + 1 + 1, 2, none⟩ = false := Lib.frozen_of_heap x3 2
  have f3 : w1.frozen? ⟨n + 1 + 1 + 1, 3, none⟩ = false := Lib.frozen_of_heap x3 3
  have f4 : w1.frozen? ⟨n + 1 + 1 + 1, 4, none⟩ = false := Lib.frozen_of_heap x3 4
  clear x0 x3
  go_wp2_with fail
  refine bodyPost_ret (v := .tuple #[.agg #[.string ⟨#[]⟩, .string ⟨#[]⟩, .slice none 0 0, .string ⟨#[]⟩, .slice none 0 0], .bool false]) (by simp [results, Try.results15, go_sem, z0, z1, z2, z3, z4]) rfl ⟨rfl, ?_⟩
  exact ((((B1.out.setCell (by simp; omega) _).setCell (by simp; omega) _).setCell (by simp; omega) _).setCell (by simp; omega) _).setCell (by simp; omega) _

end Go.Proofs.Ytaidgkmacpiajaa.Tg

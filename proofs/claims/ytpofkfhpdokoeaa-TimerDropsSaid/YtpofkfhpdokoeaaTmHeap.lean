/- container/heap over the timers: up and down. -/
import Derived.Test.YtpofkfhpdokoeaaTmLow
set_option linter.unusedVariables false
set_option linter.unusedSimpArgs false
namespace Go.Proofs.Ytpofkfhpdokoeaa.Tm
open Go.RowKit

/-- The timers as heap.Interface. -/
def H (p : Nat) : Value := .iface 50 (.pointer (some ⟨p, 0, none⟩))

theorem m_Len0 (a : Addr) (w : World) : (method 188 50 (.pointer (some a)) "Len").run Try.prog w = (loadVar 46 a >>= fun v => pure (43, v) : Sem (FuncId × Value)).run Try.prog w := by kernel_rfl
theorem m_Less0 (a : Addr) (w : World) : (method 188 50 (.pointer (some a)) "Less").run Try.prog w = (loadVar 46 a >>= fun v => pure (44, v) : Sem (FuncId × Value)).run Try.prog w := by kernel_rfl
theorem m_Swap0 (a : Addr) (w : World) : (method 188 50 (.pointer (some a)) "Swap").run Try.prog w = (loadVar 46 a >>= fun v => pure (45, v) : Sem (FuncId × Value)).run Try.prog w := by kernel_rfl

theorem m_load (a : Addr) (v : Value) (w : World) (h : w.cell? a = some v) : (loadVar 46 a).run Try.prog w = .ok v w := by go_simp

theorem m_Len (a : Addr) (v : Value) (w : World) (h : w.cell? a = some v) : (method 188 50 (.pointer (some a)) "Len").run Try.prog w = .ok (43, v) w := by
  rw [m_Len0, Sem.run_bind, m_load a v w h]; rfl
theorem m_Less (a : Addr) (v : Value) (w : World) (h : w.cell? a = some v) : (method 188 50 (.pointer (some a)) "Less").run Try.prog w = .ok (44, v) w := by
  rw [m_Less0, Sem.run_bind, m_load a v w h]; rfl
theorem m_Swap (a : Addr) (v : Value) (w : World) (h : w.cell? a = some v) : (method 188 50 (.pointer (some a)) "Swap").run Try.prog w = .ok (45, v) w := by
  rw [m_Swap0, Sem.run_bind, m_load a v w h]; rfl
theorem m_Push (a : Addr) (w : World) : (method 188 50 (.pointer (some a)) "Push").run Try.prog w = .ok (50, .pointer (some a)) w := by kernel_rfl
theorem m_Pop (a : Addr) (w : World) : (method 188 50 (.pointer (some a)) "Pop").run Try.prog w = .ok (49, .pointer (some a)) w := by kernel_rfl
theorem n_Len (a : Addr) (w : World) : (nilAhead 188 50 (.pointer (some a)) "Len").run Try.prog w = .ok (some false) w := by kernel_rfl
theorem n_Less (a : Addr) (w : World) : (nilAhead 188 50 (.pointer (some a)) "Less").run Try.prog w = .ok (some false) w := by kernel_rfl
theorem n_Swap (a : Addr) (w : World) : (nilAhead 188 50 (.pointer (some a)) "Swap").run Try.prog w = .ok (some false) w := by kernel_rfl
theorem n_Push (a : Addr) (w : World) : (nilAhead 188 50 (.pointer (some a)) "Push").run Try.prog w = .ok (some false) w := by kernel_rfl
theorem n_Pop (a : Addr) (w : World) : (nilAhead 188 50 (.pointer (some a)) "Pop").run Try.prog w = .ok (some false) w := by kernel_rfl

theorem TM.opened {w : World} {B p : Nat} {hs : List Al} {last : Int} (h : TM w B p hs last) (h0 : 0 < hs.length) : ∃ g cap, w.heap[p]? = some (.cells #[.slice (some ⟨g, 0, none⟩) hs.length cap, .int .i64 last] 48 (0, 0)) ∧ w.ownsRow B 52 3 (.slice (some ⟨g, 0, none⟩) hs.length cap) hs.length (cellsL hs) := by
  obtain ⟨v, hB, hp, hr⟩ := h
  rcases hr.2 with ⟨_, h'⟩ | ⟨g, cap, cur, rfl, _⟩
  · omega
  · exact ⟨g, cap, hp, hr⟩

theorem cell_p0 {w : World} {p : Nat} {v : Value} {last : Int} (hp : w.heap[p]? = some (.cells #[v, .int .i64 last] 48 (0, 0))) : w.cell? ⟨p, 0, none⟩ = some v ∧ w.cell? ⟨p, 1, none⟩ = some (.int .i64 last) ∧ ∀ o, w.frozen? ⟨p, o, none⟩ = false := by
  refine ⟨?_, ?_, fun o => ?_⟩
  · simp [World.cell?, hp]
  · simp [World.cell?, hp]
  · simp [World.frozen?, hp]

theorem row_cells {w : World} {B g n cap : Nat} {hs : List Al} (h : w.ownsRow B 52 3 (.slice (some ⟨g, 0, none⟩) n cap) n (cellsL hs)) (hn : n = hs.length) (j : Nat) (hj : j < hs.length) :
    w.cell? ⟨g, j * 3, none⟩ = some (.int .i64 hs[j].at_) ∧ w.cell? ⟨g, j * 3 + 1, none⟩ = some (.int .i64 hs[j].num) ∧ w.cell? ⟨g, j * 3 + 2, none⟩ = some (.string hs[j].key) := by
  obtain ⟨h0, h1, h2⟩ := cellsL_at hs j hj
  exact ⟨(h.cellAt _ (by omega)).trans h0, (h.cellAt _ (by omega)).trans h1, (h.cellAt _ (by omega)).trans h2⟩

theorem Less_tm {w : World} {B g n cap : Nat} {hs : List Al} (h : w.ownsRow B 52 3 (.slice (some ⟨g, 0, none⟩) n cap) n (cellsL hs)) (hn : n = hs.length) (h1000 : hs.length ≤ 1000) (i j : Nat) (hi : i < hs.length) (hj : j < hs.length) :
    Calls Try.prog 44 #[.slice (some ⟨g, 0, none⟩) n cap, .int .i64 i, .int .i64 j] w fun e w' => e = .returned (.bool (lessAt hs i j)) ∧ Below w.heap.size w w' := by
  obtain ⟨a0, a1, _⟩ := row_cells h hn i hi
  obtain ⟨b0, b1, _⟩ := row_cells h hn j hj
  have := Less_calls g n cap i j hs[i] hs[j] w (by omega) (by omega) (by omega) a0 a1 b0 b1
  rwa [show less hs[i] hs[j] = lessAt hs i j by unfold lessAt; simp [hi, hj]] at this

theorem own_setCell (w : World) (g p o : Nat) (v : Value) (h : g ≠ p) : own (w.setCell ⟨g, o, none⟩ v) p = own w p := by
  unfold own
  rw [show (w.setCell ⟨g, o, none⟩ v).heap[p]? = w.heap[p]? from Below.heap_setCell _ _ _ _ (by simpa using fun e => h e.symm)]

theorem Fr.setCell {p g o : Nat} {a w : World} (h : Fr p a w) (hg : own a p = some g) (hne : g ≠ p) (v : Value) : Fr p a (w.setCell ⟨g, o, none⟩ v) := by
  refine ⟨h.os, h.tape, h.output, by simpa [World.setCell] using h.size, fun k hk hp ho => ?_, fun k hk => ?_⟩
  · rw [Below.heap_setCell _ _ _ _ (by rintro rfl; exact ho hg)]
    exact h.block k hk hp ho
  · rw [own_setCell _ _ _ _ _ hne] at hk
    exact h.owns k hk

theorem TM.drewN {w : World} {B p : Nat} {hs : List Al} {last : Int} (h : TM w B p hs last) (q : Nat) : TM (w.drewN q) B p hs last := h

theorem Fr.drewN {p : Nat} {a w : World} (h : Fr p a w) (q : Nat) : Fr p a (w.drewN q) := ⟨h.os, h.tape, h.output, h.size, h.block, h.owns⟩

theorem Swap_tm {w : World} {B p g cap : Nat} {hs : List Al} {last : Int} (h : TM w B p hs last) (hp : w.heap[p]? = some (.cells #[.slice (some ⟨g, 0, none⟩) hs.length cap, .int .i64 last] 48 (0, 0)))
    (hr : w.ownsRow B 52 3 (.slice (some ⟨g, 0, none⟩) hs.length cap) hs.length (cellsL hs)) (h1000 : hs.length ≤ 1000) (i j : Nat) (hi : i < hs.length) (hj : j < hs.length) :
    Calls Try.prog 45 #[.slice (some ⟨g, 0, none⟩) hs.length cap, .int .i64 i, .int .i64 j] w fun e w' => e = .returned (.tuple #[]) ∧ TM w' B p (swapF hs i j) last ∧ Fr p w w' := by
  obtain ⟨a0, a1, a2⟩ := row_cells hr rfl i hi
  obtain ⟨b0, b1, b2⟩ := row_cells hr rfl j hj
  have hown : own w p = some g := by simp [own, hp, Value.ownBlock]
  have hne := (h.own_lt g hown).2.2
  refine (Swap_calls g hs.length cap i j hs[i] hs[j] w hi hj h1000 a0 a1 a2 b0 b1 b2 (fun o => hr.frozenAt o)).mono ?_
  have hp1 : ((((((w.setCell ⟨g, i * 3, none⟩ (.int .i64 hs[j].at_)).setCell ⟨g, i * 3 + 1, none⟩ (.int .i64 hs[j].num)).setCell ⟨g, i * 3 + 2, none⟩ (.string hs[j].key)).setCell ⟨g, j * 3, none⟩ (.int .i64 hs[i].at_)).setCell ⟨g, j * 3 + 1, none⟩ (.int .i64 hs[i].num)).setCell ⟨g, j * 3 + 2, none⟩ (.string hs[i].key)).heap[p]? = some (.cells #[.slice (some ⟨g, 0, none⟩) hs.length cap, .int .i64 last] 48 (0, 0)) := by
    iterate 6 rw [Below.heap_setCell _ _ _ _ (by simpa using fun e => hne e.symm)]
    exact hp
  have h1 := TM.stored (TM.stored hr i hs[j]) j hs[i]
  rw [← swapF_at hi hj] at h1
  have h3 := (((((((Fr.refl p w).setCell (o := i * 3) hown hne (.int .i64 hs[j].at_)).setCell (o := i * 3 + 1) hown hne (.int .i64 hs[j].num)).setCell (o := i * 3 + 2) hown hne (.string hs[j].key)).setCell (o := j * 3) hown hne (.int .i64 hs[i].at_)).setCell (o := j * 3 + 1) hown hne (.int .i64 hs[i].num)).setCell (o := j * 3 + 2) hown hne (.string hs[i].key))
  generalize (((((w.setCell ⟨g, i * 3, none⟩ (.int .i64 hs[j].at_)).setCell ⟨g, i * 3 + 1, none⟩ (.int .i64 hs[j].num)).setCell ⟨g, i * 3 + 2, none⟩ (.string hs[j].key)).setCell ⟨g, j * 3, none⟩ (.int .i64 hs[i].at_)).setCell ⟨g, j * 3 + 1, none⟩ (.int .i64 hs[i].num)).setCell ⟨g, j * 3 + 2, none⟩ (.string hs[i].key) = W at *
  rintro e w' ⟨rfl, q, rfl⟩
  exact ⟨rfl, (show TM W B p _ last from ⟨.slice (some ⟨g, 0, none⟩) hs.length cap, h.lt.1, hp1, by rw [swapF_length]; exact h1⟩).drewN q, h3.drewN q⟩

end Go.Proofs.Ytpofkfhpdokoeaa.Tm

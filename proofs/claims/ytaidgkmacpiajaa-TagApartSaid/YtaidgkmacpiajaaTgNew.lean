/- Package tag: New with two pairs, of which the second has no value. -/
import Derived.Test.YtaidgkmacpiajaaTgTree
import Derived.Lib.OthersKept
import Derived.LoopN
import Derived.Lib.Hide
import Derived.RegionTactic
import Derived.ChangeAlike
import Derived.Deep.RegionLaw
import Derived.Deep.RegionHeld3
import Derived.Deep.AppendLies
import Derived.Outline
set_option linter.unusedVariables false
set_option linter.unusedSimpArgs false
namespace Go.Proofs.Ytaidgkmacpiajaa.Tg
open Go.RowKit Go.Proofs.Ytaidgkmacpiajaa.PTag Go.Proofs.YtaidgkmacpiajaaW.PrintWords

theorem infoAttr : (Try.prog.info? 51).map (fun i => (i.zero, i.size, i.bytes)) = some (some (.agg #[(.string ⟨#[]⟩), (.string ⟨#[]⟩)]), 2, 32) := by kernel_rfl

set_option maxHeartbeats 4000000 in
set_option maxRecDepth 1000000 in
theorem New_calls (sp nm : ByteArray) (g : Nat) (W : World) (h0 : W.cell? ⟨g, 0, none⟩ = some (.string ⟨#[99]⟩)) (h1 : W.cell? ⟨g, 1, none⟩ = some (.string ⟨#[100, 39]⟩)) (h2 : W.cell? ⟨g, 2, none⟩ = some (.string ⟨#[120]⟩)) (h3 : W.cell? ⟨g, 3, none⟩ = some (.string ⟨#[]⟩)) :
    Calls Try.prog 14 #[.string sp, .string nm, .slice (some ⟨g, 0, none⟩) 4 4] W
      fun en w' => (∃ gg cap, 1 ≤ cap ∧ en = .returned (.agg #[.string sp, .string nm, .slice (some ⟨gg, 0, none⟩) 1 cap, .string ⟨#[]⟩, .slice none 0 0]) ∧ w'.cell? ⟨gg, 0, none⟩ = some (.string ⟨#[99]⟩) ∧ w'.cell? ⟨gg, 1, none⟩ = some (.string ⟨#[100, 39]⟩)) ∧ Below W.heap.size W w' := by
  obtain ⟨i0, hi, hz0, hz1, hz2⟩ := info_parts infoAttr
  have hg : g < W.heap.size := World.block_lt_of_cell? W _ h0
  have hgne : g ≠ W.heap.size := by omega
  obtain ⟨n, hn⟩ : ∃ n, W.heap.size = n := ⟨_, rfl⟩
  have e1 : g ≠ n := by omega
  have e2 : g ≠ n + 1 := by omega
  have e3 : g < n := by omega
  have e4 : g < n + 1 := by omega
  obtain ⟨V, hV⟩ : ∃ V, (W.alloc (.cells #[.string ⟨#[]⟩, .string ⟨#[]⟩, .slice none 0 0, .string ⟨#[]⟩, .slice none 0 0] 25)).alloc (.cells #[.string sp, .string nm, .slice none 0 0, .string ⟨#[]⟩, .slice none 0 0] 25) = V := ⟨_, rfl⟩
  have hVs : V.heap.size = n + 1 + 1 := by rw [← hV]; simp; omega
  have hVB : Hid (Below n W V) := by rw [← hV, ← hn]; exact ((Below.refl _ _).alloc (Nat.le_refl _) _).alloc (by simp) _
  have hVn : V.heap[n + 1]? = some (.cells #[.string sp, .string nm, .slice none 0 0, .string ⟨#[]⟩, .slice none 0 0] 25 (0, 0)) := by
    have := heap_alloc_new (W.alloc (.cells #[.string ⟨#[]⟩, .string ⟨#[]⟩, .slice none 0 0, .string ⟨#[]⟩, .slice none 0 0] 25)) (.cells #[.string sp, .string nm, .slice none 0 0, .string ⟨#[]⟩, .slice none 0 0] 25)
    rw [World.size_alloc, hn, hV] at this
    exact this
  have hVz : V.heap[n]? = some (.cells #[.string ⟨#[]⟩, .string ⟨#[]⟩, .slice none 0 0, .string ⟨#[]⟩, .slice none 0 0] 25 (0, 0)) := by
    rw [← hV, Below.heap_alloc _ _ _ (by simp; omega), ← hn]; exact heap_alloc_new _ _
  have g0 : V.cell? ⟨g, 0, none⟩ = some (.string ⟨#[99]⟩) := (hVB.out.cell (p := ⟨g, 0, none⟩) e3).trans h0
  have g1 : V.cell? ⟨g, 1, none⟩ = some (.string ⟨#[100, 39]⟩) := (hVB.out.cell (p := ⟨g, 1, none⟩) e3).trans h1
  have g2 : V.cell? ⟨g, 2, none⟩ = some (.string ⟨#[120]⟩) := (hVB.out.cell (p := ⟨g, 2, none⟩) e3).trans h2
  have g3 : V.cell? ⟨g, 3, none⟩ = some (.string ⟨#[]⟩) := (hVB.out.cell (p := ⟨g, 3, none⟩) e3).trans h3
  have v2 : V.cell? ⟨n + 1, 2, none⟩ = some (.slice none 0 0) := by rw [Lib.cell_of_heap hVn]; rfl
  have vf : V.frozen? ⟨n + 1, 2, none⟩ = false := Lib.frozen_of_heap hVn 2
  have HV := Lib.hid hV
  have HVN := Lib.hid hVn
  have HVZ := Lib.hid hVz
  clear hV hVn hVz
  go_enter Try.func14, Try.ntmps14
  go_wp2_with fail
  refine wp_loop_rounds 3 ?_
  rw [rounds_succ]
  go_wp2_with fail
  rw [HV.out]
  go_region_law
    ((refine step_append_lies _ (by rfl) _ _ _ (by rfl) n 51 i0 _ 2 32 Try.underlying22 hi hz0 hz1 hz2 rfl (by omega) (.slice none 0 0) 0 [] (by rfl) ⟨rfl, .inl ⟨rfl, rfl⟩⟩
        ⟨n + 1 + 1, 0, none⟩ 1 1 [.string ⟨#[99]⟩, .string ⟨#[100, 39]⟩] (by rfl) (by rfl) (World.news_of_block (cs := #[.string ⟨#[99]⟩, .string ⟨#[100, 39]⟩]) (t := 51) (fr := (0, 0)) (by rw [← hVs]; exact heap_alloc_new V _)) (by simp [Value.oneCell'])
        (by omega) (by simp [maxLen]) (by omega) (by simp; omega) (n + 1 + 1 + 1) (by simp; omega) ?_; intro gg cap w1 hown1 hgrow hat hlt; have hcz : w1.cell? ⟨n + 1, 2, none⟩ = some (.slice none 0 0) := (hgrow.cell_far ⟨n + 1, 2, none⟩ (by simp; omega) (by simp [Value.ownBlock])).trans ((World.cell?_of_block (Below.heap_alloc V _ (n + 1) (by omega))).trans v2); have HGR := Lib.hid (show V.grownBy w1 none from ⟨hgrow.os, hgrow.tape, hgrow.output, by have := hgrow.size; simp at this; omega, fun k hk _ => (hgrow.block k (by simp; omega) (by simp [Value.ownBlock])).trans (Below.heap_alloc V _ k hk)⟩); have HOWN := Lib.hid hown1; clear hown1 hgrow; have hfz : w1.frozen? ⟨n + 1, 2, none⟩ = false := (World.frozen?_of_block (HGR.out.block (n + 1) (by omega) (by simp))).trans vf))
  all_goals
    have hgg : gg = n + 1 + 1 + 1 := by
      rcases hat with h | h
      · simp [Value.ownBlock] at h
      · exact h
    subst hgg
    have k2 : w1.cell? ⟨g, 2, none⟩ = some (.string ⟨#[120]⟩) := (World.cell?_of_block (HGR.out.block g (by omega) (by simp))).trans g2
    have k3 : w1.cell? ⟨g, 3, none⟩ = some (.string ⟨#[]⟩) := (World.cell?_of_block (HGR.out.block g (by omega) (by simp))).trans g3
    have x1 : w1.heap[n + 1]? = some (.cells #[.string sp, .string nm, .slice none 0 0, .string ⟨#[]⟩, .slice none 0 0] 25 (0, 0)) := (HGR.out.block (n + 1) (by omega) (by simp)).trans HVN.out
    have x0 : w1.heap[n]? = some (.cells #[.string ⟨#[]⟩, .string ⟨#[]⟩, .slice none 0 0, .string ⟨#[]⟩, .slice none 0 0] 25 (0, 0)) := (HGR.out.block n (by omega) (by simp)).trans HVZ.out
    have y0 : w1.cell? ⟨n + 1, 0, none⟩ = some (.string sp) := by rw [Lib.cell_of_heap x1]; rfl
    have y1 : w1.cell? ⟨n + 1, 1, none⟩ = some (.string nm) := by rw [Lib.cell_of_heap x1]; rfl
    have y3 : w1.cell? ⟨n + 1, 3, none⟩ = some (.string ⟨#[]⟩) := by rw [Lib.cell_of_heap x1]; rfl
    have y4 : w1.cell? ⟨n + 1, 4, none⟩ = some (.slice none 0 0) := by rw [Lib.cell_of_heap x1]; rfl
    have z0 : w1.cell? ⟨n, 0, none⟩ = some (.string ⟨#[]⟩) := by rw [Lib.cell_of_heap x0]; rfl
    have z1 : w1.cell? ⟨n, 1, none⟩ = some (.string ⟨#[]⟩) := by rw [Lib.cell_of_heap x0]; rfl
    have z2 : w1.cell? ⟨n, 2, none⟩ = some (.slice none 0 0) := by rw [Lib.cell_of_heap x0]; rfl
    have z3 : w1.cell? ⟨n, 3, none⟩ = some (.string ⟨#[]⟩) := by rw [Lib.cell_of_heap x0]; rfl
    have z4 : w1.cell? ⟨n, 4, none⟩ = some (.slice none 0 0) := by rw [Lib.cell_of_heap x0]; rfl
    have f0 : w1.frozen? ⟨n, 0, none⟩ = false := Lib.frozen_of_heap x0 0
    have f1 : w1.frozen? ⟨n, 1, none⟩ = false := Lib.frozen_of_heap x0 1
    have f2 : w1.frozen? ⟨n, 2, none⟩ = false := Lib.frozen_of_heap x0 2
    have f3 : w1.frozen? ⟨n, 3, none⟩ = false := Lib.frozen_of_heap x0 3
    have f4 : w1.frozen? ⟨n, 4, none⟩ = false := Lib.frozen_of_heap x0 4
    clear x0 x1 g0 g1 g2 g3 v2 h0 h1 h2 h3
    go_wp2_with fail
    rw [rounds_succ]
    go_wp2_with fail
    rw [rounds_succ]
    go_wp2_with fail
    have hcap : 1 ≤ cap := by
      rcases HOWN.out.2 with ⟨h, _⟩ | ⟨_, c, _, hv, _, _, h1, _⟩
      · cases h
      · cases hv; exact h1
    have r0 := HOWN.out.cells (g := n + 1 + 1 + 1) rfl 0 (.string ⟨#[99]⟩) rfl
    have r1 := HOWN.out.cells (g := n + 1 + 1 + 1) rfl 1 (.string ⟨#[100, 39]⟩) rfl
    simp only [Addr.add] at r0 r1
    have hBB := hVB.out.grown HGR.out (by omega) (by simp)
    refine bodyPost_ret (v := .agg #[.string sp, .string nm, .slice (some ⟨n + 1 + 1 + 1, 0, none⟩) 1 cap, .string ⟨#[]⟩, .slice none 0 0]) (by simp [results, Try.results14, go_sem, z0, z1, z2, z3, z4]) rfl ⟨⟨n + 1 + 1 + 1, cap, hcap, rfl, ?_, ?_⟩, ?_⟩
    · simp [World.cell?_setCell_other]; exact r0
    · simp [World.cell?_setCell_other]; exact r1
    · rw [hn]
      exact (((((hBB.setCell (by simp) _).setCell (by simp) _).setCell (by simp) _).setCell (by simp) _).setCell (by simp) _).setCell (by simp) _

end Go.Proofs.Ytaidgkmacpiajaa.Tg

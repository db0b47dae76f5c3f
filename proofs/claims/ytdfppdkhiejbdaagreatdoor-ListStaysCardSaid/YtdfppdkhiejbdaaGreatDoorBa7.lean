import Derived.Test.YtdfppdkhiejbdaaGreatDoorBa4
import Derived.Test.YtdfppdkhiejbdaaGreatDoorBa6
import Derived.RegionTactic
import Derived.Deep.RegionWith
import Derived.Deep.DeepCutAuto
/- Package legacy: isItems; package list: may. -/
set_option linter.unusedVariables false
set_option linter.unusedSimpArgs false
namespace Go.Proofs.YtdfppdkhiejbdaaGreatDoor.Li
open Go.RowKit Go.Proofs.YtdfppdkhiejbdaaGreatDoor.PList Go.Proofs.YtdfppdkhiejbdaaGreatDoorW.PrintWords

set_option maxHeartbeats 1000000 in
theorem items1_calls (x : S26) (w : World) (h0 : x.f0.size ≤ 17592186044416) : Calls Tryz.prog 89 #[iv x] w fun e w' => e = .returned (.bool (!itemB x)) ∧ Below w.heap.size w w' := by
  have HB0 := Lib.hid (bel1 w (ib x))
  have HI := Lib.hid (item_calls x (w.alloc (ib x)) h0)
  generalize itemB x = b at *
  clear h0
  go_enter Tryz.func89, Tryz.ntmps89
  go_wp2_with fail
  refine Calls.mono HI.out ?_
  rintro en w1 ⟨rfl, hb1⟩
  have HB1 := Lib.hid (up HB0.out hb1)
  clear hb1
  go_wp2_with fail
  go_ret
  exact ⟨rfl, HB1.out⟩

def itemsB (xs : List S26) (least : Int) : Bool := decide (least ≤ xs.length) && decide ((xs.length : Int) ≤ 100) && !(xs.any fun x => !itemB x)

set_option maxHeartbeats 2000000 in
theorem isItems_calls (A : Option Addr) (c : Nat) (xs : List S26) (least : Int) (w : World) (hC : Kd.C k26 w A xs.length xs) (hs : Sm xs) :
    Calls Tryz.prog 77 #[.slice A xs.length c, .int .i64 least] w fun e w' => e = .returned (.bool (itemsB xs least)) ∧ Below w.heap.size w w' := by
  have HI := Lib.hid (Contains0_calls 89 (fun x => !itemB x) (enters_of Tryz.func89 (by kernel_rfl) rfl) A c xs w hC hs.1 (fun W x hx _ => items1_calls x W (hs.2 x hx).1))
  unfold itemsB
  have hl := hs.1
  generalize (xs.any fun x => !itemB x) = b at *
  generalize xs.length = n at *
  clear hC hs
  by_cases h1 : least ≤ (n : Int)
  · by_cases h2 : (n : Int) ≤ 100
    · go_enter Tryz.func77, Tryz.ntmps77
      go_wp2_with fail
      refine Calls.mono HI.out ?_
      rintro en w1 ⟨rfl, hb1⟩
      have HB1 := Lib.hid hb1
      clear hb1
      go_wp2_with fail
      go_ret
      exact ⟨by simp [h1, h2], HB1.out⟩
    · go_enter Tryz.func77, Tryz.ntmps77
      go_wp2_with fail
      go_ret
      exact ⟨by simp [show ¬ (n : Int) ≤ 100 by omega], Below.refl _ _⟩
  · go_enter Tryz.func77, Tryz.ntmps77
    go_wp2_with fail
    go_ret
    exact ⟨by simp [show ¬ least ≤ (n : Int) by omega], Below.refl _ _⟩

theorem cells11 {w : World} {g : Nat} {t : TypeId} {a b c d e f h i j k l : Value} (hh : w.heap[g]? = some (.cells #[a, b, c, d, e, f, h, i, j, k, l] t (0, 0))) :
    (w.cell? ⟨g, 0, none⟩ = some a ∧ w.cell? ⟨g, 1, none⟩ = some b ∧ w.cell? ⟨g, 2, none⟩ = some c ∧ w.cell? ⟨g, 3, none⟩ = some d ∧ w.cell? ⟨g, 4, none⟩ = some e ∧ w.cell? ⟨g, 5, none⟩ = some f ∧
    w.cell? ⟨g, 6, none⟩ = some h ∧ w.cell? ⟨g, 7, none⟩ = some i ∧ w.cell? ⟨g, 8, none⟩ = some j ∧ w.cell? ⟨g, 9, none⟩ = some k ∧ w.cell? ⟨g, 10, none⟩ = some l) ∧ ∀ m, w.frozen? ⟨g, m, none⟩ = false :=
  ⟨⟨blk_cell hh 0, blk_cell hh 1, blk_cell hh 2, blk_cell hh 3, blk_cell hh 4, blk_cell hh 5, blk_cell hh 6, blk_cell hh 7, blk_cell hh 8, blk_cell hh 9, blk_cell hh 10⟩, blk_frozen hh⟩

theorem put_same {w : World} {g : Nat} {t : TypeId} {cs : Array Value} (h : w.heap[g]? = some (.cells cs t (0, 0))) (i : Nat) (u : Value) (e : cs[i]? = some u) : (w.setCell ⟨g, i, none⟩ u).heap[g]? = some (.cells cs t (0, 0)) := by
  have := blk_set h i u
  have e2 : cs.setIfInBounds i u = cs := by
    apply Array.ext_getElem?
    intro k
    rw [Array.getElem?_setIfInBounds]
    split
    · rename_i hk; subst hk; split
      · exact e.symm
      · rename_i hn; rw [Array.getElem?_eq_none (by omega)] at e; cases e
    · rfl
  rw [e2] at this
  exact this
theorem store11 {w : World} {g : Nat} {t : TypeId} {a b c d e f h i j k l : Value} (hh : w.heap[g]? = some (.cells #[a, b, c, d, e, f, h, i, j, k, l] t (0, 0))) :
    (((((((((((w.setCell ⟨g, 0, none⟩ a).setCell ⟨g, 1, none⟩ b).setCell ⟨g, 2, none⟩ c).setCell ⟨g, 3, none⟩ d).setCell ⟨g, 4, none⟩ e).setCell ⟨g, 5, none⟩ f).setCell ⟨g, 6, none⟩ h).setCell ⟨g, 7, none⟩ i).setCell ⟨g, 8, none⟩ j).setCell ⟨g, 9, none⟩ k).setCell ⟨g, 10, none⟩ l).heap[g]? = some (.cells #[a, b, c, d, e, f, h, i, j, k, l] t (0, 0)) := by
  have h0 := put_same hh 0 a rfl
  have h1 := put_same h0 1 b rfl
  have h2 := put_same h1 2 c rfl
  have h3 := put_same h2 3 d rfl
  have h4 := put_same h3 4 e rfl
  have h5 := put_same h4 5 f rfl
  have h6 := put_same h5 6 h rfl
  have h7 := put_same h6 7 i rfl
  have h8 := put_same h7 8 j rfl
  have h9 := put_same h8 9 k rfl
  have h10 := put_same h9 10 l rfl
  exact h10

set_option maxHeartbeats 1000000 in
set_option maxRecDepth 100000 in
theorem hasMore_add (s1 s2 s3 : ByteArray) (i4 i5 i6 i7 : Int) (b8 : Bool) (A : Option Addr) (c : Nat) (xs : List S26) (B : Option Addr) (lb cb : Nat) (w : World) (hC : Kd.C k26 w A xs.length xs) (hs : Sm xs) :
    Calls Tryz.prog 63 #[.agg #[.int .i64 20, .string s1, .string s2, .string s3, .int .i64 i4, .int .i64 i5, .int .i64 i6, .int .i64 i7, .bool b8, .slice A xs.length c, .slice B lb cb]] w
      fun e w' => e = .returned (.tuple #[.agg #[.int .i64 20, .string ⟨#[]⟩, .string ⟨#[]⟩, .string ⟨#[]⟩, .int .i64 0, .int .i64 0, .int .i64 0, .int .i64 0, .bool false, .slice A xs.length c, .slice none 0 0], .bool (itemsB xs 1)]) ∧ Below w.heap.size w w' := by
  have HI := Lib.hid (fun W (h : Below w.heap.size w W) => isItems_calls A c xs 1 W (Kd.C_below hC h) hs)
  generalize itemsB xs 1 = b at *
  clear hC hs
  go_enter Tryz.func63, Tryz.ntmps63
  go_upto_region 18 with fail
  go_cut [3] (fun v3 wc => v3 = .bool b ∧ Hid (wc.heap[w.heap.size + 1]? = some (.cells #[.int .i64 20, .string ⟨#[]⟩, .string ⟨#[]⟩, .string ⟨#[]⟩, .int .i64 0, .int .i64 0, .int .i64 0, .int .i64 0, .bool false, .slice A xs.length c, .slice none 0 0] 67 (0, 0))) ∧ Hid (Below w.heap.size w wc))
  case first =>
    obtain ⟨V, hV⟩ : ∃ V, ((w.alloc (.cells #[.int .i64 20, .string s1, .string s2, .string s3, .int .i64 i4, .int .i64 i5, .int .i64 i6, .int .i64 i7, .bool b8, .slice A xs.length c, .slice B lb cb] 67)).alloc
        (.cells #[.int .i64 20, .string ⟨#[]⟩, .string ⟨#[]⟩, .string ⟨#[]⟩, .int .i64 0, .int .i64 0, .int .i64 0, .int .i64 0, .bool false, .slice A xs.length c, .slice none 0 0] 67)) = V := ⟨_, rfl⟩
    rw [hV]
    have hVB : Below w.heap.size w V := by rw [← hV]; exact up (bel1 _ _) (bel1 _ _)
    have hV1 : V.heap[w.heap.size + 1]? = some (.cells #[.int .i64 20, .string ⟨#[]⟩, .string ⟨#[]⟩, .string ⟨#[]⟩, .int .i64 0, .int .i64 0, .int .i64 0, .int .i64 0, .bool false, .slice A xs.length c, .slice none 0 0] 67 (0, 0)) := by
      rw [← hV, ← World.size_alloc]; exact blk_new _ _
    have hV0 : V.cell? ⟨w.heap.size, 9, none⟩ = some (.slice A xs.length c) := by
      rw [← hV]; exact blk_cell (blk_alloc (blk_new w _) _) 9
    have hVs : w.heap.size + 1 < V.heap.size := by rw [← hV, World.size_alloc, World.size_alloc]; omega
    have HV1 := Lib.hid (HI.out V.drew hVB.drew)
    have HN := Lib.hid hV1
    have HVB := Lib.hid hVB
    obtain ⟨⟨y0, y1, y2, y3, y4, y5, y6, y7, y8, y9, y10⟩, hyf⟩ := cells11 hV1
    clear hV hV1 hVB
    go_region_with (go_at_call 77; (with_reducible refine Calls.mono HV1.out ?_); rintro en w1 ⟨rfl, hb1⟩; have HB1 := Lib.hid (up HVB.out.drew hb1); have hN := blk_below (blk_drew HN.out) hb1; have HN1 := Lib.hid hN; obtain ⟨⟨z0, z1, z2, z3, z4, z5, z6, z7, z8, z9, z10⟩, hzf⟩ := cells11 hN; clear hb1 hN)
    all_goals
      clear y0 y1 y2 y3 y4 y5 y6 y7 y8 y9 y10 hyf hV0 HN HVB HV1 HI hVs
      go_wp2_with fail
      go_meet
      case rel =>
        refine ⟨rfl, store11 HN1.out, ?_⟩
        refine (show Below w.heap.size w _ from ?_)
        repeat (with_reducible refine below_set ?_ (Nat.le_succ _))
        exact HB1.out
  case rest =>
    obtain ⟨rfl, hh, HB1⟩ := hcut
    obtain ⟨⟨z0, z1, z2, z3, z4, z5, z6, z7, z8, z9, z10⟩, hzf⟩ := cells11 hh.out
    go_wp2_with fail
    refine bodyPost_ret (v := .tuple #[.agg #[.int .i64 20, .string ⟨#[]⟩, .string ⟨#[]⟩, .string ⟨#[]⟩, .int .i64 0, .int .i64 0, .int .i64 0, .int .i64 0, .bool false, .slice A xs.length c, .slice none 0 0], .bool b]) ?hr rfl ⟨rfl, HB1.out⟩
    simp [results, Tryz.results63, go_sem, z0, z1, z2, z3, z4, z5, z6, z7, z8, z9, z10]

end Go.Proofs.YtdfppdkhiejbdaaGreatDoor.Li

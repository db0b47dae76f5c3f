/- Package tag: isAttrs. -/
import Derived.Test.YtaidgkmacpiajaaTgTree
import Derived.Test.YtaidgkmacpiajaaTgChars
import Derived.Test.YtaidgkmacpiajaaTgMap
import Derived.Lib.Hide
import Derived.Outline
set_option linter.unusedVariables false
set_option linter.unusedSimpArgs false
namespace Go.Proofs.Ytaidgkmacpiajaa.Tg
open Go.RowKit Go.Proofs.Ytaidgkmacpiajaa.Plain Go.Proofs.Ytaidgkmacpiajaa.PTag Go.Proofs.YtaidgkmacpiajaaW.PrintWords

def xmlLang : List UInt8 := [120, 109, 108, 58, 108, 97, 110, 103]

def attrsB : List (List UInt8) → List S51 → Bool
  | _, [] => true
  | seen, a :: t => if bl a.f0 ∈ seen then false else if bl a.f0 = xmlLang ∨ nameB a.f0 = true then (if textB a.f1 = true then attrsB (bl a.f0 :: seen) t else false) else false

def attrsOk (l : List S51) : Bool := attrsB [xmlns] l && decide ((l.length : Int) ≤ 16)

theorem ret_b {a b : Bool} (h : a = b) : Ending.returned (.bool a) = .returned (.bool b) := by rw [h]

set_option maxHeartbeats 4000000 in
set_option maxRecDepth 1000000 in
theorem isAttrs_calls (l : List S51) (A : Option Addr) (c : Nat) (W : World) (hC : Kd.C k51 W A l.length l) (hc : l.length ≤ c) (hl : l.length ≤ 1099511627776) (hs : ∀ a ∈ l, a.f0.size ≤ 1099511627776) :
    Calls Try.prog 27 #[.slice A l.length c] W fun e w' => e = .returned (.bool (attrsOk l)) ∧ Below W.heap.size W w' := by
  have HC := Lib.hid hC
  have HS := Lib.hid hs
  obtain ⟨n, hn⟩ : ∃ n, W.heap.size = n := ⟨_, rfl⟩
  have hmade := SetS.made W
  rw [hn] at hmade
  obtain ⟨w1, hrun1, hset1, hg1⟩ := SetS.put hmade ⟨#[120, 109, 108, 110, 115]⟩ (by decide) (by decide)
  have HSET := Lib.hid hset1
  have HG := Lib.hid hg1
  have hmm := @run_makeMap Try.prog
  clear hC hs hmade hset1 hg1
  obtain ⟨R, hR⟩ : ∃ R, attrsOk l = R := ⟨_, rfl⟩
  rw [hR]
  have HR := Lib.hid hR
  clear hR
  go_enter Try.func27, Try.ntmps27
  go_wp2_with fail
  go_loopw [10] (fun x wr => ∃ k : Nat, k ≤ l.length ∧ x = .int .i64 k ∧ Hid (Below W.heap.size W wr) ∧ Hid (∃ seen, SetS.SetS wr n (k + 1) seen ∧ attrsB [xmlns] l = attrsB seen (l.drop k))) (fun x _ => l.length - (intOf x).toNat)
  case atStart =>
    refine ⟨0, Nat.zero_le _, rfl, ?_, ⟨_, HSET.out, rfl⟩⟩
    exact (Below.alloc (Below.refl _ W) (Nat.le_refl _) _).grown HG.out (by simp) (by simp; omega)
  case round =>
    obtain ⟨k, hk, rfl, hb, hse⟩ := hrel
    obtain ⟨seen, hset, heq⟩ := hse
    have HSe := Lib.hid hset
    have HEq := Lib.hid heq
    clear hset heq HSET HG hrun1
    by_cases hlt : k < l.length
    · have hCr := Kd.C_below HC.out hb.out
      obtain ⟨ad, hA, ca0, ca1⟩ := at_T51 hCr (k : Int) (by omega) (by omega)
      subst hA
      simp only [Int.toNat_natCast] at ca0 ca1
      have hrd : rd_T51 l (k : Int) = l[k] := by simp [rd_T51, hlt]
      rw [hrd] at ca0 ca1
      have hdrop : l.drop k = l[k] :: l.drop (k + 1) := List.drop_eq_getElem_cons hlt
      have hs0 : l[k].f0.size ≤ 1099511627776 := HS.out _ (List.getElem_mem hlt)
      have hlook := SetS.look (SetS.alloc HSe.out (.cells #[.string l[k].f0, .string l[k].f1] 51)) l[k].f0 (by unfold maxLen; omega)
      have hnl := SetS.lt HSe.out
      clear hrd hCr
      by_cases hmem : l[k].f0.data.toList ∈ seen
      · rw [decide_eq_true hmem] at hlook
        have hfalse : attrsB [xmlns] l = false := by
          rw [HEq.out, hdrop, attrsB, if_pos (show bl l[k].f0 ∈ seen from hmem)]
        have HF := Lib.hid hfalse
        clear hdrop hmem hfalse
        go_wp2_with fail
        go_ret
        exact ⟨ret_b (by rw [← HR.out, attrsOk, HF.out]; rfl), hb.out.alloc (by have := hb.out.size; omega) _⟩
      · rw [decide_eq_false hmem] at hlook
        have hat : attrsB [xmlns] l = if bl l[k].f0 = xmlLang ∨ nameB l[k].f0 = true then (if textB l[k].f1 = true then attrsB (bl l[k].f0 :: seen) (l.drop (k + 1)) else false) else false := by
          rw [HEq.out, hdrop, attrsB, if_neg (show ¬ bl l[k].f0 ∈ seen from hmem)]
        clear hdrop hmem
        have htc := textB_calls l[k].f1
        have hnc := nameB_calls l[k].f0 hs0
        by_cases hxl : bl l[k].f0 = xmlLang
        · have hxb : (l[k].f0.toList == [120, 109, 108, 58, 108, 97, 110, 103]) = true := by rw [ByteArray.toList_eq]; exact beq_iff_eq.2 hxl
          rw [if_pos (.inl hxl)] at hat
          cases htx : textB l[k].f1 with
          | false =>
            rw [htx] at htc hat
            have HF := Lib.hid hat
            have HTC := Lib.hid htc
            clear hxl htx hat htc hnc
            have HB0 : Hid (Below W.heap.size W (wr.alloc (.cells #[.string l[k].f0, .string l[k].f1] 51))) := (hb.out.alloc (by have := hb.out.size; omega) _)
            go_wp2_with fail
            refine Calls.mono (HTC.out _) ?_
            rintro e wt ⟨rfl, hbt⟩
            have HB1 := Lib.hid ((HB0.out).trans (hbt.mono ((HB0.out)).size))
            clear hbt
            go_wp2_with fail
            go_ret
            exact ⟨ret_b (by rw [← HR.out, attrsOk, HF.out]; rfl), HB1.out⟩
          | true =>
            rw [htx, if_pos rfl] at hat
            rw [htx] at htc
            have HF := Lib.hid hat
            have HTC := Lib.hid htc
            clear hxl htx hat htc hnc
            have HB0 : Hid (Below W.heap.size W (wr.alloc (.cells #[.string l[k].f0, .string l[k].f1] 51))) := (hb.out.alloc (by have := hb.out.size; omega) _)
            go_wp2_with fail
            refine Calls.mono (HTC.out _) ?_
            rintro e wt ⟨rfl, hbt⟩
            obtain ⟨w2, hrun2, hset2, hg2⟩ := SetS.put (SetS.below (SetS.alloc HSe.out (.cells #[.string l[k].f0, .string l[k].f1] 51)) hbt) l[k].f0 (by unfold maxLen; omega) (by unfold maxLen; omega)
            have HS2 := Lib.hid hset2
            have HB2 := Lib.hid (((HB0.out).trans (hbt.mono ((HB0.out)).size)).grown hg2 (((HB0.out).trans (hbt.mono ((HB0.out)).size)).size) (by intro g hg; injection hg; omega))
            have ca2 : wt.cell? ⟨wr.heap.size, 0, none⟩ = some (.string l[k].f0) := by rw [hbt.cell (p := ⟨wr.heap.size, 0, none⟩) (by simp)]; simp [World.cell?_alloc_new]
            clear hset2 hg2 hbt
            go_wp2_with fail
            refine ⟨⟨k + 1, by omega, by go_num, HB2.out, ⟨_, HS2.out, HF.out⟩⟩, by simp [intOf]; omega⟩
        · have hxb : (l[k].f0.toList == [120, 109, 108, 58, 108, 97, 110, 103]) = false := by rw [ByteArray.toList_eq]; exact beq_eq_false_iff_ne.2 hxl
          cases hnx : nameB l[k].f0 with
          | false =>
            rw [hnx] at hnc hat
            rw [if_neg (by rintro (h | h); exact hxl h; cases h)] at hat
            have HF := Lib.hid hat
            have HNC := Lib.hid hnc
            clear hxl hnx hat htc hnc
            go_wp2_with fail
            refine Calls.mono (HNC.out _) ?_
            rintro e wq ⟨rfl, hbq⟩
            have HB1 := Lib.hid ((hb.out.alloc (by have := hb.out.size; omega) _).trans (hbq.mono (by have := hb.out.size; simp; omega)))
            clear hbq
            go_wp2_with fail
            go_ret
            exact ⟨ret_b (by rw [← HR.out, attrsOk, HF.out]; rfl), HB1.out⟩
          | true =>
            rw [hnx] at hnc
            rw [if_pos (.inr hnx)] at hat
            have HNC := Lib.hid hnc
            clear hnx hnc
            cases htx : textB l[k].f1 with
            | false =>
              rw [htx] at htc hat
              have HF := Lib.hid hat
              have HTC := Lib.hid htc
              clear hxl htx hat htc
              go_wp2_with fail
              refine Calls.mono (HNC.out _) ?_
              rintro e wq ⟨rfl, hbq⟩
              have HB1 := Lib.hid ((hb.out.alloc (by have := hb.out.size; omega) _).trans (hbq.mono (by have := hb.out.size; simp; omega)))
              have HS1 := Lib.hid (SetS.below (SetS.alloc HSe.out (.cells #[.string l[k].f0, .string l[k].f1] 51)) hbq)
              have cq0 : wq.cell? ⟨wr.heap.size, 0, none⟩ = some (.string l[k].f0) := by rw [hbq.cell (p := ⟨wr.heap.size, 0, none⟩) (by simp)]; simp [World.cell?_alloc_new]
              have cq1 : wq.cell? ⟨wr.heap.size, 1, none⟩ = some (.string l[k].f1) := by rw [hbq.cell (p := ⟨wr.heap.size, 1, none⟩) (by simp)]; simp [World.cell?_alloc_new]
              have hwq : wr.heap.size < wq.heap.size := by have := hbq.size; simp at this; omega
              clear hbq
              go_wp2_with fail
              refine Calls.mono (HTC.out _) ?_
              rintro e wt ⟨rfl, hbt⟩
              have HB1 := Lib.hid (HB1.out.trans (hbt.mono (HB1.out).size))
              clear hbt
              go_wp2_with fail
              go_ret
              exact ⟨ret_b (by rw [← HR.out, attrsOk, HF.out]; rfl), HB1.out⟩
            | true =>
              rw [htx, if_pos rfl] at hat
              rw [htx] at htc
              have HF := Lib.hid hat
              have HTC := Lib.hid htc
              clear hxl htx hat htc
              go_wp2_with fail
              refine Calls.mono (HNC.out _) ?_
              rintro e wq ⟨rfl, hbq⟩
              have HB1 := Lib.hid ((hb.out.alloc (by have := hb.out.size; omega) _).trans (hbq.mono (by have := hb.out.size; simp; omega)))
              have HS1 := Lib.hid (SetS.below (SetS.alloc HSe.out (.cells #[.string l[k].f0, .string l[k].f1] 51)) hbq)
              have cq0 : wq.cell? ⟨wr.heap.size, 0, none⟩ = some (.string l[k].f0) := by rw [hbq.cell (p := ⟨wr.heap.size, 0, none⟩) (by simp)]; simp [World.cell?_alloc_new]
              have cq1 : wq.cell? ⟨wr.heap.size, 1, none⟩ = some (.string l[k].f1) := by rw [hbq.cell (p := ⟨wr.heap.size, 1, none⟩) (by simp)]; simp [World.cell?_alloc_new]
              have hwq : wr.heap.size < wq.heap.size := by have := hbq.size; simp at this; omega
              clear hbq
              go_wp2_with fail
              refine Calls.mono (HTC.out _) ?_
              rintro e wt ⟨rfl, hbt⟩
              obtain ⟨w2, hrun2, hset2, hg2⟩ := SetS.put (SetS.below HS1.out hbt) l[k].f0 (by unfold maxLen; omega) (by unfold maxLen; omega)
              have HS2 := Lib.hid hset2
              have HB2 := Lib.hid ((HB1.out.trans (hbt.mono (HB1.out).size)).grown hg2 ((HB1.out.trans (hbt.mono (HB1.out).size)).size) (by intro g hg; injection hg; omega))
              have ca2 : wt.cell? ⟨wr.heap.size, 0, none⟩ = some (.string l[k].f0) := by rw [hbt.cell (p := ⟨wr.heap.size, 0, none⟩) (by omega)]; exact cq0
              clear hset2 hg2 hbt
              go_wp2_with fail
              refine ⟨⟨k + 1, by omega, by go_num, HB2.out, ⟨_, HS2.out, HF.out⟩⟩, by simp [intOf]; omega⟩
    · obtain rfl : k = l.length := by omega
      have heq : attrsB [xmlns] l = true := by rw [HEq.out, List.drop_length]; rfl
      have HE := Lib.hid heq
      clear heq
      go_wp2_with fail
      go_ret
      exact ⟨ret_b (by rw [← HR.out, attrsOk, HE.out]; simp), hb.out⟩

end Go.Proofs.Ytaidgkmacpiajaa.Tg

/- Package tag: isElem, and the function inside it. -/
import Derived.Test.YtaidgkmacpiajaaTgAttrs
import Derived.Test.YtaidgkmacpiajaaTgFuncs
set_option linter.unusedVariables false
set_option linter.unusedSimpArgs false
namespace Go.Proofs.Ytaidgkmacpiajaa.Tg
open Go.RowKit Go.Proofs.Ytaidgkmacpiajaa.Plain Go.Proofs.Ytaidgkmacpiajaa.PTag Go.Proofs.YtaidgkmacpiajaaW.PrintWords

/-! ### how much there is of an element -/
def wattrs (l : List S51) : Nat := (l.map fun a => 1 + a.f0.size + a.f1.size).sum
mutual
def wgt : S25 → Nat
  | ⟨s, n, az, t, ks⟩ => 1 + s.size + n.size + t.size + wattrs az + wgts ks
def wgts : List S25 → Nat
  | [] => 0
  | k :: ks => wgt k + wgts ks
end
theorem wgt_eq (e : S25) : wgt e = 1 + e.f0.size + e.f1.size + e.f3.size + wattrs e.f2 + wgts e.f4 := by cases e; rw [wgt]
theorem wgts_mem {ks : List S25} {k : S25} (h : k ∈ ks) : wgt k ≤ wgts ks := by
  induction ks with
  | nil => cases h
  | cons a t ih =>
    rw [wgts]
    rcases List.mem_cons.1 h with rfl | h
    · omega
    · have := ih h; omega
theorem wgts_length (ks : List S25) : ks.length ≤ wgts ks := by
  induction ks with
  | nil => simp
  | cons a t ih => rw [wgts, List.length_cons, wgt_eq]; omega
theorem wattrs_mem {l : List S51} {a : S51} (h : a ∈ l) : 1 + a.f0.size + a.f1.size ≤ wattrs l := by
  induction l with
  | nil => cases h
  | cons b t ih =>
    unfold wattrs at *
    rw [List.map_cons, List.sum_cons]
    rcases List.mem_cons.1 h with rfl | h
    · omega
    · have := ih h; omega
theorem wattrs_length (l : List S51) : l.length ≤ wattrs l := by
  induction l with
  | nil => simp
  | cons b t ih => unfold wattrs at *; rw [List.map_cons, List.sum_cons, List.length_cons]; omega

def isElemB : Nat → S25 → Bool
  | 0, _ => false
  | n + 1, e => nameB e.f1 && (!(bl e.f0 == [])) && decide ((e.f0.size : Int) ≤ 256) && textB e.f0 && textB e.f3 && attrsOk e.f2 && e.f4.all (isElemB n)

def ElemAt (n : Nat) : Prop := ∀ (e : S25) (A2 : Option Addr) (c2 : Nat) (A4 : Option Addr) (c4 : Nat) (W : World), wgt e ≤ 1099511627776 → Kd.C k51 W A2 e.f2.length e.f2 → e.f2.length ≤ c2 → Kd.C k25 W A4 e.f4.length e.f4 → e.f4.length ≤ c4 →
  Calls Try.prog 13 #[.agg #[.string e.f0, .string e.f1, .slice A2 e.f2.length c2, .string e.f3, .slice A4 e.f4.length c4], .int .i64 n] W fun en w' => en = .returned (.bool (isElemB n e)) ∧ Below W.heap.size W w'

set_option maxHeartbeats 1000000 in
theorem inner_calls (n : Nat) (hn : n ≤ 1000) (ih : ElemAt n) (e : S25) (A2 : Option Addr) (c2 : Nat) (A4 : Option Addr) (c4 : Nat) (lb : Nat) (W : World) (hw : wgt e ≤ 1099511627776) (hC2 : Kd.C k51 W A2 e.f2.length e.f2) (hc2 : e.f2.length ≤ c2) (hC4 : Kd.C k25 W A4 e.f4.length e.f4) (hc4 : e.f4.length ≤ c4) (hlb : W.cell? ⟨lb, 0, none⟩ = some (.int .i64 ((n : Int) + 1))) :
    Calls Try.prog 29 #[.agg #[.string e.f0, .string e.f1, .slice A2 e.f2.length c2, .string e.f3, .slice A4 e.f4.length c4], .pointer (some ⟨lb, 0, none⟩)] W fun en w' => en = .returned (.bool (!isElemB n e)) ∧ Below W.heap.size W w' := by
  have HC2 := Lib.hid hC2
  have HC4 := Lib.hid hC4
  have hlt := World.block_lt_of_cell? W _ hlb
  have hne : lb ≠ W.heap.size := by simp at hlt; omega
  have IH := Lib.hid ih
  have hw1 : IntKind.i64.wrap ((n : Int) + 1 - 1) = n := by rw [show (n : Int) + 1 - 1 = n by omega]; exact IntWalk.i64_in _ (by omega)
  obtain ⟨b, hb⟩ : ∃ b, isElemB n e = b := ⟨_, rfl⟩
  rw [hb]
  have HB := Lib.hid hb
  clear hC2 hC4 ih hb
  go_enter Try.func29, Try.ntmps29
  go_wp2_with fail
  refine Calls.mono (IH.out e A2 c2 A4 c4 _ hw (Kd.C_below HC2.out ((Below.refl _ _).alloc (Nat.le_refl _) _)) hc2 (Kd.C_below HC4.out ((Below.refl _ _).alloc (Nat.le_refl _) _)) hc4) ?_
  rintro en w1 ⟨rfl, hb1⟩
  rw [HB.out]
  go_wp2_with fail
  go_ret
  exact ⟨rfl, ((Below.refl _ _).alloc (Nat.le_refl _) _).trans (hb1.mono (by simp))⟩

/-- Where the element and the number lie that isElem has laid aside. -/
def Boxed (e : S25) (A2 : Option Addr) (c2 : Nat) (A4 : Option Addr) (c4 : Nat) (bx : Nat) (n : Int) (W : World) : Prop :=
  W.heap[bx]? = some (.cells #[.string e.f0, .string e.f1, .slice A2 e.f2.length c2, .string e.f3, .slice A4 e.f4.length c4] 25 (0, 0)) ∧ W.heap[bx + 1]? = some (.cells #[.int .i64 n] 3 (0, 0))

theorem Boxed.below {e : S25} {A2 : Option Addr} {c2 : Nat} {A4 : Option Addr} {c4 bx : Nat} {n : Int} {W W' : World} (h : Boxed e A2 c2 A4 c4 bx n W) (hb : Below W.heap.size W W') : Boxed e A2 c2 A4 c4 bx n W' :=
  ⟨(hb.block bx (Array.getElem?_eq_some_iff.1 h.1).1).trans h.1, (hb.block (bx + 1) (Array.getElem?_eq_some_iff.1 h.2).1).trans h.2⟩

theorem Boxed.cells {e : S25} {A2 : Option Addr} {c2 : Nat} {A4 : Option Addr} {c4 bx : Nat} {n : Int} {W : World} (h : Boxed e A2 c2 A4 c4 bx n W) :
    W.cell? ⟨bx, 0, none⟩ = some (.string e.f0) ∧ W.cell? ⟨bx, 1, none⟩ = some (.string e.f1) ∧ W.cell? ⟨bx, 2, none⟩ = some (.slice A2 e.f2.length c2) ∧ W.cell? ⟨bx, 3, none⟩ = some (.string e.f3) ∧ W.cell? ⟨bx, 4, none⟩ = some (.slice A4 e.f4.length c4) ∧ W.cell? ⟨bx + 1, 0, none⟩ = some (.int .i64 n) :=
  ⟨by rw [Lib.cell_of_heap h.1]; rfl, by rw [Lib.cell_of_heap h.1]; rfl, by rw [Lib.cell_of_heap h.1]; rfl, by rw [Lib.cell_of_heap h.1]; rfl, by rw [Lib.cell_of_heap h.1]; rfl, by rw [Lib.cell_of_heap h.2]; rfl⟩

set_option maxHeartbeats 1000000 in
theorem elem_zero : ElemAt 0 := by
  intro e A2 c2 A4 c4 W hw hC2 hc2 hC4 hc4
  clear hC2 hC4
  go_enter Try.func13, Try.ntmps13
  go_wp2_with fail
  go_ret
  exact ⟨rfl, ((Below.refl _ _).alloc (Nat.le_refl _) _).alloc (by simp) _⟩

set_option maxHeartbeats 4000000 in
set_option maxRecDepth 1000000 in
theorem elem_succ (n : Nat) (hn : n ≤ 1000) (ih : ElemAt n) : ElemAt (n + 1) := by
  intro e A2 c2 A4 c4 W hw hC2 hc2 hC4 hc4
  have hwe := wgt_eq e
  have hat := isAttrs_calls e.f2 A2 c2
  have hal := wattrs_length e.f2
  have HATT : Hid (∀ w', Below W.heap.size W w' → Calls Try.prog 27 #[.slice A2 e.f2.length c2] w' fun en w'' => en = .returned (.bool (attrsOk e.f2)) ∧ Below w'.heap.size w' w'') :=
    fun w' hb => isAttrs_calls e.f2 A2 c2 w' (Kd.C_below hC2 hb) hc2 (by omega) (fun a ha => by have := wattrs_mem ha; omega)
  have HKID : Hid (∀ w' : World, ∀ lb, w'.cell? ⟨lb, 0, none⟩ = some (.int .i64 ((n : Int) + 1)) → Below W.heap.size W w' → Calls Try.prog 28 #[.slice A4 e.f4.length c4, .func (.func 29) #[] #[.pointer (some ⟨lb, 0, none⟩)]] w' fun en w'' => en = .returned (.bool (e.f4.any fun x => !isElemB n x)) ∧ Below w'.heap.size w' w'') :=
    fun w' lb hlb hb => Contains_calls 29 lb (fun x => !isElemB n x) (enters_of Try.func29 (by kernel_rfl) rfl) A4 c4 e.f4 w' (Kd.C_below hC4 hb) (by have := wgts_length e.f4; omega)
      (fun V x B2 d2 B4 d4 hx hV g2 l2 g4 l4 => (inner_calls n hn ih x B2 d2 B4 d4 lb V (by have := wgts_mem hx; omega) g2 l2 g4 l4 ((hV.cell (p := ⟨lb, 0, none⟩) (World.block_lt_of_cell? w' _ hlb)).trans hlb)).mono fun en V' ⟨h1, h2⟩ => ⟨h1, hV.trans (h2.mono hV.size)⟩)
  obtain ⟨bx, hbx⟩ : ∃ bx, W.heap.size = bx := ⟨_, rfl⟩
  have hall : (e.f4.any fun x => !isElemB n x) = !e.f4.all (isElemB n) := by rw [List.all_eq_not_any_not, Bool.not_not]
  rw [hall] at HKID
  have HNAME := Lib.hid (fun w' => nameB_calls e.f1 (by omega) w')
  have HT0 := Lib.hid (fun w' => textB_calls e.f0 w')
  have HT3 := Lib.hid (fun w' => textB_calls e.f3 w')
  have BV : Hid (Below W.heap.size W ((W.alloc (.cells #[.string e.f0, .string e.f1, .slice A2 e.f2.length c2, .string e.f3, .slice A4 e.f4.length c4] 25)).alloc (.cells #[.int .i64 ((n : Int) + 1)] 3))) := ((Below.refl _ _).alloc (Nat.le_refl _) _).alloc (by simp) _
  have XV : Hid (Boxed e A2 c2 A4 c4 bx ((n : Int) + 1) ((W.alloc (.cells #[.string e.f0, .string e.f1, .slice A2 e.f2.length c2, .string e.f3, .slice A4 e.f4.length c4] 25)).alloc (.cells #[.int .i64 ((n : Int) + 1)] 3))) := by
    refine ⟨?_, ?_⟩
    · rw [Below.heap_alloc _ _ _ (by simp; omega), ← hbx]; exact heap_alloc_new _ _
    · have := heap_alloc_new (W.alloc (.cells #[.string e.f0, .string e.f1, .slice A2 e.f2.length c2, .string e.f3, .slice A4 e.f4.length c4] 25)) (.cells #[.int .i64 ((n : Int) + 1)] 3)
      rw [World.size_alloc, hbx] at this
      exact this
  have hcast : ((n + 1 : Nat) : Int) = (n : Int) + 1 := by omega
  rw [hcast]
  obtain ⟨R, hR⟩ : ∃ R, isElemB (n + 1) e = R := ⟨_, rfl⟩
  rw [hR]
  rw [isElemB] at hR
  clear hat hal hC2 hC4 hall hwe hcast
  have hn0 : (((n : Int) + 1) == 0) = false := beq_eq_false_iff_ne.2 (by omega)
  cases hnm : nameB e.f1 with
  | false =>
    rw [hnm] at HNAME hR
    have HF : Hid (false = R) := by show false = R; rw [← hR]; simp
    have HN := HNAME
    clear hR hnm
    go_enter Try.func13, Try.ntmps13
    go_wp2_with fail
    refine Calls.mono (HN.out _) ?_
    rintro en w1 ⟨rfl, hb1⟩
    have B1 := Lib.hid (BV.out.trans (hb1.mono BV.out.size))
    have X1 := Lib.hid (XV.out.below hb1)
    clear hb1
    obtain ⟨c0, c1, c2', c3, c4', cl⟩ := X1.out.cells
    go_wp2_with fail
    go_ret
    exact ⟨ret_b HF.out, B1.out⟩
  | true =>
    rw [hnm] at HNAME hR
    have HN := HNAME
    clear HNAME
    by_cases hs0 : bl e.f0 = []
    · have hsb : (e.f0.toList == []) = true := by rw [ByteArray.toList_eq, show e.f0.data.toList = [] from hs0]; rfl
      have hsb' : e.f0.toList = [] := by rw [ByteArray.toList_eq]; exact hs0
      have HF : Hid (false = R) := by show false = R; rw [← hR, hs0]; simp
      clear hR hnm hs0
      go_enter Try.func13, Try.ntmps13
      go_wp2_with fail
      refine Calls.mono (HN.out _) ?_
      rintro en w1 ⟨rfl, hb1⟩
      have B1 := Lib.hid (BV.out.trans (hb1.mono BV.out.size))
      have X1 := Lib.hid (XV.out.below hb1)
      clear hb1
      obtain ⟨c0, c1, c2', c3, c4', cl⟩ := X1.out.cells
      go_wp2_with fail
      go_ret
      exact ⟨ret_b HF.out, B1.out⟩
    · have hsb : (e.f0.toList == []) = false := by rw [ByteArray.toList_eq]; exact beq_eq_false_iff_ne.2 hs0
      have hsb' : (!e.f0.toList.isEmpty) = true := by rw [ByteArray.toList_eq]; simpa [bl] using hs0
      have hsb'' : e.f0.toList.isEmpty = false := by simpa using hsb'
      rw [show (bl e.f0 == []) = false from beq_eq_false_iff_ne.2 hs0] at hR
      by_cases h256 : e.f0.size ≤ 256
      · rw [decide_eq_true (show (e.f0.size : Int) ≤ 256 by omega)] at hR
        have h256' : (e.f0.size : Int) ≤ 256 := by omega
        cases ht0 : textB e.f0 with
        | false =>
          rw [ht0] at HT0 hR
          have HF : Hid (false = R) := by show false = R; rw [← hR]; simp
          clear hR hnm ht0 hs0
          go_enter Try.func13, Try.ntmps13
          go_wp2_with fail
          refine Calls.mono (HN.out _) ?_
          rintro en w1 ⟨rfl, hb1⟩
          have B1 := Lib.hid (BV.out.trans (hb1.mono BV.out.size))
          have X1 := Lib.hid (XV.out.below hb1)
          clear hb1
          obtain ⟨c0, c1, c2', c3, c4', cl⟩ := X1.out.cells
          go_wp2_with fail
          refine Calls.mono (HT0.out _) ?_
          rintro en w2 ⟨rfl, hb2⟩
          have B2 := Lib.hid (B1.out.trans (hb2.mono B1.out.size))
          have X2 := Lib.hid (X1.out.below hb2)
          clear hb2 c0 c1 c2' c3 c4' cl
          obtain ⟨c0, c1, c2', c3, c4', cl⟩ := X2.out.cells
          go_wp2_with fail
          go_ret
          exact ⟨ret_b HF.out, B2.out⟩
        | true =>
          rw [ht0] at HT0 hR
          cases ht3 : textB e.f3 with
          | false =>
            rw [ht3] at HT3 hR
            have HF : Hid (false = R) := by show false = R; rw [← hR]; simp
            clear hR hnm ht0 ht3 hs0
            go_enter Try.func13, Try.ntmps13
            go_wp2_with fail
            refine Calls.mono (HN.out _) ?_
            rintro en w1 ⟨rfl, hb1⟩
            have B1 := Lib.hid (BV.out.trans (hb1.mono BV.out.size))
            have X1 := Lib.hid (XV.out.below hb1)
            clear hb1
            obtain ⟨c0, c1, c2', c3, c4', cl⟩ := X1.out.cells
            go_wp2_with fail
            refine Calls.mono (HT0.out _) ?_
            rintro en w2 ⟨rfl, hb2⟩
            have B2 := Lib.hid (B1.out.trans (hb2.mono B1.out.size))
            have X2 := Lib.hid (X1.out.below hb2)
            clear hb2 c0 c1 c2' c3 c4' cl
            obtain ⟨c0, c1, c2', c3, c4', cl⟩ := X2.out.cells
            go_wp2_with fail
            refine Calls.mono (HT3.out _) ?_
            rintro en w3 ⟨rfl, hb3⟩
            have B3 := Lib.hid (B2.out.trans (hb3.mono B2.out.size))
            have X3 := Lib.hid (X2.out.below hb3)
            clear hb3 c0 c1 c2' c3 c4' cl
            obtain ⟨c0, c1, c2', c3, c4', cl⟩ := X3.out.cells
            go_wp2_with fail
            go_ret
            exact ⟨ret_b HF.out, B3.out⟩
          | true =>
            rw [ht3] at HT3 hR
            cases hta : attrsOk e.f2 with
            | false =>
              rw [hta] at HATT hR
              have HF : Hid (false = R) := by show false = R; rw [← hR]; simp
              clear hR hnm ht0 ht3 hta hs0
              go_enter Try.func13, Try.ntmps13
              go_wp2_with fail
              refine Calls.mono (HN.out _) ?_
              rintro en w1 ⟨rfl, hb1⟩
              have B1 := Lib.hid (BV.out.trans (hb1.mono BV.out.size))
              have X1 := Lib.hid (XV.out.below hb1)
              clear hb1
              obtain ⟨c0, c1, c2', c3, c4', cl⟩ := X1.out.cells
              go_wp2_with fail
              refine Calls.mono (HT0.out _) ?_
              rintro en w2 ⟨rfl, hb2⟩
              have B2 := Lib.hid (B1.out.trans (hb2.mono B1.out.size))
              have X2 := Lib.hid (X1.out.below hb2)
              clear hb2 c0 c1 c2' c3 c4' cl
              obtain ⟨c0, c1, c2', c3, c4', cl⟩ := X2.out.cells
              go_wp2_with fail
              refine Calls.mono (HT3.out _) ?_
              rintro en w3 ⟨rfl, hb3⟩
              have B3 := Lib.hid (B2.out.trans (hb3.mono B2.out.size))
              have X3 := Lib.hid (X2.out.below hb3)
              clear hb3 c0 c1 c2' c3 c4' cl
              obtain ⟨c0, c1, c2', c3, c4', cl⟩ := X3.out.cells
              go_wp2_with fail
              refine Calls.mono (HATT.out _ B3.out) ?_
              rintro en w4 ⟨rfl, hb4⟩
              have B4 := Lib.hid (B3.out.trans (hb4.mono B3.out.size))
              have X4 := Lib.hid (X3.out.below hb4)
              clear hb4 c0 c1 c2' c3 c4' cl
              obtain ⟨c0, c1, c2', c3, c4', cl⟩ := X4.out.cells
              go_wp2_with fail
              go_ret
              exact ⟨ret_b HF.out, B4.out⟩
            | true =>
              rw [hta] at HATT hR
              have HF : Hid (e.f4.all (isElemB n) = R) := by show e.f4.all (isElemB n) = R; rw [← hR]; simp
              clear hR hnm ht0 ht3 hta hs0
              go_enter Try.func13, Try.ntmps13
              go_wp2_with fail
              refine Calls.mono (HN.out _) ?_
              rintro en w1 ⟨rfl, hb1⟩
              have B1 := Lib.hid (BV.out.trans (hb1.mono BV.out.size))
              have X1 := Lib.hid (XV.out.below hb1)
              clear hb1
              obtain ⟨c0, c1, c2', c3, c4', cl⟩ := X1.out.cells
              go_wp2_with fail
              refine Calls.mono (HT0.out _) ?_
              rintro en w2 ⟨rfl, hb2⟩
              have B2 := Lib.hid (B1.out.trans (hb2.mono B1.out.size))
              have X2 := Lib.hid (X1.out.below hb2)
              clear hb2 c0 c1 c2' c3 c4' cl
              obtain ⟨c0, c1, c2', c3, c4', cl⟩ := X2.out.cells
              go_wp2_with fail
              refine Calls.mono (HT3.out _) ?_
              rintro en w3 ⟨rfl, hb3⟩
              have B3 := Lib.hid (B2.out.trans (hb3.mono B2.out.size))
              have X3 := Lib.hid (X2.out.below hb3)
              clear hb3 c0 c1 c2' c3 c4' cl
              obtain ⟨c0, c1, c2', c3, c4', cl⟩ := X3.out.cells
              go_wp2_with fail
              refine Calls.mono (HATT.out _ B3.out) ?_
              rintro en w4 ⟨rfl, hb4⟩
              have B4 := Lib.hid (B3.out.trans (hb4.mono B3.out.size))
              have X4 := Lib.hid (X3.out.below hb4)
              clear hb4 c0 c1 c2' c3 c4' cl
              obtain ⟨c0, c1, c2', c3, c4', cl⟩ := X4.out.cells
              obtain ⟨q, hq⟩ : ∃ q, e.f4.all (isElemB n) = q := ⟨_, rfl⟩
              rw [hq] at HKID HF
              clear hq
              go_wp2_with fail
              refine Calls.mono (HKID.out _ _ cl B4.out) ?_
              rintro en w5 ⟨rfl, hb5⟩
              have B5 := Lib.hid (B4.out.trans (hb5.mono B4.out.size))
              clear hb5 c0 c1 c2' c3 c4' cl
              go_wp2_with fail
              go_ret
              exact ⟨ret_b (by rw [← HF.out]), B5.out⟩
      · rw [decide_eq_false (show ¬ (e.f0.size : Int) ≤ 256 by omega)] at hR
        have h256' : ¬ (e.f0.size : Int) ≤ 256 := by omega
        have HF : Hid (false = R) := by show false = R; rw [← hR]; simp
        clear hR hnm hs0
        go_enter Try.func13, Try.ntmps13
        go_wp2_with fail
        refine Calls.mono (HN.out _) ?_
        rintro en w1 ⟨rfl, hb1⟩
        have B1 := Lib.hid (BV.out.trans (hb1.mono BV.out.size))
        have X1 := Lib.hid (XV.out.below hb1)
        clear hb1
        obtain ⟨c0, c1, c2', c3, c4', cl⟩ := X1.out.cells
        go_wp2_with fail
        go_ret
        exact ⟨ret_b HF.out, B1.out⟩

theorem elem_calls : ∀ n, n ≤ 1000 → ElemAt n
  | 0, _ => elem_zero
  | n + 1, h => elem_succ n (by omega) (elem_calls n (by omega))

end Go.Proofs.Ytaidgkmacpiajaa.Tg

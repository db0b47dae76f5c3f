/- Package tag: Same. -/
import Derived.Test.YtaidgkmacpiajaaTgTree
import Derived.Test.YtaidgkmacpiajaaWEqStruct
import Derived.Shelf.Abstract
import Derived.Lib.Hide
import Derived.Lib.OthersKept
import Derived.Deep.QuietTactic
import Derived.BigQuiet
import Derived.Outline
set_option linter.unusedVariables false
set_option linter.unusedSimpArgs false
namespace Go.Proofs.Ytaidgkmacpiajaa.Tg
open Go.RowKit Go.Proofs.Ytaidgkmacpiajaa.PTag Go.Proofs.YtaidgkmacpiajaaW.PrintWords

theorem eqAttr (d : Nat) (w : World) (x0 y0 : ByteArray) (x1 y1 : ByteArray) :
    (Op.equalIn (d + 2) 51 (.agg #[.string x0, .string x1]) (.agg #[.string y0, .string y1])).run Try.prog w = .ok (x0.toList == y0.toList && (x1.toList == y1.toList)) w := by
  refine eqA_of Try.underlying51 (by kernel_rfl) ?_
  refine eqf_cons (by rfl) (by go_simp; rfl) (by go_simp; rfl) (by go_simp) ?_
  exact eqf_last (by rfl) (by go_simp; rfl) (by go_simp; rfl) (by go_simp)

theorem neqAttr (w : World) (x0 y0 : ByteArray) (x1 y1 : ByteArray) :
    (binOp .neq 51 (.agg #[.string x0, .string x1]) (.agg #[.string y0, .string y1])).run Try.prog w = .ok (.bool (!(x0.toList == y0.toList && (x1.toList == y1.toList)))) w := by
  simp only [binOp]
  simp [Op.equal, Op.maxDepth, eqAttr 9998]

def sameA (a b : S51) : Bool := a.f0.toList == b.f0.toList && (a.f1.toList == b.f1.toList)
def eqAs : List S51 → List S51 → Bool
  | [], [] => true
  | a :: t, b :: u => sameA a b && eqAs t u
  | _, _ => false

mutual
def sameB : S25 → S25 → Bool
  | ⟨s, n, az, t, ks⟩, f => s.toList == f.f0.toList && (n.toList == f.f1.toList) && (t.toList == f.f3.toList) && eqAs az f.f2 && sameBs ks f.f4
def sameBs : List S25 → List S25 → Bool
  | [], [] => true
  | a :: t, b :: u => sameB a b && sameBs t u
  | _, _ => false
end

theorem sameB_eq (e f : S25) : sameB e f = (e.f0.toList == f.f0.toList && (e.f1.toList == f.f1.toList) && (e.f3.toList == f.f3.toList) && eqAs e.f2 f.f2 && sameBs e.f4 f.f4) := by
  cases e; rw [sameB]

theorem eqAs_length : ∀ {l m : List S51}, l.length ≠ m.length → eqAs l m = false
  | [], [], h => absurd rfl h
  | [], b :: u, _ => rfl
  | a :: t, [], _ => rfl
  | a :: t, b :: u, h => by rw [eqAs, eqAs_length (by simpa using h)]; simp
theorem sameBs_length : ∀ {l m : List S25}, l.length ≠ m.length → sameBs l m = false
  | [], [], h => absurd rfl h
  | [], b :: u, _ => by rw [sameBs]; all_goals simp
  | a :: t, [], _ => by rw [sameBs]; all_goals simp
  | a :: t, b :: u, h => by rw [sameBs, sameBs_length (by simpa using h)]; simp

theorem ret_bo {a b : Bool} (h : a = b) : Ending.returned (.bool a) = .returned (.bool b) := by rw [h]

set_option maxHeartbeats 4000000 in
set_option maxRecDepth 1000000 in
theorem equalA_calls (l m : List S51) (A B : Option Addr) (c d : Nat) (W : World) (hA : Kd.C k51 W A l.length l) (hB : Kd.C k51 W B m.length m) :
    Calls Try.prog 21 #[.slice A l.length c, .slice B m.length d] W fun e w' => e = .returned (.bool (eqAs l m)) ∧ Below W.heap.size W w' := by
  have HA := Lib.hid hA
  have HB := Lib.hid hB
  have hl : l.length ≤ 9223372036854775807 := hA.2.1
  have hm : m.length ≤ 9223372036854775807 := hB.2.1
  have HQ := Lib.hid neqAttr
  clear hA hB
  obtain ⟨R, hR⟩ : ∃ R, eqAs l m = R := ⟨_, rfl⟩
  rw [hR]
  by_cases hn : l.length = m.length
  · have HN := Lib.hid hn
    have HR := Lib.hid hR
    have hnb : ((l.length : Int) != (m.length : Int)) = false := by rw [bne, beq_iff_eq.2 (show (l.length : Int) = (m.length : Int) by omega)]; rfl
    have hle : l.length ≤ m.length ∧ m.length ≤ l.length := by omega
    clear hn hR
    go_enter Try.func21, Try.ntmps21
    go_wp2_with fail
    go_loopw [13] (fun x wr => ∃ k : Nat, k ≤ l.length ∧ x = .int .i64 k ∧ Hid (Below W.heap.size W wr) ∧ Hid (eqAs l m = eqAs (l.drop k) (m.drop k))) (fun x _ => l.length - (intOf x).toNat)
    case atStart => exact ⟨0, Nat.zero_le _, rfl, Below.refl _ _, rfl⟩
    case round =>
      obtain ⟨k, hk, rfl, hb, he⟩ := hrel
      by_cases hlt : k < l.length
      · obtain ⟨ad, e1, ca0, ca1⟩ := at_T51 (Kd.C_below HA.out hb.out) (k : Int) (by omega) (by omega)
        obtain ⟨bd, e2, cb0, cb1⟩ := at_T51 (Kd.C_below HB.out hb.out) (k : Int) (by omega) (by omega)
        have hlm : k < m.length := by omega
        subst e1
        subst e2
        have r1 : rd_T51 l (k : Int) = l[k] := by simp [rd_T51, hlt]
        have r2 : rd_T51 m (k : Int) = m[k] := by simp [rd_T51, hlm]
        rw [r1] at ca0 ca1
        rw [r2] at cb0 cb1
        simp only [Int.toNat_natCast] at ca0 ca1 cb0 cb1
        have hd : eqAs l m = (sameA l[k] m[k] && eqAs (l.drop (k + 1)) (m.drop (k + 1))) := by
          rw [he.out, List.drop_eq_getElem_cons hlt, List.drop_eq_getElem_cons hlm, eqAs]
        have hi1 : (0 : Int) ≤ (k : Int) := by omega
        have hi2 : (k : Int) < (l.length : Int) := by omega
        have hi3 : (k : Int) < (m.length : Int) := by omega
        have hq := fun w => neqAttr w l[k].f0 m[k].f0 l[k].f1 m[k].f1
        clear r1 r2 he
        cases hs : sameA l[k] m[k] with
        | true =>
          rw [hs, Bool.true_and] at hd
          unfold sameA at hs
          rw [hs] at hq
          have HD := Lib.hid hd
          clear hs hd
          go_wp2_with fail
          go_quiet (fail)
          go_wp2_with fail
          exact ⟨⟨k + 1, by omega, by go_num, pw_below_drewN hb.out _, HD.out⟩, by simp [intOf]; omega⟩
        | false =>
          rw [hs, Bool.false_and] at hd
          unfold sameA at hs
          rw [hs] at hq
          have HD := Lib.hid hd
          clear hs hd
          go_wp2_with fail
          go_quiet (fail)
          go_wp2_with fail
          go_ret
          exact ⟨ret_bo (by rw [← HR.out, HD.out]), pw_below_drewN hb.out _⟩
      · obtain rfl : k = l.length := by omega
        have hd : eqAs l m = true := by rw [he.out, List.drop_length, HN.out, List.drop_length]; rfl
        have HD := Lib.hid hd
        clear hd he
        go_wp2_with fail
        go_ret
        exact ⟨ret_bo (by rw [← HR.out, HD.out]), hb.out⟩
  · rw [eqAs_length hn] at hR
    have hnb : ((l.length : Int) != (m.length : Int)) = true := by rw [bne, beq_eq_false_iff_ne.2 (show ¬ (l.length : Int) = (m.length : Int) by omega)]; rfl
    have HR := Lib.hid hR
    clear hn hR
    go_enter Try.func21, Try.ntmps21
    go_wp2_with fail
    go_ret
    exact ⟨ret_bo HR.out, Below.refl _ _⟩

def SameAt (n : Nat) : Prop := ∀ (e f : S25) (A2 : Option Addr) (c2 : Nat) (A4 : Option Addr) (c4 : Nat) (B2 : Option Addr) (d2 : Nat) (B4 : Option Addr) (d4 : Nat) (W : World), SizeOf.sizeOf e ≤ n → Kd.C k51 W A2 e.f2.length e.f2 → e.f2.length ≤ c2 → Kd.C k25 W A4 e.f4.length e.f4 → e.f4.length ≤ c4 →
  Kd.C k51 W B2 f.f2.length f.f2 → f.f2.length ≤ d2 → Kd.C k25 W B4 f.f4.length f.f4 → f.f4.length ≤ d4 →
  Calls Try.prog 10 #[.agg #[.string e.f0, .string e.f1, .slice A2 e.f2.length c2, .string e.f3, .slice A4 e.f4.length c4], .agg #[.string f.f0, .string f.f1, .slice B2 f.f2.length d2, .string f.f3, .slice B4 f.f4.length d4]] W fun en w' => en = .returned (.bool (sameB e f)) ∧ Below W.heap.size W w'

set_option maxHeartbeats 4000000 in
set_option maxRecDepth 1000000 in
theorem equalE_calls (n : Nat) (ih : SameAt n) (l m : List S25) (A B : Option Addr) (c d : Nat) (W : World) (hsz : ∀ x ∈ l, SizeOf.sizeOf x ≤ n) (hA : Kd.C k25 W A l.length l) (hB : Kd.C k25 W B m.length m) :
    Calls Try.prog 22 #[.slice A l.length c, .slice B m.length d, .func (.func 10) #[] #[]] W fun e w' => e = .returned (.bool (sameBs l m)) ∧ Below W.heap.size W w' := by
  have HA := Lib.hid hA
  have HB := Lib.hid hB
  have HZ := Lib.hid hsz
  have IH := Lib.hid ih
  have hl : l.length ≤ 9223372036854775807 := hA.2.1
  have hm : m.length ≤ 9223372036854775807 := hB.2.1
  clear hA hB ih hsz
  obtain ⟨R, hR⟩ : ∃ R, sameBs l m = R := ⟨_, rfl⟩
  rw [hR]
  by_cases hn : l.length = m.length
  · have HN := Lib.hid hn
    have HR := Lib.hid hR
    have hnb : ((l.length : Int) != (m.length : Int)) = false := by rw [bne, beq_iff_eq.2 (show (l.length : Int) = (m.length : Int) by omega)]; rfl
    have hle : l.length ≤ m.length ∧ m.length ≤ l.length := by omega
    clear hn hR
    go_enter Try.func22, Try.ntmps22
    go_wp2_with fail
    go_loopw [17] (fun x wr => ∃ k : Nat, k ≤ l.length ∧ x = .int .i64 k ∧ Hid (Below W.heap.size W wr) ∧ Hid (sameBs l m = sameBs (l.drop k) (m.drop k))) (fun x _ => l.length - (intOf x).toNat)
    case atStart => exact ⟨0, Nat.zero_le _, rfl, Below.refl _ _, rfl⟩
    case round =>
      obtain ⟨k, hk, rfl, hb, he⟩ := hrel
      by_cases hlt : k < l.length
      · obtain ⟨ad, E2, x2, E4, x4, e1, a0, a1, a2, a3, a4, la2, ga2, la4, ga4⟩ := at_T25 (Kd.C_below HA.out hb.out) (k : Int) (by omega) (by omega)
        obtain ⟨bd, F2, y2, F4, y4, e2, b0, b1, b2, b3, b4, lb2, gb2, lb4, gb4⟩ := at_T25 (Kd.C_below HB.out hb.out) (k : Int) (by omega) (by omega)
        have hlm : k < m.length := by omega
        subst e1
        subst e2
        have r1 : rd_T25 l (k : Int) = l[k] := by simp [rd_T25, hlt]
        have r2 : rd_T25 m (k : Int) = m[k] := by simp [rd_T25, hlm]
        rw [r1] at a0 a1 a2 a3 a4 la2 ga2 la4 ga4
        rw [r2] at b0 b1 b2 b3 b4 lb2 gb2 lb4 gb4
        simp only [Int.toNat_natCast] at a0 a1 a2 a3 a4 b0 b1 b2 b3 b4
        have hd : sameBs l m = (sameB l[k] m[k] && sameBs (l.drop (k + 1)) (m.drop (k + 1))) := by
          rw [he.out, List.drop_eq_getElem_cons hlt, List.drop_eq_getElem_cons hlm, sameBs]
        have nb : ∀ {p : Addr} {v : Value}, wr.cell? p = some v → p.block < wr.heap.size := fun h => World.block_lt_of_cell? wr _ h
        have n0 := nb b0
        have n1 : (bd.add (k * 5)).block ≠ wr.heap.size := by omega
        have GA2 := Lib.hid ga2
        have GA4 := Lib.hid ga4
        have GB2 := Lib.hid gb2
        have GB4 := Lib.hid gb4
        clear r1 r2 he ga2 ga4 gb2 gb4 nb
        have hbV : Below W.heap.size W ((wr.alloc (.cells #[.string l[k].f0, .string l[k].f1, .slice E2 l[k].f2.length x2, .string l[k].f3, .slice E4 l[k].f4.length x4] 25)).alloc (.cells #[.string m[k].f0, .string m[k].f1, .slice F2 m[k].f2.length y2, .string m[k].f3, .slice F4 m[k].f4.length y4] 25)) := (hb.out.alloc hb.out.size _).alloc (by have := hb.out.size; simp; omega) _
        have hup : Below wr.heap.size wr ((wr.alloc (.cells #[.string l[k].f0, .string l[k].f1, .slice E2 l[k].f2.length x2, .string l[k].f3, .slice E4 l[k].f4.length x4] 25)).alloc (.cells #[.string m[k].f0, .string m[k].f1, .slice F2 m[k].f2.length y2, .string m[k].f3, .slice F4 m[k].f4.length y4] 25)) := ((Below.refl _ wr).alloc (Nat.le_refl _) _).alloc (by simp) _
        have hcall := IH.out l[k] m[k] E2 x2 E4 x4 F2 y2 F4 y4 _ (HZ.out _ (List.getElem_mem hlt)) (Kd.C_below GA2.out hup) la2 (Kd.C_below GA4.out hup) la4 (Kd.C_below GB2.out hup) lb2 (Kd.C_below GB4.out hup) lb4
        have HBV := Lib.hid hbV
        clear hup hbV
        cases hs : sameB l[k] m[k] with
        | true =>
          rw [hs, Bool.true_and] at hd
          rw [hs] at hcall
          have HD := Lib.hid hd
          have HC := Lib.hid hcall
          clear hs hd hcall
          go_wp2_with fail
          refine Calls.mono HC.out ?_
          rintro en w3 ⟨rfl, hb3⟩
          have B3 := Lib.hid (HBV.out.trans (hb3.mono HBV.out.size))
          clear hb3
          go_wp2_with fail
          exact ⟨⟨k + 1, by omega, by go_num, B3.out, HD.out⟩, by simp [intOf]; omega⟩
        | false =>
          rw [hs, Bool.false_and] at hd
          rw [hs] at hcall
          have HD := Lib.hid hd
          have HC := Lib.hid hcall
          clear hs hd hcall
          go_wp2_with fail
          refine Calls.mono HC.out ?_
          rintro en w3 ⟨rfl, hb3⟩
          have B3 := Lib.hid (HBV.out.trans (hb3.mono HBV.out.size))
          clear hb3
          go_wp2_with fail
          go_ret
          exact ⟨ret_bo (by rw [← HR.out, HD.out]), B3.out⟩
      · obtain rfl : k = l.length := by omega
        have hd : sameBs l m = true := by rw [he.out, List.drop_length, HN.out, List.drop_length, sameBs]
        have HD := Lib.hid hd
        clear hd he
        go_wp2_with fail
        go_ret
        exact ⟨ret_bo (by rw [← HR.out, HD.out]), hb.out⟩
  · rw [sameBs_length hn] at hR
    have hnb : ((l.length : Int) != (m.length : Int)) = true := by rw [bne, beq_eq_false_iff_ne.2 (show ¬ (l.length : Int) = (m.length : Int) by omega)]; rfl
    have HR := Lib.hid hR
    clear hn hR
    go_enter Try.func22, Try.ntmps22
    go_wp2_with fail
    go_ret
    exact ⟨ret_bo HR.out, Below.refl _ _⟩

theorem kids_size (e : S25) (n : Nat) (h : SizeOf.sizeOf e ≤ n + 1) : ∀ x ∈ e.f4, SizeOf.sizeOf x ≤ n := by
  intro x hx
  have h1 := List.sizeOf_lt_of_mem hx
  have h2 : SizeOf.sizeOf e.f4 < SizeOf.sizeOf e := by cases e; simp; omega
  omega

set_option maxHeartbeats 4000000 in
set_option maxRecDepth 1000000 in
theorem same_step (n : Nat) (ih : SameAt n) : SameAt (n + 1) := by
  intro e f A2 c2 A4 c4 B2 d2 B4 d4 W hsz hA2 ha2 hA4 ha4 hB2 hb2 hB4 hb4
  have HV : Hid (Below W.heap.size W ((W.alloc (.cells #[.string e.f0, .string e.f1, .slice A2 e.f2.length c2, .string e.f3, .slice A4 e.f4.length c4] 25)).alloc (.cells #[.string f.f0, .string f.f1, .slice B2 f.f2.length d2, .string f.f3, .slice B4 f.f4.length d4] 25))) := ((Below.refl _ _).alloc (Nat.le_refl _) _).alloc (by simp) _
  have HEA : Hid (∀ w', Below W.heap.size W w' → Calls Try.prog 21 #[.slice A2 e.f2.length c2, .slice B2 f.f2.length d2] w' fun en w'' => en = .returned (.bool (eqAs e.f2 f.f2)) ∧ Below w'.heap.size w' w'') :=
    fun w' hb => equalA_calls e.f2 f.f2 A2 B2 c2 d2 w' (Kd.C_below hA2 hb) (Kd.C_below hB2 hb)
  have HEE : Hid (∀ w', Below W.heap.size W w' → Calls Try.prog 22 #[.slice A4 e.f4.length c4, .slice B4 f.f4.length d4, .func (.func 10) #[] #[]] w' fun en w'' => en = .returned (.bool (sameBs e.f4 f.f4)) ∧ Below w'.heap.size w' w'') :=
    fun w' hb => equalE_calls n ih e.f4 f.f4 A4 B4 c4 d4 w' (kids_size e n hsz) (Kd.C_below hA4 hb) (Kd.C_below hB4 hb)
  obtain ⟨bx, hbx⟩ : ∃ bx, W.heap.size = bx := ⟨_, rfl⟩
  have hh1 : ((W.alloc (.cells #[.string e.f0, .string e.f1, .slice A2 e.f2.length c2, .string e.f3, .slice A4 e.f4.length c4] 25)).alloc (.cells #[.string f.f0, .string f.f1, .slice B2 f.f2.length d2, .string f.f3, .slice B4 f.f4.length d4] 25)).heap[bx]? = some (.cells #[.string e.f0, .string e.f1, .slice A2 e.f2.length c2, .string e.f3, .slice A4 e.f4.length c4] 25 (0, 0)) := by
    rw [Below.heap_alloc _ _ _ (by simp; omega), ← hbx]; exact heap_alloc_new _ _
  have hh2 : ((W.alloc (.cells #[.string e.f0, .string e.f1, .slice A2 e.f2.length c2, .string e.f3, .slice A4 e.f4.length c4] 25)).alloc (.cells #[.string f.f0, .string f.f1, .slice B2 f.f2.length d2, .string f.f3, .slice B4 f.f4.length d4] 25)).heap[bx + 1]? = some (.cells #[.string f.f0, .string f.f1, .slice B2 f.f2.length d2, .string f.f3, .slice B4 f.f4.length d4] 25 (0, 0)) := by
    have := heap_alloc_new (W.alloc (.cells #[.string e.f0, .string e.f1, .slice A2 e.f2.length c2, .string e.f3, .slice A4 e.f4.length c4] 25)) (.cells #[.string f.f0, .string f.f1, .slice B2 f.f2.length d2, .string f.f3, .slice B4 f.f4.length d4] 25)
    rw [World.size_alloc, hbx] at this
    exact this
  have HH1 := Lib.hid hh1
  have HH2 := Lib.hid hh2
  clear hA2 hA4 hB2 hB4 hh1 hh2 ih
  obtain ⟨R, hR⟩ : ∃ R, sameB e f = R := ⟨_, rfl⟩
  rw [hR]
  rw [sameB_eq] at hR
  cases q0 : (e.f0.toList == f.f0.toList) with
  | false =>
    have HF : Hid (false = R) := by show false = R; rw [← hR, q0]; simp
    clear hR
    go_enter Try.func10, Try.ntmps10
    go_wp2_with fail
    go_ret
    exact ⟨ret_bo HF.out, HV.out⟩
  | true =>
    cases q1 : (e.f1.toList == f.f1.toList) with
    | false =>
      have HF : Hid (false = R) := by show false = R; rw [← hR, q1]; simp
      clear hR
      go_enter Try.func10, Try.ntmps10
      go_wp2_with fail
      go_ret
      exact ⟨ret_bo HF.out, HV.out⟩
    | true =>
      cases q3 : (e.f3.toList == f.f3.toList) with
      | false =>
        have HF : Hid (false = R) := by show false = R; rw [← hR, q3]; simp
        clear hR
        go_enter Try.func10, Try.ntmps10
        go_wp2_with fail
        go_ret
        exact ⟨ret_bo HF.out, HV.out⟩
      | true =>
        rw [q0, q1, q3] at hR
        cases qa : eqAs e.f2 f.f2 with
        | false =>
          rw [qa] at HEA hR
          have HF : Hid (false = R) := by show false = R; rw [← hR]; simp
          clear hR qa
          go_enter Try.func10, Try.ntmps10
          go_wp2_with fail
          refine Calls.mono (HEA.out _ HV.out) ?_
          rintro en w1 ⟨rfl, hb1⟩
          have B1 := Lib.hid (HV.out.trans (hb1.mono HV.out.size))
          clear hb1
          go_wp2_with fail
          go_ret
          exact ⟨ret_bo HF.out, B1.out⟩
        | true =>
          rw [qa] at HEA hR
          have HF : Hid (sameBs e.f4 f.f4 = R) := by show _ = R; rw [← hR]; simp
          clear hR qa
          go_enter Try.func10, Try.ntmps10
          go_wp2_with fail
          refine Calls.mono (HEA.out _ HV.out) ?_
          rintro en w1 ⟨rfl, hb1⟩
          have B1 := Lib.hid (HV.out.trans (hb1.mono HV.out.size))
          have x1 : w1.heap[bx]? = _ := (hb1.block bx (by simp; omega)).trans HH1.out
          have x2 : w1.heap[bx + 1]? = _ := (hb1.block (bx + 1) (by simp; omega)).trans HH2.out
          have y1 : w1.cell? ⟨bx, 4, none⟩ = some (.slice A4 e.f4.length c4) := by rw [Lib.cell_of_heap x1]; rfl
          have y2 : w1.cell? ⟨bx + 1, 4, none⟩ = some (.slice B4 f.f4.length d4) := by rw [Lib.cell_of_heap x2]; rfl
          clear hb1 x1 x2
          go_wp2_with fail
          refine Calls.mono (HEE.out _ B1.out) ?_
          rintro en w2 ⟨rfl, hb2'⟩
          have B2' := Lib.hid (B1.out.trans (hb2'.mono B1.out.size))
          clear hb2'
          go_wp2_with fail
          go_ret
          exact ⟨ret_bo HF.out, B2'.out⟩

theorem same_calls : ∀ n, SameAt n
  | 0 => fun e _ _ _ _ _ _ _ _ _ _ hn => by cases e; simp at hn
  | n + 1 => same_step n (same_calls n)

end Go.Proofs.Ytaidgkmacpiajaa.Tg

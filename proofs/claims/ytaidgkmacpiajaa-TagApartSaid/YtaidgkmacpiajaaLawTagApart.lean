/- The row TagApartSaid: whatever the two elements, the statement answers true, and its input reads as it did. -/
import Derived.Test.YtaidgkmacpiajaaRows
import Derived.Test.YtaidgkmacpiajaaTgApart
import Derived.Test.YtaidgkmacpiajaaOpn
import Derived.WalkKit
import Derived.ProofKit
import Derived.OpenShut
import Derived.ShutString
import Derived.ChangeOld
import Derived.Below
import Derived.SizedLaws
namespace Go.Proofs.Ytaidgkmacpiajaa.tagApart
open Go.ChangeShapes Go.WideShapes Go.ChangeAt Go.RowKit Go.Proofs.Ytaidgkmacpiajaa.PTag Go.Proofs.Ytaidgkmacpiajaa.Tg Go.Proofs.Ytaidgkmacpiajaa.Opn Go.Proofs.YtaidgkmacpiajaaW.PrintWords
open Go.ChangeMaps (open_string shut_string)
set_option linter.unusedVariables false

theorem two {α : Type} {cs : List α} {a b : α} (h : cs.length = 2) (h0 : cs[0]? = some a) (h1 : cs[1]? = some b) : cs = [a, b] := by
  match cs, h with
  | [x, y], _ => simp at h0 h1; rw [h0, h1]
theorem five {α : Type} {cs : List α} {a b c d e : α} (h : cs.length = 5) (h0 : cs[0]? = some a) (h1 : cs[1]? = some b) (h2 : cs[2]? = some c) (h3 : cs[3]? = some d) (h4 : cs[4]? = some e) : cs = [a, b, c, d, e] := by
  match cs, h with
  | [x, y, z, u, v], _ => simp at h0 h1 h2 h3 h4; rw [h0, h1, h2, h3, h4]

theorem attr_op (fuel : Nat) : OpF Try.prog fuel 51 k51 fitA := by
  intro H enc w base spare held cs x h hw
  obtain ⟨hl, n, hn, hf⟩ := struct_open Try.underlying51 (by kernel_rfl) (by kernel_rfl) h hw
  obtain ⟨v0, y0, c0, t0, w0⟩ := hf 0 _ rfl
  obtain ⟨v1, y1, c1, t1, w1⟩ := hf 1 _ rfl
  obtain ⟨s0, k0, o0⟩ := OpF.string Try.underlying9 n H enc w base spare held _ _ t0 w0
  obtain ⟨s1, k1, o1⟩ := OpF.string Try.underlying9 n H enc w base spare held _ _ t1 w1
  obtain rfl : v0 = .string s0 := by injection k0
  obtain rfl : v1 = .string s1 := by injection k1
  refine ⟨⟨s0, s1⟩, ?_, o0, o1⟩
  rw [two hl c0 c1]
  exact k51_mk w ⟨s0, s1⟩

theorem bytesAttr : Try.prog.bytesOf 51 = 32 := by kernel_rfl
theorem bytesElem : Try.prog.bytesOf 25 = 96 := by kernel_rfl

theorem elem_op : ∀ fuel, OpF Try.prog fuel 25 k25 fitE := by
  intro fuel
  induction fuel using Nat.strongRecOn with
  | ind fuel ih =>
    intro H enc w base spare held cs x h hw
    obtain ⟨hl, n, hn, hf⟩ := struct_open Try.underlying25 (by kernel_rfl) (by kernel_rfl) h hw
    obtain ⟨v0, y0, c0, t0, w0⟩ := hf 0 _ rfl
    obtain ⟨v1, y1, c1, t1, w1⟩ := hf 1 _ rfl
    obtain ⟨v2, y2, c2, t2, w2⟩ := hf 2 _ rfl
    obtain ⟨v3, y3, c3, t3, w3⟩ := hf 3 _ rfl
    obtain ⟨v4, y4, c4, t4, w4⟩ := hf 4 _ rfl
    obtain ⟨s0, k0, o0⟩ := OpF.string Try.underlying9 n H enc w base spare held _ _ t0 w0
    obtain ⟨s1, k1, o1⟩ := OpF.string Try.underlying9 n H enc w base spare held _ _ t1 w1
    obtain ⟨s2, k2, o2⟩ := OpF.slice Try.underlying22 (d := k51) (by kernel_rfl) (fun m _ => attr_op m) H enc w base spare held _ _ t2 w2
    obtain ⟨s3, k3, o3⟩ := OpF.string Try.underlying9 n H enc w base spare held _ _ t3 w3
    obtain ⟨s4, k4, o4⟩ := OpF.slice Try.underlying23 (d := k25) (by kernel_rfl) (fun m hm => ih m (by omega)) H enc w base spare held _ _ t4 w4
    obtain rfl : v0 = .string s0 := by injection k0
    obtain rfl : v1 = .string s1 := by injection k1
    obtain rfl : v3 = .string s3 := by injection k3
    obtain ⟨A2, e2, q2, l2, g2⟩ := k2
    obtain ⟨A4, e4, q4, l4, g4⟩ := k4
    obtain rfl : v2 = .slice A2 s2.length e2 := by injection q2
    obtain rfl : v4 = .slice A4 s4.length e4 := by injection q4
    refine ⟨⟨s0, s1, s2, s3, s4⟩, ?_, ?_⟩
    · rw [five hl c0 c1 c2 c3 c4]
      exact k25_mk w ⟨s0, s1, s2, s3, s4⟩ l2 g2 l4 g4
    · rw [fitE_eq]
      rw [bytesAttr] at o2
      rw [bytesElem] at o4
      exact ⟨o0, o1, ⟨by show s2.length ≤ _; omega, o2.2⟩, o3, by show s4.length ≤ _; omega, o4.2⟩

/-- An element that came in. -/
theorem elem_arg {H : Type} {enc : TypeId × Value → H} {w : World} {base b0 : Nat} {spare : Nat → Bool} {held : Bool} {v : Value} {d : DataW H} {p : List MemPlace} {r : Reach} (hv : Value.okWide Try.prog w r b0 25 v) (h : DataW.Trod enc Try.prog w base spare held 25 v d p) (hw : ∀ n ∈ d.weights Try.prog 25, n ≤ reachBytes) :
    ∃ (e : S25) (A2 : Option Addr) (c2 : Nat) (A4 : Option Addr) (c4 : Nat), v = .agg #[.string e.f0, .string e.f1, .slice A2 e.f2.length c2, .string e.f3, .slice A4 e.f4.length c4] ∧ fitE e ∧ e.f2.length ≤ c2 ∧ Kd.C k51 w A2 e.f2.length e.f2 ∧ e.f4.length ≤ c4 ∧ Kd.C k25 w A4 e.f4.length e.f4 := by
  obtain ⟨cs, rfl, hsz⟩ := okWide_struct Try.underlying25 hv
  obtain ⟨fuel, hf⟩ := h
  obtain ⟨e, hK, hfit⟩ := elem_op fuel H enc w base spare held _ _ hf hw
  obtain ⟨A2, c2, A4, c4, hcs, l2, g2, l4, g4⟩ := k25_open hK
  refine ⟨e, A2, c2, A4, c4, ?_, hfit, l2, g2, l4, g4⟩
  have : cs.toList = [.string e.f0, .string e.f1, .slice A2 e.f2.length c2, .string e.f3, .slice A4 e.f4.length c4] := by simpa [Value.cells] using hcs
  obtain ⟨l⟩ := cs
  simp at this
  rw [this]

theorem laidOut : laidOutB Try.prog = true := by kernel_rfl
theorem own : ownKnob Try.prog.godebug = none := by kernel_rfl
set_option maxRecDepth 100000 in
theorem lifted (os : Os) (started : os.Started) (H : Type) (enc : TypeId × Value → H) :
    ReturnsInHanded {} Try.checked os 3 .any (Rows.tagApartSpec.pre6 enc Try.prog Try.f3 Rows.tagApartRow.domain false) (Rows.tagApartSpec.post enc Try.prog Try.f3 false true false false) := by
  refine returnsInHanded_of_change_sized (C := Try.checked) own started (by kernel_rfl) Try.func3
    (ChangeSpec.witness6 (enc := enc) (C := Try.checked) false ⟨#[], #[.agg #[.string ByteArray.empty, .string ByteArray.empty, .slice none 0 0, .string ByteArray.empty, .slice none 0 0], .agg #[.string ByteArray.empty, .string ByteArray.empty, .slice none 0 0, .string ByteArray.empty, .slice none 0 0]], []⟩ 8 (by kernel_rfl) (by kernel_rfl) (by kernel_rfl) (by kernel_rfl)) ?_
  intro W base args ds gs before hval0 hW hcnd hsz0 _
  have hsz : (DataW.weightsEach Try.prog (Try.f3.params.toList ++ Rows.tagApartSpec.plain.varTypes Try.prog) (ds ++ gs)).all (· ≤ reachBytes) = true := hsz0
  have hval : ∀ (j : Nat) t v, Try.f3.params[j]? = some t → args[j]? = some v → Value.okWide Try.prog W .any base t v := hval0
  have hW' := hW
  obtain ⟨p, q, hA0, hV, rfl, hfz, hnd⟩ := hW
  have hA : DataW.TrodAll enc Try.prog W 0 (fun _ => true) true Try.f3.params.toList args.toList ds p := hA0
  rw [Try.params3] at hA hval hsz
  obtain ⟨v0, vs0, d0, ds0, p0, q0, hargs, rfl, rfl, h0, r0⟩ := trodAll_cons hA
  obtain ⟨v1, vs1, d1, ds1, p1, q1, rfl, rfl, rfl, h1, r1⟩ := trodAll_cons r0
  obtain ⟨rfl, rfl, rfl⟩ := trodAll_nil r1
  obtain rfl : args = #[v0, v1] := by cases args; simp_all
  obtain ⟨rfl, rfl⟩ := trodVars_none hV
  have z0 : ∀ n ∈ d0.weights Try.prog 25, n ≤ reachBytes := fun n hn => by
    have := List.all_eq_true.1 hsz n (DataW.weights_mem_each (j := 0) rfl rfl n hn)
    simpa using this
  have z1 : ∀ n ∈ d1.weights Try.prog 25, n ≤ reachBytes := fun n hn => by
    have := List.all_eq_true.1 hsz n (DataW.weights_mem_each (j := 1) rfl rfl n hn)
    simpa using this
  obtain ⟨e, A2, c2, A4, c4, rfl, fe, el2, eg2, el4, eg4⟩ := elem_arg (hval 0 25 v0 rfl rfl) h0 z0
  obtain ⟨f, B2, x2, B4, x4, rfl, ff, fl2, fg2, fl4, fg4⟩ := elem_arg (hval 1 25 v1 rfl rfl) h1 z1
  have lt0 : ∀ x ∈ p0, x.block < W.heap.size := by obtain ⟨m, hm⟩ := h0; exact DataW.trod_lt m _ _ _ hm
  have lt1 : ∀ x ∈ p1, x.block < W.heap.size := by obtain ⟨m, hm⟩ := h1; exact DataW.trod_lt m _ _ _ hm
  clear hA0 hval0 hsz0 hsz z0 z1
  obtain ⟨k, hk⟩ := TagApart_plain e f fe ff
  refine (PTag.wharflaw05_TagApart.calls k e.f0 e.f1 A2 c2 e.f2 e.f3 A4 c4 e.f4 f.f0 f.f1 B2 x2 f.f2 f.f3 B4 x4 f.f4 true W eg2 el2 eg4 el4 fg2 fl2 fg4 fl4 hk).mono fun en W' ⟨he, bel⟩ => ?_
  subst he
  exact ⟨_, rfl, _, _, _, [], _, [], hW', trodAll_mk1 (shut_bool Try.underlying4 _), (trodAll_cons_mk (Below.trod laidOut (by kernel_rfl) (of_decide_eq_true (by kernel_rfl)) h0 bel lt0) (trodAll_cons_mk (Below.trod laidOut (by kernel_rfl) (of_decide_eq_true (by kernel_rfl)) h1 bel lt1) trodAll_mk0)), rfl, bel.frame _, fun h => by cases h⟩
theorem over : Rows.tagApartRow.holds Try.pinned (OpenSpec.ofChange Rows.tagApartSpec) :=
  OpenClaim.holds_of_wide 3 Try.f3 rfl rfl rfl rfl rfl rfl rfl ⟨rfl, rfl, rfl, rfl, rfl⟩ rfl rfl rfl rfl rfl (by kernel_rfl) Try.func3 (by kernel_rfl)
    (of_decide_eq_true (by kernel_rfl)) (by unfold Func.isWrapper; first | (rw [if_pos (by decide +kernel)]; kernel_rfl) | (rw [if_neg (by decide +kernel)]; exact ⟨rfl, rfl⟩))
    (fun os started H enc _ => lifted os started H enc)
end Go.Proofs.Ytaidgkmacpiajaa.tagApart
namespace Go.Proofs.Ytaidgkmacpiajaa
/-- The row, under a short name, for the claim. -/
theorem tagApart_holds : Rows.TagApartSaid := tagApart.over
#print axioms tagApart_holds
end Go.Proofs.Ytaidgkmacpiajaa

/- Package tag: Put, and the two functions inside it. -/
import Derived.Test.YtaidgkmacpiajaaTgTree
import Derived.Test.YtaidgkmacpiajaaTgQuote
import Derived.Lib.BufferKept
import Derived.Shelf.Abstract
import Derived.Outline
set_option linter.unusedVariables false
set_option linter.unusedSimpArgs false
namespace Go.Proofs.Ytaidgkmacpiajaa.Tg
open Go.RowKit Go.Proofs.Ytaidgkmacpiajaa.Plain Go.Proofs.Ytaidgkmacpiajaa.PTag Go.Proofs.YtaidgkmacpiajaaW.PrintWords

theorem bAt_below {T e : TypeId} {B b : Nat} {p : Value} {bs : List Value} {W W' : World} (h : Lib.BuilderAtF T e B b p bs W) (hb : Below W.heap.size W W') : Lib.BuilderAtF T e B b p bs W' := by
  have hlt := h.lt
  obtain ⟨hB, v, hv, hown, hne⟩ := h
  exact ⟨hB, v, (hb.block b hlt).trans hv, hown.kept (row := none) ⟨hb.os, hb.tape, hb.output, hb.size, fun k hk _ => hb.block k hk⟩ (Classical.em _), hne⟩
theorem bIs_below {T e : TypeId} {B b : Nat} {bs : List Value} {W W' : World} (h : Lib.IsBuilderF T e B b bs W) (hb : Below W.heap.size W W') : Lib.IsBuilderF T e B b bs W' :=
  h.elim (fun x => .inl (bAt_below x hb)) (fun x => .inr (bAt_below x hb))

abbrev Bd (B b : Nat) (l : List UInt8) (W : World) : Prop := Lib.IsBuilderF 43 5 B b (Lib.byteCells l) W
abbrev Kp (b : Nat) (W W' : World) : Prop := Lib.OthersKept 5 (some b) W W'

theorem bl_append (a b : ByteArray) : bl (a ++ b) = bl a ++ bl b := by unfold bl; simp
theorem bl_size (a : ByteArray) : (bl a).length = a.size := by unfold bl; simp
theorem bl_lit (l : List UInt8) : bl ⟨l.toArray⟩ = l := by simp [bl]

theorem Write_calls (B b : Nat) (l m : List UInt8) (s : ByteArray) (W : World) (hs : bl s = m) (h : Bd B b l W) (hlen : l.length + m.length ≤ 140737488355328) (hB : B ≤ W.heap.size) :
    Calls Try.prog 18 #[.pointer (some ⟨b, 0, none⟩), .string s] W fun e w' => e = .returned (.tuple #[.int .i64 s.size, .nilIface]) ∧ Bd B b (l ++ m) w' ∧ Below B W w' ∧ Kp b W w' := by
  subst hs
  rw [bl_size] at hlen
  refine Calls.mono (Bldr.WriteString_k B b _ s W h (by rw [Lib.byteCells_length]; omega) hB) ?_
  rintro e w' ⟨rfl, h1, h2, h3⟩
  refine ⟨rfl, .inr ?_, h2, h3⟩
  rw [Lib.byteCells_append]
  exact h1

set_option maxHeartbeats 2000000 in
set_option maxRecDepth 1000000 in
theorem attr_calls (B b : Nat) (l : List UInt8) (name value : ByteArray) (W : World) (h : Bd B b l W) (hlen : l.length + (attrL (bl name) (bl value)).length ≤ 17592186044416) (hB : B ≤ W.heap.size) :
    Calls Try.prog 17 #[.string name, .string value, .pointer (some ⟨b, 0, none⟩)] W fun e w' => e = .returned (.tuple #[]) ∧ Bd B b (l ++ attrL (bl name) (bl value)) w' ∧ Below B W w' ∧ Kp b W w' := by
  have hq := quoteL_ge (bl value)
  have hn : (bl name).length = name.size := by unfold bl; simp
  have hv : (bl value).length = value.size := by unfold bl; simp
  simp only [attrL, List.length_append, List.length_cons, List.length_nil] at hlen
  have hQ := Quote_calls value W (by omega)
  have HQ := Lib.hid hQ
  have H := Lib.hid h
  obtain ⟨q, hqq⟩ : ∃ q : ByteArray, (⟨(quoteL (bl value)).toArray⟩ : ByteArray) = q := ⟨_, rfl⟩
  have hqs : q.size = (quoteL (bl value)).length := by rw [← hqq]; show (quoteL (bl value)).toArray.size = _; simp
  have hqb : bl q = quoteL (bl value) := by rw [← hqq]; simp [bl]
  rw [hqq] at HQ
  have HQS := Lib.hid hqs
  have HQB := Lib.hid hqb
  have hqs2 : q.size ≤ 17592186044416 := by omega
  have hns2 : name.size ≤ 17592186044416 := by omega
  clear h hQ hqq hq hv hqs hqb
  go_enter Try.func17, Try.ntmps17
  go_wp2_with first
    | (go_at_call 11; (with_reducible refine Calls.mono HQ.out ?_); rintro e w1 ⟨rfl, hb1⟩)
    | (go_at_call 18; refine Calls.mono (Write_calls B b l (attrL (bl name) (bl value)) _ _ (by simp only [bl_append, HQB.out, attrL]; rfl) (bIs_below H.out hb1) (by simp only [attrL, List.length_append, List.length_cons, List.length_nil]; omega) (by have := hb1.size; omega)) ?_; rintro e w2 ⟨rfl, h2, b2, k2⟩)
  go_end0
  exact ⟨rfl, h2, (hb1.mono hB).trans b2, ((Lib.OthersKept.refl _ _ _).below hb1).trans k2⟩

end Go.Proofs.Ytaidgkmacpiajaa.Tg

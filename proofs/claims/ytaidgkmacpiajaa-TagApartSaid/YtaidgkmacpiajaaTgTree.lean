/- Package tag over the printed tree type: an element's text, in plain Lean. -/
import Derived.Test.YtaidgkmacpiajaaPTagx0
import Derived.Test.YtaidgkmacpiajaaTgPlain
set_option linter.unusedVariables false
set_option linter.unusedSimpArgs false
namespace Go.Proofs.Ytaidgkmacpiajaa.Tg
open Go.RowKit Go.Proofs.Ytaidgkmacpiajaa.PTag Go.Proofs.YtaidgkmacpiajaaW.PrintWords

def attr1 (a : S51) : List UInt8 := attrL (bl a.f0) (bl a.f1)
def attrsT (l : List S51) : List UInt8 := l.flatMap attr1

mutual
def putT : S25 → List UInt8 → List UInt8
  | ⟨s, n, az, t, ks⟩, sp =>
    [60] ++ bl n ++ (if bl s = sp then [] else attrL xmlns (bl s)) ++ attrsT az ++
      (if bl t = [] ∧ ks.length = 0 then [47, 62] else [62] ++ quoteL (bl t) ++ putsT ks (bl s) ++ [60, 47] ++ bl n ++ [62])
def putsT : List S25 → List UInt8 → List UInt8
  | [], _ => []
  | k :: ks, sp => putT k sp ++ putsT ks sp
end

theorem putT_eq (e : S25) (sp : List UInt8) : putT e sp = [60] ++ bl e.f1 ++ (if bl e.f0 = sp then [] else attrL xmlns (bl e.f0)) ++ attrsT e.f2 ++
      (if bl e.f3 = [] ∧ e.f4.length = 0 then [47, 62] else [62] ++ quoteL (bl e.f3) ++ putsT e.f4 (bl e.f0) ++ [60, 47] ++ bl e.f1 ++ [62]) := by
  cases e; rw [putT]

theorem putsT_append (a b : List S25) (sp : List UInt8) : putsT (a ++ b) sp = putsT a sp ++ putsT b sp := by
  induction a with
  | nil => simp [putsT]
  | cons k ks ih => simp [putsT, ih]

theorem putsT_one (a : S25) (sp : List UInt8) : putsT [a] sp = putT a sp := by simp [putsT]

theorem putsT_take (l : List S25) (k : Nat) (h : k < l.length) (sp : List UInt8) : putsT (l.take (k + 1)) sp = putsT (l.take k) sp ++ putT l[k] sp := by
  rw [List.take_succ_eq_append_getElem h, putsT_append, putsT_one]

theorem attrsT_take (l : List S51) (k : Nat) (h : k < l.length) : attrsT (l.take (k + 1)) = attrsT (l.take k) ++ attr1 l[k] := by
  rw [List.take_succ_eq_append_getElem h]; unfold attrsT; rw [List.flatMap_append, List.flatMap_cons, List.flatMap_nil, List.append_nil]

theorem putsT_le (l : List S25) (k : Nat) (sp : List UInt8) : (putsT (l.take k) sp).length ≤ (putsT l sp).length := by
  conv => rhs; rw [← List.take_append_drop k l, putsT_append]
  simp

theorem attrsT_le (l : List S51) (k : Nat) : (attrsT (l.take k)).length ≤ (attrsT l).length := by
  conv => rhs; rw [← List.take_append_drop k l]
  unfold attrsT; rw [List.flatMap_append, List.length_append]; omega

theorem quoteL_ge (l : List UInt8) : l.length ≤ (quoteL l).length := by
  induction l with
  | nil => simp [quoteL]
  | cons c t ih =>
    have := (quote1_size c).1
    unfold quoteL at *
    rw [List.flatMap_cons, List.length_append, List.length_cons]
    omega

end Go.Proofs.Ytaidgkmacpiajaa.Tg

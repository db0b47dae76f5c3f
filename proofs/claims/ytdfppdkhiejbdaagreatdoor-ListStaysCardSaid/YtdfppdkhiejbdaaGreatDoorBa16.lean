import Derived.Test.YtdfppdkhiejbdaaGreatDoorWWords
import Derived.Deep.Slices
import Derived.Deep.Fields
import Derived.ChangeSame
import Derived.SizedLaws
import Derived.Test.YtdfppdkhiejbdaaGreatDoorBa15
import Derived.WalkKit
import Derived.ProofKit
import Derived.OpenShut
import Derived.ShutString
section
/- Arguments laid open to the kinds of the printed texts: strings, numbers, slices, structs of one-cell fields, trees. -/
set_option linter.unusedVariables false
set_option linter.unusedSimpArgs false
namespace Go.Proofs.YtdfppdkhiejbdaaGreatDoor.Opn
open Go.RowKit Go.ChangeShapes Go.WideShapes Go.Deep Go.Proofs.YtdfppdkhiejbdaaGreatDoorW.PrintWords

section
variable {P : Program} {α : Type}

/-- Whatever is read at a type, its weights bounded, is a value of the kind, of which ok holds. -/
def OpF (P : Program) (fuel : Nat) (t : TypeId) (d : Kd α) (ok : α → Prop) : Prop :=
  ∀ (H : Type) (enc : TypeId × Value → H) (w : World) (base : Nat) (spare : Nat → Bool) (held : Bool) (cs : List Value) (x : DataW H × List MemPlace),
    DataW.trod enc P w base spare held fuel t cs = some x → (∀ n ∈ x.1.weights P t, n ≤ reachBytes) → ∃ a : α, d.K w a cs ∧ ok a

theorem OpF.string {t : TypeId} (ht : P.underlying t = some .string) (fuel : Nat) : OpF P fuel t Kd.string (fun s => s.size ≤ reachBytes) := by
  intro H enc w base spare held cs x h hw
  obtain ⟨s, rfl, rfl, hs⟩ := DataW.trod_string ht h
  exact ⟨s, rfl, by have := hw s.data.toList.length (by simp [DataW.weights]); simpa using this⟩

theorem OpF.int {t : TypeId} {k : IntKind} (ht : P.underlying t = some (.int k)) (fuel : Nat) : OpF P fuel t (Kd.int k) (fun n => (Lit.int k n).wf = true) := by
  intro H enc w base spare held cs x h hw
  obtain ⟨n, rfl, rfl, hn⟩ := DataW.trod_int ht h
  exact ⟨n, rfl, hn⟩

theorem OpF.bool {t : TypeId} (ht : P.underlying t = some .bool) (fuel : Nat) : OpF P fuel t Kd.bool (fun _ => True) := by
  intro H enc w base spare held cs x h hw
  obtain ⟨b, rfl, rfl⟩ := DataW.trod_bool ht h
  exact ⟨b, rfl, trivial⟩

theorem mem_weightsAll {H : Type} {e : TypeId} {n : Nat} {y : DataW H} : ∀ {ys : List (DataW H)}, y ∈ ys → n ∈ y.weights P e → n ∈ DataW.weightsAll P e ys
  | z :: zs, hy, hn => by
    rw [DataW.weightsAll, List.mem_append]
    rcases List.mem_cons.1 hy with rfl | hy
    · exact .inl hn
    · exact .inr (mem_weightsAll hy hn)

theorem OpF.slice {t e : TypeId} {d : Kd α} {ok : α → Prop} {fuel : Nat} (ht : P.underlying t = some (.slice e)) (hsz : d.sz = P.cellsOf e) (h : ∀ n, n < fuel → OpF P n e d ok) :
    OpF P fuel t (Kd.slice e d) (fun l => l.length * P.bytesOf e ≤ reachBytes ∧ ∀ a ∈ l, ok a) := by
  intro H enc w base spare held cs x hx hw
  rcases DataW.trod_slice ht hx with ⟨rfl, rfl⟩ | ⟨a, len, cap, elems, rest, n, rfl, rfl, rfl, hb, hl, hm, hlen, hel, _, _⟩
  · exact ⟨[], ⟨none, 0, rfl, Nat.le_refl _, rfl, by simp, fun h0 => by simp at h0⟩, by simp, fun a ha => by simp at ha⟩
  · simp only [DataW.weights, ht] at hw
    have key : ∀ i : Fin len, ∃ v : α, ok v ∧ ∃ c : List Value, c.length = d.sz ∧ d.K w v c ∧ ∀ j u, c[j]? = some u → w.cell? (a.add (i.1 * d.sz + j)) = some u := by
      intro i
      have hil : i.1 < elems.length := by rw [hlen]; exact i.2
      have h1 := hel i.1 i.2
      rw [List.getElem?_eq_getElem hil] at h1
      obtain ⟨c, hc, htr⟩ := Option.bind_eq_some_iff.1 h1
      obtain ⟨v, hK, hok⟩ := h n (Nat.lt_succ_self n) H enc w base spare held c _ htr (fun m hm' => hw m (by
        refine List.mem_cons_of_mem _ (List.mem_append_left _ (mem_weightsAll (y := elems[i.1].1) ?_ hm'))
        exact List.mem_map_of_mem (List.getElem_mem hil)))
      obtain ⟨_, hcl, hat⟩ := World.cells?_some hc
      refine ⟨v, hok, c, by rw [hsz]; exact hcl, hK, fun j u hj => ?_⟩
      have hjl : j < P.cellsOf e := by rw [← hcl]; exact (List.getElem?_eq_some_iff.1 hj).1
      rw [hsz, ← Go.Deep.add_add, hat j hjl, hj]
    have key2 := fun i => Classical.choose_spec (key i)
    refine ⟨List.ofFn fun i => Classical.choose (key i), ⟨some a, cap, ?_, ?_, ?_⟩, ?_, ?_⟩
    · rw [List.length_ofFn]
    · rw [List.length_ofFn]; exact hl
    · refine ⟨rfl, ?_, fun _ => ⟨a, rfl, fun j p hj => ?_⟩⟩
      · rw [List.length_ofFn]; unfold maxLen at hm; omega
      · rw [List.getElem?_ofFn] at hj
        split at hj
        · rename_i hjl
          obtain rfl := Option.some.inj hj
          exact (key2 ⟨j, hjl⟩).2
        · cases hj
    · rw [List.length_ofFn]
      have := hw ((elems.map (·.1)).length + (rest.map (·.1)).length |>.mul (P.bytesOf e)) (by exact List.mem_cons_self)
      refine Nat.le_trans (Nat.mul_le_mul_right _ ?_) this
      rw [List.length_map, hlen]; omega
    · intro v hv
      rw [List.mem_ofFn] at hv
      obtain ⟨i, rfl⟩ := hv
      exact (key2 i).1

/-- A struct of one-cell fields. -/
theorem struct_open {H : Type} {enc : TypeId × Value → H} {w : World} {base : Nat} {spare : Nat → Bool} {held : Bool} {t : TypeId} {fs : Array Field} {fuel : Nat} {cs : List Value} {x : DataW H × List MemPlace} (ht : P.underlying t = some (.struct fs)) (hone : oneCellFields P fs = true) (hC : P.cellsOf t = fs.size)
    (h : DataW.trod enc P w base spare held fuel t cs = some x) (hw : ∀ n ∈ x.1.weights P t, n ≤ reachBytes) :
    cs.length = fs.size ∧ ∃ n, n < fuel ∧ ∀ (j : Nat) (f : Field), fs[j]? = some f → ∃ (v : Value) (y : DataW H × List MemPlace), cs[j]? = some v ∧ DataW.trod enc P w base spare held n f.type [v] = some y ∧ ∀ m ∈ y.1.weights P f.type, m ≤ reachBytes := by
  obtain ⟨ys, n, rfl, rfl, hl, hlen, hf⟩ := DataW.trod_struct ht h
  rw [hC] at hl
  refine ⟨hl, n, Nat.lt_succ_self n, fun j f hj => ?_⟩
  obtain ⟨ho, hk⟩ := hone_of hone j f hj
  have hjl : j < fs.size := (Array.getElem?_eq_some_iff.1 hj).1
  have hv : cs[j]? = some (cs[j]'(by omega)) := List.getElem?_eq_getElem (by omega)
  have h1 := hf j f hj
  rw [ho, hk] at h1
  have hone' : (cs.drop j).take 1 = [cs[j]'(by omega)] := by
    rw [List.drop_eq_getElem_cons (by omega)]
    rfl
  rw [hone'] at h1
  have hys : ys[j]? = some (ys[j]'(by omega)) := List.getElem?_eq_getElem (by omega)
  refine ⟨_, _, hv, h1.trans hys, fun m hm => hw m ?_⟩
  simp only [DataW.weights, ht]
  refine DataW.weights_mem_each (j := j) (t := f.type) (d := (ys[j]'(by omega)).1) ?_ ?_ m hm
  · rw [List.getElem?_map]
    have : fs.toList[j]? = some f := by simpa using hj
    rw [this]; rfl
  · rw [List.getElem?_map, hys]; rfl
end
end Go.Proofs.YtdfppdkhiejbdaaGreatDoor.Opn
end

section
/- Package list's laws: the arguments laid open: a list of items and its time. -/
set_option linter.unusedVariables false
set_option linter.unusedSimpArgs false
namespace Go.Proofs.YtdfppdkhiejbdaaGreatDoor.Li
open Go.RowKit Go.ChangeShapes Go.WideShapes Go.Proofs.YtdfppdkhiejbdaaGreatDoor.PList Go.Proofs.YtdfppdkhiejbdaaGreatDoor.Opn Go.Proofs.YtdfppdkhiejbdaaGreatDoorW.PrintWords

theorem two {α : Type} {cs : List α} {a b : α} (h : cs.length = 2) (h0 : cs[0]? = some a) (h1 : cs[1]? = some b) : cs = [a, b] := by
  match cs, h with
  | [x, y], _ => simp at h0 h1; rw [h0, h1]
theorem six6 {α : Type} {cs : List α} {a b c d e f : α} (h : cs.length = 6) (h0 : cs[0]? = some a) (h1 : cs[1]? = some b) (h2 : cs[2]? = some c) (h3 : cs[3]? = some d) (h4 : cs[4]? = some e) (h5 : cs[5]? = some f) : cs = [a, b, c, d, e, f] := by
  match cs, h with
  | [x, y, z, u, v, w], _ => simp at h0 h1 h2 h3 h4 h5; rw [h0, h1, h2, h3, h4, h5]

def fitI (x : S26) : Prop := x.f0.size ≤ reachBytes ∧ (Lit.int .i64 x.f1).wf = true ∧ (Lit.int .i64 x.f2).wf = true ∧ (Lit.int .i64 x.f3).wf = true ∧ x.f4.size ≤ reachBytes

theorem item_op (fuel : Nat) : OpF Tryz.prog fuel 26 k26 fitI := by
  intro H enc w base spare held cs x h hw
  obtain ⟨hl, n, hn, hf⟩ := struct_open Tryz.underlying26 (by kernel_rfl) (by kernel_rfl) h hw
  obtain ⟨v0, y0, c0, t0, w0⟩ := hf 0 _ rfl
  obtain ⟨v1, y1, c1, t1, w1⟩ := hf 1 _ rfl
  obtain ⟨v2, y2, c2, t2, w2⟩ := hf 2 _ rfl
  obtain ⟨v3, y3, c3, t3, w3⟩ := hf 3 _ rfl
  obtain ⟨v4, y4, c4, t4, w4⟩ := hf 4 _ rfl
  obtain ⟨v5, y5, c5, t5, w5⟩ := hf 5 _ rfl
  obtain ⟨s0, k0, o0⟩ := OpF.string Tryz.underlying9 n H enc w base spare held _ _ t0 w0
  obtain ⟨s1, k1, o1⟩ := OpF.int Tryz.underlying3 n H enc w base spare held _ _ t1 w1
  obtain ⟨s2, k2, o2⟩ := OpF.int Tryz.underlying3 n H enc w base spare held _ _ t2 w2
  obtain ⟨s3, k3, o3⟩ := OpF.int Tryz.underlying3 n H enc w base spare held _ _ t3 w3
  obtain ⟨s4, k4, o4⟩ := OpF.string Tryz.underlying9 n H enc w base spare held _ _ t4 w4
  obtain ⟨s5, k5, o5⟩ := OpF.bool Tryz.underlying4 n H enc w base spare held _ _ t5 w5
  obtain rfl : v0 = .string s0 := by injection k0
  obtain rfl : v1 = .int .i64 s1 := by injection k1
  obtain rfl : v2 = .int .i64 s2 := by injection k2
  obtain rfl : v3 = .int .i64 s3 := by injection k3
  obtain rfl : v4 = .string s4 := by injection k4
  obtain rfl : v5 = .bool s5 := by injection k5
  refine ⟨⟨s0, s1, s2, s3, s4, s5⟩, ?_, o0, o1, o2, o3, o4⟩
  rw [six6 hl c0 c1 c2 c3 c4 c5]
  exact k26_mk w ⟨s0, s1, s2, s3, s4, s5⟩

theorem bytesItem : Tryz.prog.bytesOf 26 = 64 := by kernel_rfl


set_option maxRecDepth 100000 in
theorem list_arg {H : Type} {enc : TypeId × Value → H} {w : World} {base b0 : Nat} {spare : Nat → Bool} {held : Bool} {v : Value} {d : DataW H} {p : List MemPlace} {r : Reach} (hv : Value.okWide Tryz.prog w r b0 24 v) (h : DataW.Trod enc Tryz.prog w base spare held 24 v d p) (hw : ∀ n ∈ d.weights Tryz.prog 24, n ≤ reachBytes) :
    ∃ (xs : List S26) (t : Int) (A : Option Addr) (c : Nat), v = .agg #[.slice A xs.length c, .int .i64 t] ∧ (Lit.int .i64 t).wf = true ∧ Came xs ∧ xs.length ≤ c ∧ Kd.C k26 w A xs.length xs := by
  obtain ⟨cs, rfl, hsz⟩ := okWide_struct Tryz.underlying24 hv
  obtain ⟨fuel, hf⟩ := h
  obtain ⟨hl, n, hn, hfs⟩ := struct_open Tryz.underlying24 (by kernel_rfl) (by kernel_rfl) hf hw
  obtain ⟨v0, y0, c0, t0, w0⟩ := hfs 0 _ rfl
  obtain ⟨v1, y1, c1, t1, w1⟩ := hfs 1 _ rfl
  obtain ⟨s0, k0, o0⟩ := OpF.slice Tryz.underlying22 (d := k26) (by kernel_rfl) (fun m _ => item_op m) H enc w base spare held _ _ t0 w0
  obtain ⟨s1, k1, o1⟩ := OpF.int Tryz.underlying2 n H enc w base spare held _ _ t1 w1
  obtain rfl : v1 = .int .i64 s1 := by injection k1
  obtain ⟨A, c, q, l, g⟩ := k0
  obtain rfl : v0 = .slice A s0.length c := by injection q
  rw [bytesItem] at o0
  refine ⟨s0, s1, A, c, ?_, o1, ⟨?_, fun x hx => ?_⟩, l, g⟩
  · have := two hl c0 c1
    have : cs.toList = [.slice A s0.length c, .int .i64 s1] := by simpa [Value.cells] using this
    obtain ⟨l⟩ := cs
    simp at this
    rw [this]
  · have := o0.1
    unfold reachBytes at this
    omega
  · obtain ⟨h0, h1, h2, h3, h4⟩ := o0.2 x hx
    unfold reachBytes at h0 h4
    exact ⟨by omega, by omega, h1, h2, h3⟩

end Go.Proofs.YtdfppdkhiejbdaaGreatDoor.Li
end

section
/- Package list's laws: ListBack. -/
set_option linter.unusedVariables false
set_option linter.unusedSimpArgs false
namespace Go.Proofs.YtdfppdkhiejbdaaGreatDoor.Li
open Go.RowKit Go.Proofs.YtdfppdkhiejbdaaGreatDoor.PList Go.Proofs.YtdfppdkhiejbdaaGreatDoorW.PrintWords

theorem apply20_ne2 (xs : List S26) (x : S26) : (applyB xs 20 x).2 ≠ 2 := by
  have hl : ∀ was there, lacksB xs 20 x was there ≠ 2 := by
    intro was there
    unfold lacksB lacksR
    simp
    repeat' split
    all_goals omega
  unfold applyB
  simp only
  split
  · exact hl _ _
  · rw [if_neg (by omega)]
    split <;> simp

/-- A place that is taken is found. -/
theorem found {p q : List S26} {x z : S26} (ho : (p ++ x :: q).Pairwise LtI) (he : x.f1 = z.f1 ∧ x.f2 = z.f2) :
    posB z (p ++ x :: q) = p.length ∧ hitB z (p ++ x :: q) = true ∧ wasB z (p ++ x :: q) = x ∧ aheadB z (p ++ x :: q) = p ∧ behindB z (p ++ x :: q) = q := by
  obtain ⟨o1, o2, o3⟩ := List.pairwise_append.mp ho
  have hp : posB z (p ++ x :: q) = p.length := by
    refine pos_of z _ _ (by simp) (fun t ht h => ?_) (fun t ht h => ?_)
    · rw [List.getElem_append_left ht, cmp_lt]
      have := o3 p[t] (List.getElem_mem ht) x (by simp)
      unfold LtI at *; omega
    · rw [List.getElem_append_right ht]
      rcases Nat.eq_or_lt_of_le ht with rfl | ht
      · simp only [Nat.sub_self, List.getElem_cons_zero]
        have := (cmp_eq x z).mpr he
        omega
      · have hm : (x :: q)[t - p.length]'(by simp at h ⊢; omega) ∈ q := by
          obtain ⟨n, hn⟩ : ∃ n, t - p.length = n + 1 := ⟨t - p.length - 1, by omega⟩
          simp only [hn, List.getElem_cons_succ]
          exact List.getElem_mem _
        have := List.rel_of_pairwise_cons o2 hm
        refine Int.not_lt.mp fun hlt => ?_
        rw [cmp_lt] at hlt
        unfold LtI at *; omega
  have hx : (p ++ x :: q)[p.length]? = some x := by simp
  have hc : cmpB x z = 0 := (cmp_eq x z).mpr he
  have hh : hitB z (p ++ x :: q) = true := by unfold hitB; rw [hp, hx]; simp [hc]
  refine ⟨hp, hh, by unfold wasB; rw [hp, hx]; simp [hc], by unfold aheadB; rw [hp]; simp, ?_⟩
  unfold behindB
  rw [hh, if_pos rfl, hp]
  rw [List.drop_append]
  simp

theorem taken_back {p q : List S26} {x z : S26} (ho : (p ++ x :: q).Pairwise LtI) (he : x.f1 = z.f1 ∧ x.f2 = z.f2) (hg : isG x = false) : applyB (p ++ x :: q) 22 z = (p ++ q, 0) := by
  obtain ⟨_, h2, h3, h4, h5⟩ := found ho he
  unfold applyB
  rw [h2, h3, h4, h5]
  have : lacksB (p ++ x :: q) 22 z x true = 0 := by unfold lacksB lacksR; simp [hg]
  simp [this]

theorem item_j0 (x : S26) (h0 : x.f3 ≠ 0) (h1 : x.f3 ≠ 1) : ∀ (k : Nat) (b : Bool), (legacy_isItem.j0 k b x.f0 x.f1 x.f2 x.f3 x.f4 x.f5).getD false = false
  | 0, b => by simp [legacy_isItem.j0]
  | k + 1, true => by simp [legacy_isItem.j0]
  | k + 1, false => by simp [legacy_isItem.j0, h0, h1]

theorem item_type {x : S26} (h : itemB x = true) : x.f3 = 0 ∨ x.f3 = 1 := by
  by_cases h0 : x.f3 = 0
  · exact .inl h0
  · by_cases h1 : x.f3 = 1
    · exact .inr h1
    · exfalso
      have hj := item_j0 x h0 h1
      unfold itemB legacy_isItem.f at h
      cases e1 : legacy_isTwo.f x.f1 with
      | none => rw [e1] at h; simp at h
      | some b1 =>
        rw [e1] at h
        simp only [Option.bind_some] at h
        cases b1 with
        | false => rw [if_neg Bool.false_ne_true, hj] at h; cases h
        | true =>
          rw [if_pos rfl] at h
          cases e2 : legacy_isTwo.f x.f2 with
          | none => rw [e2] at h; simp at h
          | some b2 => rw [e2] at h; simp only [Option.bind_some] at h; rw [hj] at h; cases h

theorem buddy_found {p q : List S26} {x : S26} (hg : Good (p ++ x :: q)) (hx : isG x = false) : findB (alike x.f0) (p ++ x :: q) = (x, true) := by
  obtain ⟨k1, k2, k3⟩ := List.pairwise_append.mp hg.keys
  have hno : ∀ z ∈ p, alike x.f0 z = false := by
    intro z hz
    cases ha : alike x.f0 z with
    | false => rfl
    | true =>
      exfalso
      unfold alike sameB at ha
      simp only [Bool.and_eq_true, Bool.not_eq_true', beq_iff_eq] at ha
      have tz := item_type (hg.item z (by simp [hz]))
      have tx := item_type (hg.item x (by simp))
      have e1 : z.f3 = x.f3 := by
        have h1 := ha.1
        unfold isG at h1 hx
        simp at h1 hx
        omega
      refine k3 z hz x (by simp) ?_
      unfold keyB
      rw [ha.1, hx, toList_inj ha.2, e1]
      simp
  unfold findB
  rw [show (p ++ x :: q).find? (alike x.f0) = some x from ?_]
  rw [List.find?_append, List.find?_eq_none.mpr (fun z hz => by rw [hno z hz]; exact Bool.false_ne_true), Option.none_or, List.find?_cons_of_pos]
  unfold alike sameB
  simp [hx]

theorem title_there {xs : List S26} {g : Int} (hg : Good xs) (ha : xs.any (inG g) = true) : (findB (inG g) xs).1.f0.toList ≠ [] := by
  unfold findB
  cases h : xs.find? (inG g) with
  | none =>
    rw [List.find?_eq_none] at h
    rw [List.any_eq_true] at ha
    obtain ⟨z, hz, hp⟩ := ha
    exact absurd hp (h z hz)
  | some z =>
    have hz := List.mem_of_find?_eq_some h
    have hp := List.find?_some h
    have hf := hg.fits z hz
    unfold inG at hp
    simp only [Bool.and_eq_true] at hp
    unfold fitsB at hf
    rw [hp.1] at hf
    simp at hf
    exact hf.2

end Go.Proofs.YtdfppdkhiejbdaaGreatDoor.Li
end

section
/- Package list's laws: ListBack, walked. -/
set_option linter.unusedVariables false
set_option linter.unusedSimpArgs false
namespace Go.Proofs.YtdfppdkhiejbdaaGreatDoor.Li
open Go.RowKit Go.Proofs.YtdfppdkhiejbdaaGreatDoor.PList Go.Proofs.YtdfppdkhiejbdaaGreatDoorW.PrintWords
attribute [local go_sem high] eqA26

set_option maxHeartbeats 2000000 in
set_option maxRecDepth 1000000 in
theorem Back_no1 (t g : Int) (A : Option Addr) (c : Nat) (xs : List S26) (name : ByteArray) (w : World) (hC : Kd.C k26 w A xs.length xs) (hcap : xs.length ≤ c) (hcame : Came xs) (hn : name.size ≤ 140737488355328) (hit : ∀ w, Kd.C k26 w A xs.length xs → Calls Tryz.prog 6 #[.slice A xs.length c] w fun e w' => e = .returned (.bool false) ∧ Below w.heap.size w w') :
    Calls Tryz.prog 4 #[.agg #[.slice A xs.length c, .int .i64 t], .int .i64 g, .string name] w fun e w' => e = .returned (.bool true) ∧ Below w.heap.size w w' := by
  have HG0 : Hid (GK w [(w.heap.size, .cells #[.slice A xs.length c, .int .i64 t] 24 (0, 0))] [(A, xs)] (w.alloc (.cells #[.slice A xs.length c, .int .i64 t] 24))) := Lib.hid (((GK.start w).step (bel1 _ _)).addR (Kd.C_below hC (bel1 _ _)) hcame.1 |>.addB (blk_new _ _))
  obtain ⟨V, hV⟩ : ∃ V, w.alloc (.cells #[.slice A xs.length c, .int .i64 t] 24) = V := ⟨_, rfl⟩
  rw [hV] at HG0
  have HV := Lib.hid hV
  have HIT := Lib.hid (hit V (HG0.out.row A xs (.head _)))
  have HCAME := Lib.hid hcame
  clear hV hit hcame hC
  obtain ⟨a0, a1, -⟩ := cells2 (HG0.out.blk w.heap.size _ (.head _))
  go_enter Tryz.func4, Tryz.ntmps4
  go_upto_region 1 with fail
  rw [HV.out]
  go_wp2_with fail
  refine Calls.mono HIT.out ?_
  rintro en w1 ⟨rfl, hb1⟩
  have HG1 := Lib.hid (HG0.out.step hb1)
  clear hb1 HIT a0 a1
  go_wp2_with fail
  refine Calls.mono (live_calls _) ?_
  rintro en w9 ⟨rfl, hb9⟩
  have HG9 := Lib.hid (HG1.out.step hb9)
  clear hb9
  go_wp2_with fail
  go_ret
  exact ⟨rfl, HG9.out.2.2⟩

set_option maxHeartbeats 2000000 in
set_option maxRecDepth 1000000 in
theorem Back_no2 (t g : Int) (A : Option Addr) (c : Nat) (xs : List S26) (name : ByteArray) (w : World) (hC : Kd.C k26 w A xs.length xs) (hcap : xs.length ≤ c) (hcame : Came xs) (hn : name.size ≤ 140737488355328) (hit : ∀ w, Kd.C k26 w A xs.length xs → Calls Tryz.prog 6 #[.slice A xs.length c] w fun e w' => e = .returned (.bool true) ∧ Below w.heap.size w w') (hnm : (100 : Int) < (name.size : Int)) :
    Calls Tryz.prog 4 #[.agg #[.slice A xs.length c, .int .i64 t], .int .i64 g, .string name] w fun e w' => e = .returned (.bool true) ∧ Below w.heap.size w w' := by
  have HG0 : Hid (GK w [(w.heap.size, .cells #[.slice A xs.length c, .int .i64 t] 24 (0, 0))] [(A, xs)] (w.alloc (.cells #[.slice A xs.length c, .int .i64 t] 24))) := Lib.hid (((GK.start w).step (bel1 _ _)).addR (Kd.C_below hC (bel1 _ _)) hcame.1 |>.addB (blk_new _ _))
  obtain ⟨V, hV⟩ : ∃ V, w.alloc (.cells #[.slice A xs.length c, .int .i64 t] 24) = V := ⟨_, rfl⟩
  rw [hV] at HG0
  have HV := Lib.hid hV
  have HIT := Lib.hid (hit V (HG0.out.row A xs (.head _)))
  have HCAME := Lib.hid hcame
  clear hV hit hcame hC
  obtain ⟨a0, a1, -⟩ := cells2 (HG0.out.blk w.heap.size _ (.head _))
  go_enter Tryz.func4, Tryz.ntmps4
  go_upto_region 1 with fail
  rw [HV.out]
  go_wp2_with fail
  refine Calls.mono HIT.out ?_
  rintro en w1 ⟨rfl, hb1⟩
  have HG1 := Lib.hid (HG0.out.step hb1)
  clear hb1 HIT a0 a1
  go_wp2_with fail
  refine Calls.mono (live_calls _) ?_
  rintro en w9 ⟨rfl, hb9⟩
  have HG9 := Lib.hid (HG1.out.step hb9)
  clear hb9
  go_wp2_with fail
  go_ret
  exact ⟨rfl, HG9.out.2.2⟩

set_option maxHeartbeats 2000000 in
set_option maxRecDepth 1000000 in
theorem Back_no3 (t g : Int) (A : Option Addr) (c : Nat) (xs : List S26) (name : ByteArray) (w : World) (hC : Kd.C k26 w A xs.length xs) (hcap : xs.length ≤ c) (hcame : Came xs) (hn : name.size ≤ 140737488355328) (hit : ∀ w, Kd.C k26 w A xs.length xs → Calls Tryz.prog 6 #[.slice A xs.length c] w fun e w' => e = .returned (.bool true) ∧ Below w.heap.size w w') (hnm : (name.size : Int) ≤ 100) (hsm : Sm xs) (hck : (if checkB xs t = true then (0 : Int) else 170) = 170) :
    Calls Tryz.prog 4 #[.agg #[.slice A xs.length c, .int .i64 t], .int .i64 g, .string name] w fun e w' => e = .returned (.bool true) ∧ Below w.heap.size w w' := by
  have HCKB := Lib.hid hck
  clear hck
  have HG0 : Hid (GK w [(w.heap.size, .cells #[.slice A xs.length c, .int .i64 t] 24 (0, 0))] [(A, xs)] (w.alloc (.cells #[.slice A xs.length c, .int .i64 t] 24))) := Lib.hid (((GK.start w).step (bel1 _ _)).addR (Kd.C_below hC (bel1 _ _)) hcame.1 |>.addB (blk_new _ _))
  obtain ⟨V, hV⟩ : ∃ V, w.alloc (.cells #[.slice A xs.length c, .int .i64 t] 24) = V := ⟨_, rfl⟩
  rw [hV] at HG0
  have HV := Lib.hid hV
  have HIT := Lib.hid (hit V (HG0.out.row A xs (.head _)))
  have HCAME := Lib.hid hcame
  clear hV hit hcame hC
  obtain ⟨a0, a1, -⟩ := cells2 (HG0.out.blk w.heap.size _ (.head _))
  go_enter Tryz.func4, Tryz.ntmps4
  go_upto_region 1 with fail
  rw [HV.out]
  go_wp2_with fail
  refine Calls.mono HIT.out ?_
  rintro en w1 ⟨rfl, hb1⟩
  have HG1 := Lib.hid (HG0.out.step hb1)
  clear hb1 HIT a0 a1
  obtain ⟨a0, a1, -⟩ := cells2 (HG1.out.blk w.heap.size _ (.head _))
  have HCK := Lib.hid (Check_calls t A c xs w1 (HG1.out.row A xs (.head _)) hsm HCAME.out.rg)
  rw [HCKB.out] at HCK
  go_wp2_with fail
  refine Calls.mono HCK.out ?_
  rintro en w2 ⟨rfl, hb2⟩
  have HG2 := Lib.hid (HG1.out.step hb2)
  clear hb2 HCK a0 a1
  go_wp2_with fail
  refine Calls.mono (wharflaw17_num.calls 170 170 _ rfl) ?_
  rintro en w3 ⟨rfl, hd3⟩
  have HG3 := Lib.hid (HG2.out.step hd3.below)
  clear hd3
  go_wp2_with fail
  refine Calls.mono (live_calls _) ?_
  rintro en w9 ⟨rfl, hb9⟩
  have HG9 := Lib.hid (HG3.out.step hb9)
  clear hb9
  go_wp2_with fail
  go_ret
  exact ⟨rfl, HG9.out.2.2⟩

set_option maxHeartbeats 2000000 in
set_option maxRecDepth 1000000 in
theorem Back_refused (t g : Int) (A : Option Addr) (c : Nat) (xs : List S26) (name : ByteArray) (w : World) (hC : Kd.C k26 w A xs.length xs) (hcap : xs.length ≤ c) (hcame : Came xs) (hn : name.size ≤ 140737488355328) (hit : ∀ w, Kd.C k26 w A xs.length xs → Calls Tryz.prog 6 #[.slice A xs.length c] w fun e w' => e = .returned (.bool true) ∧ Below w.heap.size w w') (hnm : (name.size : Int) ≤ 100) (hsm : Sm xs) (hlen : xs.length ≤ 120) (hck : (if checkB xs t = true then (0 : Int) else 170) = 0) (hgood : Good xs) (pl : Int) (hpl : freeL (takenP g xs) = pl) (cc : Int) (hap : applyB xs 20 ⟨name, g, pl, 0, ⟨#[]⟩, false⟩ = (xs, cc)) (h1 : (cc == 0) = false) (h2 : (cc != 0) = true) (h3 : (cc == 2) = false) (h4 : (cc != 2) = true) :
    Calls Tryz.prog 4 #[.agg #[.slice A xs.length c, .int .i64 t], .int .i64 g, .string name] w fun e w' => e = .returned (.bool true) ∧ Below w.heap.size w w' := by
  have HCKB := Lib.hid hck
  have HGOOD := Lib.hid hgood
  have HPV := Lib.hid hpl
  have HAPV := Lib.hid hap
  clear hck hgood hpl hap
  have HG0 : Hid (GK w [(w.heap.size, .cells #[.slice A xs.length c, .int .i64 t] 24 (0, 0))] [(A, xs)] (w.alloc (.cells #[.slice A xs.length c, .int .i64 t] 24))) := Lib.hid (((GK.start w).step (bel1 _ _)).addR (Kd.C_below hC (bel1 _ _)) hcame.1 |>.addB (blk_new _ _))
  obtain ⟨V, hV⟩ : ∃ V, w.alloc (.cells #[.slice A xs.length c, .int .i64 t] 24) = V := ⟨_, rfl⟩
  rw [hV] at HG0
  have HV := Lib.hid hV
  have HIT := Lib.hid (hit V (HG0.out.row A xs (.head _)))
  have HCAME := Lib.hid hcame
  clear hV hit hcame hC
  obtain ⟨a0, a1, -⟩ := cells2 (HG0.out.blk w.heap.size _ (.head _))
  go_enter Tryz.func4, Tryz.ntmps4
  go_upto_region 1 with fail
  rw [HV.out]
  go_wp2_with fail
  refine Calls.mono HIT.out ?_
  rintro en w1 ⟨rfl, hb1⟩
  have HG1 := Lib.hid (HG0.out.step hb1)
  clear hb1 HIT a0 a1
  obtain ⟨a0, a1, -⟩ := cells2 (HG1.out.blk w.heap.size _ (.head _))
  have HCK := Lib.hid (Check_calls t A c xs w1 (HG1.out.row A xs (.head _)) hsm HCAME.out.rg)
  rw [HCKB.out] at HCK
  go_wp2_with fail
  refine Calls.mono HCK.out ?_
  rintro en w2 ⟨rfl, hb2⟩
  have HG2 := Lib.hid (HG1.out.step hb2)
  clear hb2 HCK a0 a1
  go_wp2_with fail
  refine Calls.mono (wharflaw17_num.calls 0 0 _ rfl) ?_
  rintro en w3 ⟨rfl, hd3⟩
  have HG3 := Lib.hid (HG2.out.step hd3.below)
  clear hd3
  obtain ⟨a0, a1, -⟩ := cells2 (HG3.out.blk w.heap.size _ (.head _))
  have HPL := Lib.hid (Place_calls g t A c xs w3 (HG3.out.row A xs (.head _)) (by omega) HCAME.out.rg)
  rw [HPV.out] at HPL
  go_upto_region 3 with fail
  go_wp2_with fail
  refine Calls.mono HPL.out ?_
  rintro en w4 ⟨rfl, hb4⟩
  have HG4 := Lib.hid (HG3.out.step hb4)
  clear hb4 HPL a0 a1
  go_upto_region 4 with fail
  obtain ⟨W5, hW5⟩ : ∃ W5, W5 = w4.alloc (.cells #[.string name, .int .i64 g, .int .i64 pl, .int .i64 0, .string ⟨#[]⟩, .bool false] 26) := ⟨_, rfl⟩
  have HG5 : Hid (GK w ((w4.heap.size, ib ⟨name, g, pl, 0, ⟨#[]⟩, false⟩) :: [(w.heap.size, .cells #[.slice A xs.length c, .int .i64 t] 24 (0, 0))]) [(A, xs)] W5) := Lib.hid (by rw [hW5]; exact (HG4.out.step (bel1 _ _)).addB (blk_new _ _))
  rw [← hW5]
  obtain ⟨nx, hnx⟩ : ∃ nx, w4.heap.size = nx := ⟨_, rfl⟩
  rw [hnx] at HG5
  rw [hnx]
  clear hW5 hnx
  obtain ⟨a0, a1, -⟩ := cells2 (HG5.out.blk w.heap.size _ (.tail _ (.head _)))
  obtain ⟨x0, x1, x2, x3, x4, x5, _, _, _, _, _, _⟩ := cells6 (HG5.out.blk nx _ (.head _))
  have HAP := Lib.hid (Apply_calls t A c xs 20 ⟨name, g, pl, 0, ⟨#[]⟩, false⟩ W5 (HG5.out.row A xs (.head _)) hcap hsm (by omega) (mono_of_ord _ HGOOD.out.ord) (by show name.size ≤ _; omega) (by show (⟨#[]⟩ : ByteArray).size ≤ _; decide))
  rw [HAPV.out] at HAP
  go_wp2_with fail
  refine Calls.mono HAP.out ?_
  rintro en w6 ⟨B6, c6, rfl, hC6, hc6, hb6⟩
  have HG6 := Lib.hid ((HG5.out.step hb6).addR hC6 (show xs.length ≤ 4398046511104 by omega))
  clear hb6 HAP a0 a1 x0 x1 x2 x3 x4 x5 hC6
  go_upto_region 5 with fail
  have HG7 := Lib.hid ((HG6.out.step (bel1 w6 (.cells #[.slice B6 xs.length c6, .int .i64 t] 24))).addB (blk_new w6 (.cells #[.slice B6 xs.length c6, .int .i64 t] 24)))
  obtain ⟨W7, hW7⟩ : ∃ W7, W7 = w6.alloc (.cells #[.slice B6 xs.length c6, .int .i64 t] 24) := ⟨_, rfl⟩
  rw [← hW7] at HG7
  rw [← hW7]
  obtain ⟨n8, hn8⟩ : ∃ n8, w6.heap.size = n8 := ⟨_, rfl⟩
  rw [hn8] at HG7
  rw [hn8]
  clear hW7 hn8
  obtain ⟨a0, a1, -⟩ := cells2 (HG7.out.blk w.heap.size _ (.tail _ (.tail _ (.head _))))
  obtain ⟨b0, b1, -⟩ := cells2 (HG7.out.blk n8 _ (.head _))
  have HSR := Lib.hid (refSame_calls B6 c6 A c xs t W7 (HG7.out.row B6 xs (.head _)) hc6 (HG7.out.row A xs (.tail _ (.head _))) hcap (by omega))
  go_wp2_with fail
  refine Calls.mono HSR.out ?_
  rintro en w8 ⟨rfl, hb8⟩
  have HG8 := Lib.hid (HG7.out.step hb8)
  clear hb8 HSR a0 a1 b0 b1
  go_wp2_with fail
  refine Calls.mono (live_calls _) ?_
  rintro en w9 ⟨rfl, hb9⟩
  have HG9 := Lib.hid (HG8.out.step hb9)
  clear hb9
  go_wp2_with fail
  go_ret
  exact ⟨rfl, HG9.out.2.2⟩

set_option maxHeartbeats 2000000 in
set_option maxRecDepth 1000000 in
theorem Back_done (t g : Int) (A : Option Addr) (c : Nat) (xs : List S26) (name : ByteArray) (w : World) (hC : Kd.C k26 w A xs.length xs) (hcap : xs.length ≤ c) (hcame : Came xs) (hn : name.size ≤ 140737488355328) (hit : ∀ w, Kd.C k26 w A xs.length xs → Calls Tryz.prog 6 #[.slice A xs.length c] w fun e w' => e = .returned (.bool true) ∧ Below w.heap.size w w') (hnm : (name.size : Int) ≤ 100) (hsm : Sm xs) (hlen : xs.length ≤ 120) (hck : (if checkB xs t = true then (0 : Int) else 170) = 0) (hgood : Good xs) (pl : Int) (hpl : freeL (takenP g xs) = pl) (ys : List S26) (hap : applyB xs 20 ⟨name, g, pl, 0, ⟨#[]⟩, false⟩ = (ys, 0)) (hys : Sm ys) (hyl : ys.length ≤ 1000000) (hyo : ys.Pairwise LtI) (hbd : findB (alike name) ys = (⟨name, g, pl, 0, ⟨#[]⟩, false⟩, true)) (hdel : applyB ys 22 ⟨⟨#[]⟩, g, pl, 0, ⟨#[]⟩, false⟩ = (xs, 0)) (ti : ByteArray) (hti : (findB (inG g) xs).1.f0 = ti) (hti1 : (ti.toList == []) = false) (hti2 : (!(ti.toList == [])) = true) (hti3 : ¬ ti.toList = []) (hti4 : ti.toList.isEmpty = false) :
    Calls Tryz.prog 4 #[.agg #[.slice A xs.length c, .int .i64 t], .int .i64 g, .string name] w fun e w' => e = .returned (.bool true) ∧ Below w.heap.size w w' := by
  have HCKB := Lib.hid hck
  have HGOOD := Lib.hid hgood
  have HPV := Lib.hid hpl
  have HAPV := Lib.hid hap
  clear hck hgood hpl hap
  have HBD := Lib.hid hbd
  have HDEL := Lib.hid hdel
  have HTI := Lib.hid hti
  have HYO := Lib.hid hyo
  clear hbd hdel hti hyo
  have HG0 : Hid (GK w [(w.heap.size, .cells #[.slice A xs.length c, .int .i64 t] 24 (0, 0))] [(A, xs)] (w.alloc (.cells #[.slice A xs.length c, .int .i64 t] 24))) := Lib.hid (((GK.start w).step (bel1 _ _)).addR (Kd.C_below hC (bel1 _ _)) hcame.1 |>.addB (blk_new _ _))
  obtain ⟨V, hV⟩ : ∃ V, w.alloc (.cells #[.slice A xs.length c, .int .i64 t] 24) = V := ⟨_, rfl⟩
  rw [hV] at HG0
  have HV := Lib.hid hV
  have HIT := Lib.hid (hit V (HG0.out.row A xs (.head _)))
  have HCAME := Lib.hid hcame
  clear hV hit hcame hC
  obtain ⟨a0, a1, -⟩ := cells2 (HG0.out.blk w.heap.size _ (.head _))
  go_enter Tryz.func4, Tryz.ntmps4
  go_upto_region 1 with fail
  rw [HV.out]
  go_wp2_with fail
  refine Calls.mono HIT.out ?_
  rintro en w1 ⟨rfl, hb1⟩
  have HG1 := Lib.hid (HG0.out.step hb1)
  clear hb1 HIT a0 a1
  obtain ⟨a0, a1, -⟩ := cells2 (HG1.out.blk w.heap.size _ (.head _))
  have HCK := Lib.hid (Check_calls t A c xs w1 (HG1.out.row A xs (.head _)) hsm HCAME.out.rg)
  rw [HCKB.out] at HCK
  go_wp2_with fail
  refine Calls.mono HCK.out ?_
  rintro en w2 ⟨rfl, hb2⟩
  have HG2 := Lib.hid (HG1.out.step hb2)
  clear hb2 HCK a0 a1
  go_wp2_with fail
  refine Calls.mono (wharflaw17_num.calls 0 0 _ rfl) ?_
  rintro en w3 ⟨rfl, hd3⟩
  have HG3 := Lib.hid (HG2.out.step hd3.below)
  clear hd3
  obtain ⟨a0, a1, -⟩ := cells2 (HG3.out.blk w.heap.size _ (.head _))
  have HPL := Lib.hid (Place_calls g t A c xs w3 (HG3.out.row A xs (.head _)) (by omega) HCAME.out.rg)
  rw [HPV.out] at HPL
  go_upto_region 3 with fail
  go_wp2_with fail
  refine Calls.mono HPL.out ?_
  rintro en w4 ⟨rfl, hb4⟩
  have HG4 := Lib.hid (HG3.out.step hb4)
  clear hb4 HPL a0 a1
  go_upto_region 4 with fail
  obtain ⟨W5, hW5⟩ : ∃ W5, W5 = w4.alloc (.cells #[.string name, .int .i64 g, .int .i64 pl, .int .i64 0, .string ⟨#[]⟩, .bool false] 26) := ⟨_, rfl⟩
  have HG5 : Hid (GK w ((w4.heap.size, ib ⟨name, g, pl, 0, ⟨#[]⟩, false⟩) :: [(w.heap.size, .cells #[.slice A xs.length c, .int .i64 t] 24 (0, 0))]) [(A, xs)] W5) := Lib.hid (by rw [hW5]; exact (HG4.out.step (bel1 _ _)).addB (blk_new _ _))
  rw [← hW5]
  obtain ⟨nx, hnx⟩ : ∃ nx, w4.heap.size = nx := ⟨_, rfl⟩
  rw [hnx] at HG5
  rw [hnx]
  clear hW5 hnx
  obtain ⟨a0, a1, -⟩ := cells2 (HG5.out.blk w.heap.size _ (.tail _ (.head _)))
  obtain ⟨x0, x1, x2, x3, x4, x5, _, _, _, _, _, _⟩ := cells6 (HG5.out.blk nx _ (.head _))
  have HAP := Lib.hid (Apply_calls t A c xs 20 ⟨name, g, pl, 0, ⟨#[]⟩, false⟩ W5 (HG5.out.row A xs (.head _)) hcap hsm (by omega) (mono_of_ord _ HGOOD.out.ord) (by show name.size ≤ _; omega) (by show (⟨#[]⟩ : ByteArray).size ≤ _; decide))
  rw [HAPV.out] at HAP
  go_wp2_with fail
  refine Calls.mono HAP.out ?_
  rintro en w6 ⟨B6, c6, rfl, hC6, hc6, hb6⟩
  have HG6 := Lib.hid ((HG5.out.step hb6).addR hC6 (show ys.length ≤ 4398046511104 by omega))
  clear hb6 HAP a0 a1 x0 x1 x2 x3 x4 x5 hC6
  go_upto_region 5 with fail
  have HG7 := Lib.hid ((HG6.out.step (bel1 w6 (.cells #[.slice B6 ys.length c6, .int .i64 t] 24))).addB (blk_new w6 (.cells #[.slice B6 ys.length c6, .int .i64 t] 24)))
  obtain ⟨W7, hW7⟩ : ∃ W7, W7 = w6.alloc (.cells #[.slice B6 ys.length c6, .int .i64 t] 24) := ⟨_, rfl⟩
  rw [← hW7] at HG7
  rw [← hW7]
  obtain ⟨n8, hn8⟩ : ∃ n8, w6.heap.size = n8 := ⟨_, rfl⟩
  rw [hn8] at HG7
  rw [hn8]
  clear hW7 hn8
  obtain ⟨b0, b1, -⟩ := cells2 (HG7.out.blk n8 _ (.head _))
  have HBU := Lib.hid (Buddy_calls name t B6 c6 ys W7 (HG7.out.row B6 ys (.head _)) hys (by omega))
  rw [HBD.out] at HBU
  go_upto_region 7 with fail
  go_wp2_with fail
  refine Calls.mono HBU.out ?_
  rintro en w8 ⟨rfl, hb8⟩
  have HG8 := Lib.hid (HG7.out.step hb8)
  clear hb8 HBU b0 b1
  go_upto_region 8 with fail
  obtain ⟨W9, hW9⟩ : ∃ W9, W9 = w8.alloc (.cells #[.string name, .int .i64 g, .int .i64 pl, .int .i64 0, .string ⟨#[]⟩, .bool false] 26) := ⟨_, rfl⟩
  have HG9 := Lib.hid (show GK w ((w8.heap.size, ib ⟨name, g, pl, 0, ⟨#[]⟩, false⟩) :: _) _ W9 by rw [hW9]; exact (HG8.out.step (bel1 _ _)).addB (blk_new _ _))
  rw [← hW9]
  obtain ⟨nb, hnb⟩ : ∃ nb, w8.heap.size = nb := ⟨_, rfl⟩
  rw [hnb] at HG9
  rw [hnb]
  clear hW9 hnb
  obtain ⟨b0, b1, -⟩ := cells2 (HG9.out.blk n8 _ (.tail _ (.head _)))
  obtain ⟨x0, x1, x2, x3, x4, x5, _, _, _, _, _, _⟩ := cells6 (HG9.out.blk nx _ (.tail _ (.tail _ (.head _))))
  have HAP2 := Lib.hid (Apply_calls t B6 c6 ys 22 ⟨⟨#[]⟩, g, pl, 0, ⟨#[]⟩, false⟩ W9 (HG9.out.row B6 ys (.head _)) hc6 hys hyl (mono_of_ord _ HYO.out) (by show (⟨#[]⟩ : ByteArray).size ≤ _; decide) (by show (⟨#[]⟩ : ByteArray).size ≤ _; decide))
  rw [HDEL.out] at HAP2
  go_wp2_with fail
  refine Calls.mono HAP2.out ?_
  rintro en w10 ⟨B10, c10, rfl, hC10, hc10, hb10⟩
  have HG10 := Lib.hid ((HG9.out.step hb10).addR hC10 (show xs.length ≤ 4398046511104 by omega))
  clear hb10 HAP2 b0 b1 x0 x1 x2 x3 x4 x5 hC10
  go_upto_region 9 with fail
  obtain ⟨W11, hW11⟩ : ∃ W11, W11 = w10.alloc (.cells #[.slice B10 xs.length c10, .int .i64 t] 24) := ⟨_, rfl⟩
  have HG11 := Lib.hid (show GK w ((w10.heap.size, .cells #[.slice B10 xs.length c10, .int .i64 t] 24 (0, 0)) :: _) _ W11 by rw [hW11]; exact (HG10.out.step (bel1 _ _)).addB (blk_new _ _))
  rw [← hW11]
  obtain ⟨nn, hnn⟩ : ∃ nn, w10.heap.size = nn := ⟨_, rfl⟩
  rw [hnn] at HG11
  rw [hnn]
  clear hW11 hnn
  obtain ⟨d0, d1, -⟩ := cells2 (HG11.out.blk nn _ (.head _))
  obtain ⟨y0, y1, y2, y3, y4, y5, _, _, _, _, _, _⟩ := cells6 (HG11.out.blk nb _ (.tail _ (.head _)))
  obtain ⟨x0, x1, x2, x3, x4, x5, _, _, _, _, _, _⟩ := cells6 (HG11.out.blk nx _ (.tail _ (.tail _ (.tail _ (.head _)))))
  obtain ⟨a0, a1, -⟩ := cells2 (HG11.out.blk w.heap.size _ (.tail _ (.tail _ (.tail _ (.tail _ (.head _))))))
  have HSR := Lib.hid (refSame_calls B10 c10 A c xs t W11 (HG11.out.row B10 xs (.head _)) hc10 (HG11.out.row A xs (.tail _ (.tail _ (.head _)))) hcap (by omega))
  go_wp2_with fail
  refine Calls.mono HSR.out ?_
  rintro en w12 ⟨rfl, hb12⟩
  have HG12 := Lib.hid (HG11.out.step hb12)
  clear hb12 HSR d0 d1 y0 y1 y2 y3 y4 y5 x0 x1 x2 x3 x4 x5 a0 a1
  obtain ⟨a0, a1, -⟩ := cells2 (HG12.out.blk w.heap.size _ (.tail _ (.tail _ (.tail _ (.tail _ (.head _))))))
  have HTC := Lib.hid (Title_calls g t A c xs w12 (HG12.out.row A xs (.tail _ (.tail _ (.head _)))) hsm)
  rw [HTI.out] at HTC
  go_wp2_with fail
  refine Calls.mono HTC.out ?_
  rintro en w13 ⟨rfl, hb13⟩
  have HG13 := Lib.hid (HG12.out.step hb13)
  clear hb13 HTC a0 a1
  go_wp2_with fail
  refine Calls.mono (live_calls _) ?_
  rintro en w9 ⟨rfl, hb9⟩
  have HG9 := Lib.hid (HG13.out.step hb9)
  clear hb9
  go_wp2_with fail
  go_ret
  exact ⟨rfl, HG9.out.2.2⟩


theorem ListBack_calls (t g : Int) (A : Option Addr) (c : Nat) (xs : List S26) (name : ByteArray) (w : World) (hC : Kd.C k26 w A xs.length xs) (hcap : xs.length ≤ c) (hcame : Came xs) (hn : name.size ≤ 140737488355328) :
    Calls Tryz.prog 4 #[.agg #[.slice A xs.length c, .int .i64 t], .int .i64 g, .string name] w fun e w' => e = .returned (.bool true) ∧ Below w.heap.size w w' := by
  obtain ⟨b, hb, hit⟩ := items_any A c xs hcame hcap
  cases b with
  | false => exact Back_no1 t g A c xs name w hC hcap hcame hn hit
  | true =>
    have hsm := sm_of (hb rfl)
    have hlen := (hb rfl).1
    by_cases hnm : (100 : Int) < (name.size : Int)
    · exact Back_no2 t g A c xs name w hC hcap hcame hn hit hnm
    · cases hck : checkB xs t with
      | false => exact Back_no3 t g A c xs name w hC hcap hcame hn hit (by omega) hsm (by rw [hck]; rfl)
      | true =>
        obtain ⟨h100, _, _, hgood⟩ := (check_iff xs t).mp hck
        obtain ⟨pl, hpl⟩ : ∃ pl, freeL (takenP g xs) = pl := ⟨_, rfl⟩
        rcases apply_cases hgood h100 20 ⟨name, g, pl, 0, ⟨#[]⟩, false⟩ with ⟨cc, hc0, hap⟩ | ⟨p, q, _, hxs, hap, hgy, hlt⟩ | ⟨_, _, _, h, _⟩ | ⟨_, _, _, h, _⟩
        · have h2 := apply20_ne2 xs ⟨name, g, pl, 0, ⟨#[]⟩, false⟩
          rw [hap] at h2
          have h2' : cc ≠ 2 := h2
          exact Back_refused t g A c xs name w hC hcap hcame hn hit (by omega) hsm hlen (by rw [hck]; rfl) hgood pl hpl cc hap (by simpa using hc0) (by simpa using hc0) (by simpa using h2') (by simpa using h2')
        · have hg0 : isG (⟨name, g, pl, 0, ⟨#[]⟩, false⟩ : S26) = false := rfl
          have hfit := hgy.fits ⟨name, g, pl, 0, ⟨#[]⟩, false⟩ (by simp)
          have hany : xs.any (inG g) = true := by
            unfold fitsB at hfit
            rw [hg0] at hfit
            simp only [Bool.false_eq_true, if_false, Bool.and_eq_true] at hfit
            refine any_mono (fun u hu hp => ?_) hfit.2
            simp at hu
            rcases hu with hu | rfl | hu
            · exact ⟨u, by rw [hxs]; simp [hu], hp⟩
            · exact absurd hp (by unfold inG; rw [hg0]; simp)
            · exact ⟨u, by rw [hxs]; simp [hu], hp⟩
          have htl := title_there hgood hany
          have hysm : Sm (p ++ ⟨name, g, pl, 0, ⟨#[]⟩, false⟩ :: q) := by
            refine ⟨by rw [hxs] at hlen; simp at hlen ⊢; omega, fun u hu => ?_⟩
            simp at hu
            rcases hu with hu | rfl | hu
            · exact hsm.2 u (by rw [hxs]; simp [hu])
            · exact ⟨by show name.size ≤ _; omega, by show (⟨#[]⟩ : ByteArray).size ≤ _; decide⟩
            · exact hsm.2 u (by rw [hxs]; simp [hu])
          refine Back_done t g A c xs name w hC hcap hcame hn hit (by omega) hsm hlen (by rw [hck]; rfl) hgood pl hpl _ hap hysm (by rw [hxs] at hlen; simp at hlen ⊢; omega) hgy.ord (buddy_found hgy hg0) ?_ _ rfl (by simpa using htl) (by simpa using htl) htl (by simpa using htl)
          rw [hxs]
          exact taken_back hgy.ord ⟨rfl, rfl⟩ hg0
        · omega
        · omega

end Go.Proofs.YtdfppdkhiejbdaaGreatDoor.Li
end

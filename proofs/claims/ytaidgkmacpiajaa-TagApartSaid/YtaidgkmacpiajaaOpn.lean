/- Arguments laid open to the kinds of the printed texts: strings, numbers, slices, structs of one-cell fields, trees. -/
import Derived.Test.YtaidgkmacpiajaaWWords
import Derived.Deep.Slices
import Derived.Deep.Fields
import Derived.ChangeSame
import Derived.SizedLaws
set_option linter.unusedVariables false
set_option linter.unusedSimpArgs false
namespace Go.Proofs.Ytaidgkmacpiajaa.Opn
open Go.RowKit Go.ChangeShapes Go.WideShapes Go.Deep Go.Proofs.YtaidgkmacpiajaaW.PrintWords

section
variable {P : Program} {α : Type}

/-- Whatever is read at a type, its weights bounded, is a value of the kind, of which ok holds. -/
def OpF (P : Program) (fuel : Nat) (t : TypeId) (d : Kd α) (ok : α → Prop) : Prop :=
  ∀ (H : Type) (enc : TypeId × Value → H) (w : World) (base : Nat) (spare : Nat → Bool) (held : Bool) (cs : List Value) (x : DataW H × List MemPlace),
    DataW.trod enc P w base spare held fuel t cs = some x → (∀ n ∈ x.1.weights P t, n ≤ reachBytes) → ∃ a : α, d.K w a cs ∧ ok a

theorem OpF.string {t : TypeId} (ht : P.underlying t = some .string) (fuel : Nat) : OpF P fuel t Kd.string (fun s => s.size ≤ reachBytes) := by
  intro H enc w base spare held cs x h hw
  obtain ⟨s, rfl, rfl, hs⟩ := DataW.trod_string ht h
  exact ⟨s, rfl, by have := hw s.data.toList.length (by simp [DataW.weights]); simpa using this⟩

theorem OpF.int {t : TypeId} {k : IntKind} (ht : P.underlying t = some (.int k)) (fuel : Nat) : OpF P fuel t (Kd.int k) (fun n => (Lit.int k n).wf = true) := by
  intro H enc w base spare held cs x h hw
  obtain ⟨n, rfl, rfl, hn⟩ := DataW.trod_int ht h
  exact ⟨n, rfl, hn⟩

theorem OpF.bool {t : TypeId} (ht : P.underlying t = some .bool) (fuel : Nat) : OpF P fuel t Kd.bool (fun _ => True) := by
  intro H enc w base spare held cs x h hw
  obtain ⟨b, rfl, rfl⟩ := DataW.trod_bool ht h
  exact ⟨b, rfl, trivial⟩

theorem mem_weightsAll {H : Type} {e : TypeId} {n : Nat} {y : DataW H} : ∀ {ys : List (DataW H)}, y ∈ ys → n ∈ y.weights P e → n ∈ DataW.weightsAll P e ys
  | z :: zs, hy, hn => by
    rw [DataW.weightsAll, List.mem_append]
    rcases List.mem_cons.1 hy with rfl | hy
    · exact .inl hn
    · exact .inr (mem_weightsAll hy hn)

theorem OpF.slice {t e : TypeId} {d : Kd α} {ok : α → Prop} {fuel : Nat} (ht : P.underlying t = some (.slice e)) (hsz : d.sz = P.cellsOf e) (h : ∀ n, n < fuel → OpF P n e d ok) :
    OpF P fuel t (Kd.slice e d) (fun l => l.length * P.bytesOf e ≤ reachBytes ∧ ∀ a ∈ l, ok a) := by
  intro H enc w base spare held cs x hx hw
  rcases DataW.trod_slice ht hx with ⟨rfl, rfl⟩ | ⟨a, len, cap, elems, rest, n, rfl, rfl, rfl, hb, hl, hm, hlen, hel, _, _⟩
  · exact ⟨[], ⟨none, 0, rfl, Nat.le_refl _, rfl, by simp, fun h0 => by simp at h0⟩, by simp, fun a ha => by simp at ha⟩
  · simp only [DataW.weights, ht] at hw
    have key : ∀ i : Fin len, ∃ v : α, ok v ∧ ∃ c : List Value, c.length = d.sz ∧ d.K w v c ∧ ∀ j u, c[j]? = some u → w.cell? (a.add (i.1 * d.sz + j)) = some u := by
      intro i
      have hil : i.1 < elems.length := by rw [hlen]; exact i.2
      have h1 := hel i.1 i.2
      rw [List.getElem?_eq_getElem hil] at h1
      obtain ⟨c, hc, htr⟩ := Option.bind_eq_some_iff.1 h1
      obtain ⟨v, hK, hok⟩ := h n (Nat.lt_succ_self n) H enc w base spare held c _ htr (fun m hm' => hw m (by
        refine List.mem_cons_of_mem _ (List.mem_append_left _ (mem_weightsAll (y := elems[i.1].1) ?_ hm'))
        exact List.mem_map_of_mem (List.getElem_mem hil)))
      obtain ⟨_, hcl, hat⟩ := World.cells?_some hc
      refine ⟨v, hok, c, by rw [hsz]; exact hcl, hK, fun j u hj => ?_⟩
      have hjl : j < P.cellsOf e := by rw [← hcl]; exact (List.getElem?_eq_some_iff.1 hj).1
      rw [hsz, ← Go.Deep.add_add, hat j hjl, hj]
    have key2 := fun i => Classical.choose_spec (key i)
    refine ⟨List.ofFn fun i => Classical.choose (key i), ⟨some a, cap, ?_, ?_, ?_⟩, ?_, ?_⟩
    · rw [List.length_ofFn]
    · rw [List.length_ofFn]; exact hl
    · refine ⟨rfl, ?_, fun _ => ⟨a, rfl, fun j p hj => ?_⟩⟩
      · rw [List.length_ofFn]; unfold maxLen at hm; omega
      · rw [List.getElem?_ofFn] at hj
        split at hj
        · rename_i hjl
          obtain rfl := Option.some.inj hj
          exact (key2 ⟨j, hjl⟩).2
        · cases hj
    · rw [List.length_ofFn]
      have := hw ((elems.map (·.1)).length + (rest.map (·.1)).length |>.mul (P.bytesOf e)) (by exact List.mem_cons_self)
      refine Nat.le_trans (Nat.mul_le_mul_right _ ?_) this
      rw [List.length_map, hlen]; omega
    · intro v hv
      rw [List.mem_ofFn] at hv
      obtain ⟨i, rfl⟩ := hv
      exact (key2 i).1

/-- A struct of one-cell fields. -/
theorem struct_open {H : Type} {enc : TypeId × Value → H} {w : World} {base : Nat} {spare : Nat → Bool} {held : Bool} {t : TypeId} {fs : Array Field} {fuel : Nat} {cs : List Value} {x : DataW H × List MemPlace} (ht : P.underlying t = some (.struct fs)) (hone : oneCellFields P fs = true) (hC : P.cellsOf t = fs.size)
    (h : DataW.trod enc P w base spare held fuel t cs = some x) (hw : ∀ n ∈ x.1.weights P t, n ≤ reachBytes) :
    cs.length = fs.size ∧ ∃ n, n < fuel ∧ ∀ (j : Nat) (f : Field), fs[j]? = some f → ∃ (v : Value) (y : DataW H × List MemPlace), cs[j]? = some v ∧ DataW.trod enc P w base spare held n f.type [v] = some y ∧ ∀ m ∈ y.1.weights P f.type, m ≤ reachBytes := by
  obtain ⟨ys, n, rfl, rfl, hl, hlen, hf⟩ := DataW.trod_struct ht h
  rw [hC] at hl
  refine ⟨hl, n, Nat.lt_succ_self n, fun j f hj => ?_⟩
  obtain ⟨ho, hk⟩ := hone_of hone j f hj
  have hjl : j < fs.size := (Array.getElem?_eq_some_iff.1 hj).1
  have hv : cs[j]? = some (cs[j]'(by omega)) := List.getElem?_eq_getElem (by omega)
  have h1 := hf j f hj
  rw [ho, hk] at h1
  have hone' : (cs.drop j).take 1 = [cs[j]'(by omega)] := by
    rw [List.drop_eq_getElem_cons (by omega)]
    rfl
  rw [hone'] at h1
  have hys : ys[j]? = some (ys[j]'(by omega)) := List.getElem?_eq_getElem (by omega)
  refine ⟨_, _, hv, h1.trans hys, fun m hm => hw m ?_⟩
  simp only [DataW.weights, ht]
  refine DataW.weights_mem_each (j := j) (t := f.type) (d := (ys[j]'(by omega)).1) ?_ ?_ m hm
  · rw [List.getElem?_map]
    have : fs.toList[j]? = some f := by simpa using hj
    rw [this]; rfl
  · rw [List.getElem?_map, hys]; rfl
end
end Go.Proofs.Ytaidgkmacpiajaa.Opn

import Derived.Test.YtdfppdkhiejbdaaGreatDoorBa16
/- Package list's laws: ListStays, plain. -/
set_option linter.unusedVariables false
set_option linter.unusedSimpArgs false
namespace Go.Proofs.YtdfppdkhiejbdaaGreatDoor.Li
open Go.RowKit Go.Proofs.YtdfppdkhiejbdaaGreatDoor.PList Go.Proofs.YtdfppdkhiejbdaaGreatDoorW.PrintWords

/-- Two items are one. -/
def sameI (y u : S26) : Bool := y.f0.toList == u.f0.toList && (y.f1 == u.f1 && (y.f2 == u.f2 && (y.f3 == u.f3 && (y.f4.toList == u.f4.toList && (y.f5 == u.f5)))))
theorem sameI_iff (y u : S26) : sameI y u = true ↔ y = u := by
  constructor
  · intro h
    unfold sameI at h
    simp only [Bool.and_eq_true, beq_iff_eq] at h
    obtain ⟨h0, h1, h2, h3, h4, h5⟩ := h
    have e0 := toList_inj h0
    have e4 := toList_inj h4
    cases y; cases u; simp_all
  · intro h
    subst h
    unfold sameI
    simp
/-- An item is in a row. -/
def foundI (ys : List S26) (u : S26) : Bool := ys.any fun y => sameI y u
theorem foundI_iff (ys : List S26) (u : S26) : foundI ys u = true ↔ u ∈ ys := by
  unfold foundI
  rw [List.any_eq_true]
  constructor
  · rintro ⟨y, hy, h⟩
    rw [sameI_iff] at h
    exact h ▸ hy
  · intro h
    exact ⟨u, h, (sameI_iff u u).mpr rfl⟩
/-- How many are in xs and not in ys. -/
def lostB (xs ys : List S26) : Nat := xs.countP fun u => !foundI ys u
theorem lost_zero {xs ys : List S26} (h : ∀ u ∈ xs, u ∈ ys) : lostB xs ys = 0 := by
  unfold lostB
  rw [List.countP_eq_zero]
  intro u hu
  simp [(foundI_iff ys u).mpr (h u hu)]
theorem lost_mid {p q ys : List S26} {y : S26} (hp : ∀ u ∈ p, u ∈ ys) (hq : ∀ u ∈ q, u ∈ ys) : lostB (p ++ y :: q) ys = if foundI ys y then 0 else 1 := by
  have h1 := lost_zero hp
  have h2 := lost_zero hq
  unfold lostB at *
  rw [List.countP_append, List.countP_cons, h1, h2]
  cases foundI ys y <;> simp
theorem lost_le (xs ys : List S26) : lostB xs ys ≤ xs.length := List.countP_le_length

theorem stays_cases {xs : List S26} (hg : Good xs) (hl : xs.length ≤ 100) (k : Int) (x : S26) :
    (∃ c, c ≠ 0 ∧ applyB xs k x = (xs, c)) ∨
    ∃ ys, applyB xs k x = (ys, 0) ∧ Good ys ∧ ys.length ≤ 100 ∧ (∀ y ∈ ys, y ∈ xs ∨ y = x) ∧
      ((k = 20 ∧ lostB xs ys = 0 ∧ ys.length = xs.length + 1) ∨ (k = 21 ∧ lostB xs ys ≤ 1 ∧ ys.length = xs.length) ∨ (k = 22 ∧ lostB xs ys = 1 ∧ ys.length + 1 = xs.length)) := by
  rcases apply_cases hg hl k x with ⟨c, h0, h1⟩ | ⟨p, q, hk, hxs, hap, hgy, hlt⟩ | ⟨p, q, y, hk, hxs, hap, hgy⟩ | ⟨p, q, y, hk, hxs, hap, hgy⟩
  · exact .inl ⟨c, h0, h1⟩
  · refine .inr ⟨_, hap, hgy, ?_, ?_, .inl ⟨hk, ?_, ?_⟩⟩
    · rw [hxs] at hlt; simp at hlt ⊢; omega
    · intro y hy; rw [hxs]; simp at hy ⊢; rcases hy with h | h | h <;> simp [h]
    · rw [hxs]; exact lost_zero fun u hu => by simp at hu ⊢; rcases hu with h | h <;> simp [h]
    · rw [hxs]; simp; omega
  · refine .inr ⟨_, hap, hgy, ?_, ?_, .inr (.inl ⟨hk, ?_, ?_⟩)⟩
    · rw [hxs] at hl; simp at hl ⊢; omega
    · intro z hz; rw [hxs]; simp at hz ⊢; rcases hz with h | h | h <;> simp [h]
    · rw [hxs, lost_mid (fun u hu => by simp [hu]) (fun u hu => by simp [hu])]
      split <;> omega
    · rw [hxs]; simp
  · refine .inr ⟨_, hap, hgy, ?_, ?_, .inr (.inr ⟨hk, ?_, ?_⟩)⟩
    · rw [hxs] at hl; simp at hl ⊢; omega
    · intro z hz; rw [hxs]; simp at hz ⊢; rcases hz with h | h <;> simp [h]
    · rw [hxs, lost_mid (fun u hu => by simp [hu]) (fun u hu => by simp [hu])]
      have hno : foundI (p ++ q) y = false := by
        cases hf : foundI (p ++ q) y with
        | false => rfl
        | true =>
          exfalso
          rw [foundI_iff] at hf
          have ho := hg.ord
          rw [hxs, List.pairwise_append] at ho
          rcases List.mem_append.mp hf with h | h
          · exact LtI.irrefl y (ho.2.2 y h y (by simp))
          · exact LtI.irrefl y ((List.pairwise_cons.mp ho.2.1).1 y h)
      rw [hno]; rfl
    · rw [hxs]; simp; omega

theorem found_take (ys : List S26) (u : S26) (k : Nat) (hk : k < ys.length) : foundI (ys.take (k + 1)) u = (foundI (ys.take k) u || sameI ys[k] u) := by
  unfold foundI
  rw [List.take_succ_eq_append_getElem hk, List.any_append]
  simp
theorem lost_take (xs ys : List S26) (i : Nat) (hi : i < xs.length) : lostB (xs.take (i + 1)) ys = lostB (xs.take i) ys + (if foundI ys xs[i] then 0 else 1) := by
  unfold lostB
  rw [List.take_succ_eq_append_getElem hi, List.countP_append]
  cases h : foundI ys xs[i] <;> simp [h]

theorem items_all (xs : List S26) (h : Came xs) : ∃ b : Bool, (b = true → xs.length ≤ 120 ∧ ∀ x ∈ xs, x.f0.size + x.f4.size ≤ 12000) ∧
    ∀ (A : Option Addr) (c : Nat) w, xs.length ≤ c → Kd.C k26 w A xs.length xs → Calls Tryz.prog 6 #[.slice A xs.length c] w fun e w' => e = .returned (.bool b) ∧ Below w.heap.size w w' := by
  obtain ⟨b, h1, h2⟩ := items_from xs h xs.length 0 0 (by omega) (by omega) (by omega)
  refine ⟨b, fun e => ?_, fun A c w hcap hC => ?_⟩
  · obtain ⟨t1, _, t3⟩ := h2 e
    refine ⟨t1, fun x hx => ?_⟩
    obtain ⟨j, hj, rfl⟩ := List.getElem_of_mem hx
    have := t3 j (by omega) hj
    omega
  · refine Calls.mono (wharflaw17_items.calls (xs.length + 1) A c xs b w hC hcap ?_) fun e w' ⟨he, hd⟩ => ⟨he, hd.below⟩
    exact h1 _ (by omega)

end Go.Proofs.YtdfppdkhiejbdaaGreatDoor.Li

/- The timers in plain Lean: a heap in a list: what container/heap and timer.Timers do to it, and what stays. -/
set_option linter.unusedVariables false
set_option linter.unusedSimpArgs false
namespace Go.Proofs.Ytpofkfhpdokoeaa.Tm

structure Al where
  at_ : Int
  num : Int
  key : ByteArray

instance : Inhabited Al := ⟨⟨0, 0, ByteArray.empty⟩⟩

def less (a b : Al) : Bool := decide (a.at_ < b.at_) || (decide (a.at_ = b.at_) && decide (a.num < b.num))

def swapF (hs : List Al) (i j : Nat) : List Al :=
  match hs[i]?, hs[j]? with
  | some a, some b => (hs.set i b).set j a
  | _, _ => hs

theorem swapF_at {hs : List Al} {i j : Nat} (hi : i < hs.length) (hj : j < hs.length) : swapF hs i j = (hs.set i hs[j]).set j hs[i] := by
  unfold swapF; simp [hi, hj]

theorem swapF_perm (hs : List Al) (i j : Nat) : (swapF hs i j).Perm hs := by
  unfold swapF
  split
  · rename_i a b ha hb
    obtain ⟨hi, rfl⟩ := List.getElem?_eq_some_iff.1 ha
    obtain ⟨hj, rfl⟩ := List.getElem?_eq_some_iff.1 hb
    exact List.set_set_perm hi hj
  · exact List.Perm.refl _

theorem swapF_length (hs : List Al) (i j : Nat) : (swapF hs i j).length = hs.length := (swapF_perm hs i j).length_eq

def lessAt (hs : List Al) (i j : Nat) : Bool := less hs[i]! hs[j]!

def upF : Nat → List Al → Nat → List Al
  | 0, hs, _ => hs
  | f + 1, hs, j => if (j - 1) / 2 = j then hs else if lessAt hs j ((j - 1) / 2) then upF f (swapF hs ((j - 1) / 2) j) ((j - 1) / 2) else hs

theorem upF_perm : ∀ (f : Nat) (hs : List Al) (j : Nat), (upF f hs j).Perm hs
  | 0, hs, _ => List.Perm.refl _
  | f + 1, hs, j => by
    unfold upF
    split
    · exact List.Perm.refl _
    · split
      · exact (upF_perm f _ _).trans (swapF_perm _ _ _)
      · exact List.Perm.refl _

def child (hs : List Al) (i n : Nat) : Nat := if 2 * i + 1 + 1 < n then if lessAt hs (2 * i + 1 + 1) (2 * i + 1) then 2 * i + 1 + 1 else 2 * i + 1 else 2 * i + 1

def downF : Nat → List Al → Nat → Nat → List Al
  | 0, hs, _, _ => hs
  | f + 1, hs, i, n => if n ≤ 2 * i + 1 then hs else if lessAt hs (child hs i n) i then downF f (swapF hs i (child hs i n)) (child hs i n) n else hs

theorem child_lt {hs : List Al} {i n : Nat} (h : ¬ n ≤ 2 * i + 1) : child hs i n < n := by
  unfold child; split
  · split <;> omega
  · omega

theorem child_gt (hs : List Al) (i n : Nat) : i < child hs i n := by
  unfold child; split
  · split <;> omega
  · omega

theorem downF_perm : ∀ (f : Nat) (hs : List Al) (i n : Nat), (downF f hs i n).Perm hs
  | 0, hs, _, _ => List.Perm.refl _
  | f + 1, hs, i, n => by
    unfold downF
    split
    · exact List.Perm.refl _
    · split
      · exact (downF_perm f _ _ _).trans (swapF_perm _ _ _)
      · exact List.Perm.refl _

theorem swapF_last {hs : List Al} {i j k : Nat} (hi : i < k) (hj : j < k) : (swapF hs i j)[k]? = hs[k]? := by
  unfold swapF
  split
  · rw [List.getElem?_set_ne (by omega), List.getElem?_set_ne (by omega)]
  · rfl

theorem downF_last : ∀ (f : Nat) (hs : List Al) (i n k : Nat), n ≤ k → (downF f hs i n)[k]? = hs[k]?
  | 0, hs, _, _, _, _ => rfl
  | f + 1, hs, i, n, k, hk => by
    unfold downF
    split
    · rfl
    · split
      · rename_i h _
        have := child_lt (hs := hs) h
        have := child_gt hs i n
        rw [downF_last f _ _ _ _ hk, swapF_last (by omega) (by omega)]
      · rfl

def pushF (hs : List Al) (a : Al) : List Al := upF (hs.length + 1) (hs ++ [a]) hs.length

theorem pushF_perm (hs : List Al) (a : Al) : (pushF hs a).Perm (a :: hs) :=
  (upF_perm _ _ _).trans (by simp)

theorem pushF_length (hs : List Al) (a : Al) : (pushF hs a).length = hs.length + 1 := by simpa using (pushF_perm hs a).length_eq

/-- What heap.Pop leaves, with the one that goes at its end. -/
def popF (hs : List Al) : List Al := downF hs.length (swapF hs 0 (hs.length - 1)) 0 (hs.length - 1)

theorem popF_perm (hs : List Al) : (popF hs).Perm hs := (downF_perm _ _ _ _).trans (swapF_perm _ _ _)
theorem popF_length (hs : List Al) : (popF hs).length = hs.length := (popF_perm hs).length_eq

theorem popF_last {hs : List Al} (h : 0 < hs.length) : (popF hs)[hs.length - 1]? = hs[0]? := by
  unfold popF
  rw [downF_last _ _ _ _ _ (Nat.le_refl _), swapF_at h (by omega)]
  rw [List.getElem?_set_self (by simp; omega)]
  simp [h]

theorem popF_split {hs : List Al} {a : Al} (h : hs[0]? = some a) : popF hs = (popF hs).dropLast ++ [a] := by
  have h0 : 0 < hs.length := (List.getElem?_eq_some_iff.1 h).1
  have hne : popF hs ≠ [] := by intro e; have := popF_length hs; rw [e] at this; simp at this; omega
  have hl : (popF hs).getLast hne = a := by
    have := popF_last h0
    rw [h] at this
    rw [List.getLast_eq_getElem]
    have h2 := List.getElem?_eq_some_iff.1 this
    obtain ⟨h3, h4⟩ := h2
    simpa [popF_length] using h4
  rw [← hl]; exact (List.dropLast_concat_getLast hne).symm

theorem pop_perm {hs : List Al} {a : Al} (h : hs[0]? = some a) : (a :: (popF hs).dropLast).Perm hs := by
  have h1 := popF_perm hs
  rw [popF_split h] at h1
  exact (by have := (List.perm_append_comm (l₁ := [a]) (l₂ := (popF hs).dropLast)); simpa using this : (a :: (popF hs).dropLast).Perm ((popF hs).dropLast ++ [a])).trans h1

def initF : Nat → Nat → List Al → List Al
  | 0, _, hs => hs
  | i + 1, n, hs => initF i n (downF (n + 1) hs i n)

theorem initF_perm : ∀ (i n : Nat) (hs : List Al), (initF i n hs).Perm hs
  | 0, _, _ => List.Perm.refl _
  | i + 1, n, hs => (initF_perm i n _).trans (downF_perm _ _ _ _)

def keep (key : ByteArray) (hs : List Al) : List Al := hs.filter fun a => !(a.key.toList == key.toList)

def dropF (key : ByteArray) (hs : List Al) : List Al := initF ((keep key hs).length / 2) (keep key hs).length (keep key hs)

theorem dropF_perm (key : ByteArray) (hs : List Al) : (dropF key hs).Perm (keep key hs) := initF_perm _ _ _

/-- Due: the keys that are told, and what is left. -/
def dueF : Nat → Int → List Al → List ByteArray × List Al
  | 0, _, hs => ([], hs)
  | f + 1, now, hs => match hs[0]? with
    | none => ([], hs)
    | some a => if now < a.at_ then ([], hs) else (a.key :: (dueF f now (popF hs).dropLast).1, (dueF f now (popF hs).dropLast).2)

theorem due_perm : ∀ (f : Nat) (now : Int) (hs : List Al), ∃ l : List Al, (dueF f now hs).1 = l.map (·.key) ∧ (l ++ (dueF f now hs).2).Perm hs
  | 0, now, hs => ⟨[], rfl, List.Perm.refl _⟩
  | f + 1, now, hs => by
    unfold dueF
    split
    · exact ⟨[], rfl, List.Perm.refl _⟩
    · rename_i a ha
      split
      · exact ⟨[], rfl, List.Perm.refl _⟩
      · obtain ⟨l, h1, h2⟩ := due_perm f now (popF hs).dropLast
        exact ⟨a :: l, by simp [h1], (by simpa using h2.cons a : (a :: (l ++ _)).Perm _).trans (pop_perm ha)⟩

theorem due_length (f : Nat) (now : Int) (hs : List Al) : (dueF f now hs).1.length + (dueF f now hs).2.length = hs.length := by
  obtain ⟨l, h1, h2⟩ := due_perm f now hs
  have := h2.length_eq
  rw [h1]; simpa using this

theorem due_done : ∀ (f : Nat) (now : Int) (hs : List Al), hs.length ≤ f → ∀ a, (dueF f now hs).2[0]? = some a → now < a.at_
  | 0, now, hs, hl => by
    intro a ha
    have : hs = [] := List.eq_nil_of_length_eq_zero (by omega)
    subst this; simp [dueF] at ha
  | f + 1, now, hs, hl => by
    intro a ha
    unfold dueF at ha
    split at ha
    · rename_i h; rw [h] at ha; cases ha
    · rename_i b hb
      split at ha
      · rename_i h; rw [hb] at ha; cases ha; exact h
      · refine due_done f now _ ?_ a ha
        simp [popF_length]; omega

end Go.Proofs.Ytpofkfhpdokoeaa.Tm

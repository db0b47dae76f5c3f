/- Texts: bytes that are signs one behind the other, all of them plain; that the reference's Signs tells just these. Conditions: the text's size is one that Go has. -/
import Derived.Test.YtbbbggcokpffnaaUtfRef
import Derived.Test.YtbbbggcokpffnaaPShadex5
namespace Go.Proofs.Ytbbbggcokpffnaa.Pure
open Go.RowKit Go.Proofs.Ytbbbggcokpffnaa.Plain Go.Proofs.Ytbbbggcokpffnaa.Utf Go.Proofs.Ytbbbggcokpffnaa.PShade Go.Proofs.YtbbbggcokpffnaaW.PrintWords Go.Proofs.YtbbbggcokpffnaaW.PrintLast

def plainC (c : Nat) : Prop := c = 9 ∨ c = 10 ∨ c = 13 ∨ 32 ≤ c ∧ c ≠ 65534 ∧ c ≠ 65535
instance (c : Nat) : Decidable (plainC c) := by unfold plainC; infer_instance

theorem plain_is (c : Nat) : wharfref01_Plain.f (c : Int) = some (decide (plainC c)) := by
  unfold wharfref01_Plain.f
  by_cases h1 : c = 9
  · rw [if_pos (by omega), decide_eq_true (by unfold plainC; omega)]
  rw [if_neg (by omega)]
  by_cases h2 : c = 10
  · rw [if_pos (by omega), decide_eq_true (by unfold plainC; omega)]
  rw [if_neg (by omega)]
  by_cases h3 : c = 13
  · rw [if_pos (by omega), decide_eq_true (by unfold plainC; omega)]
  rw [if_neg (by omega)]
  by_cases h4 : 32 ≤ c
  · rw [if_pos (by omega)]
    by_cases h5 : c = 65534
    · rw [if_pos (by omega), decide_eq_false (by unfold plainC; omega)]
    · rw [if_neg (by omega)]
      congr 1
      rw [Bool.eq_iff_iff]
      simp only [bne_iff_ne, decide_eq_true_eq]
      unfold plainC; omega
  · rw [if_neg (by omega), decide_eq_false (by unfold plainC; omega)]

/-- A text's signs. -/
def signsL : Nat → List UInt8 → Option (List Nat)
  | 0, l => if l = [] then some [] else none
  | f + 1, l => if l = [] then some [] else match dec l with
    | none => none
    | some (c, n) => if plainC c then (signsL f (l.drop n)).map (c :: ·) else none

def bytesL (cs : List Nat) : List UInt8 := cs.flatMap encL
def okC (c : Nat) : Prop := good c ∧ plainC c

theorem signsL_some : ∀ (f : Nat) (l : List UInt8) (cs : List Nat), signsL f l = some cs → l = bytesL cs ∧ ∀ c ∈ cs, okC c
  | 0, l, cs, h => by
    unfold signsL at h
    split at h
    · rename_i hl
      obtain rfl := Option.some.inj h
      exact ⟨hl, fun c hc => by cases hc⟩
    · cases h
  | f + 1, l, cs, h => by
    unfold signsL at h
    split at h
    · rename_i hl
      obtain rfl := Option.some.inj h
      exact ⟨hl, fun c hc => by cases hc⟩
    · cases hd : dec l with
      | none => rw [hd] at h; cases h
      | some x =>
        obtain ⟨c, n⟩ := x
        rw [hd] at h
        simp only at h
        split at h
        · rename_i hp
          obtain ⟨hg, _, _, ht⟩ := dec_some hd
          cases hs : signsL f (l.drop n) with
          | none => rw [hs] at h; cases h
          | some cs' =>
            rw [hs] at h
            obtain rfl := Option.some.inj h
            obtain ⟨e, ho⟩ := signsL_some f _ _ hs
            refine ⟨?_, ?_⟩
            · rw [show bytesL (c :: cs') = encL c ++ bytesL cs' from rfl, ← e, ← ht, List.take_append_drop]
            · intro d hd'
              rcases List.mem_cons.1 hd' with rfl | hd'
              · exact ⟨hg, hp⟩
              · exact ho d hd'
        · cases h

theorem encL_ne (c : Nat) : encL c ≠ [] := fun h => by
  have := encL_length c
  have := encW_pos c
  rw [h] at *
  simp at *
  omega

theorem signsL_bytes : ∀ (cs : List Nat) (f : Nat), (∀ c ∈ cs, okC c) → (bytesL cs).length ≤ f → signsL f (bytesL cs) = some cs
  | [], f, _, _ => by cases f <;> rfl
  | c :: cs, f, ho, hf => by
    have hw := encW_pos c
    have hl := encL_length c
    have hb : (bytesL (c :: cs)).length = encW c + (bytesL cs).length := by
      rw [show bytesL (c :: cs) = encL c ++ bytesL cs from rfl, List.length_append, hl]
    obtain ⟨f, rfl⟩ : ∃ g, f = g + 1 := ⟨f - 1, by omega⟩
    have hoc := ho c (List.mem_cons_self ..)
    unfold signsL
    rw [if_neg (fun h => by rw [h] at hb; simp at hb; omega), show bytesL (c :: cs) = encL c ++ bytesL cs from rfl, dec_encL c _ hoc.1]
    simp only
    rw [if_pos hoc.2, show (encL c ++ bytesL cs).drop (encW c) = bytesL cs by rw [← hl]; simp, signsL_bytes cs f (fun d hd => ho d (List.mem_cons_of_mem _ hd)) (by omega)]
    rfl

def natInts (cs : List Nat) : List Int := cs.map fun (c : Nat) => (c : Int)

theorem signs_ref : ∀ (f k : Nat) (s : ByteArray) (acc : List Nat), s.size ≤ f → f + 10 ≤ k → acc.length + s.size < 17592186044416 →
    wharfref01_Signs.l0 k s (natInts acc) = some (match signsL f s.data.toList with | some cs => (natInts (acc ++ cs), true) | none => ([], false)) := by
  intro f
  induction f with
  | zero =>
    intro k s acc hs hk ha
    obtain ⟨k, rfl⟩ : ∃ m, k = m + 1 := ⟨k - 1, by omega⟩
    have hl : s.data.toList = [] := List.length_eq_zero_iff.1 (by have := size_list s; omega)
    simp only [wharfref01_Signs.l0]
    rw [if_pos (by rw [ByteArray.toList_eq]; exact hl), hl]
    simp [signsL]
  | succ f ih =>
    intro k s acc hs hk ha
    obtain ⟨k, rfl⟩ : ∃ m, k = m + 1 := ⟨k - 1, by omega⟩
    have hsz := size_list s
    simp only [wharfref01_Signs.l0]
    by_cases hl : s.data.toList = []
    · rw [if_pos (by rw [ByteArray.toList_eq]; exact hl), hl]
      simp [signsL]
    have hpos : 0 < s.size := by
      rcases Nat.eq_zero_or_pos s.size with h | h
      · exact absurd (List.length_eq_zero_iff.1 (by omega)) hl
      · exact h
    rw [if_neg (by rw [ByteArray.toList_eq]; exact hl)]
    obtain ⟨j, rfl⟩ : ∃ j, k = j + 8 := ⟨k - 8, by omega⟩
    rw [first_is]
    simp only [Option.bind_some]
    unfold signsL
    rw [if_neg hl]
    cases hd : dec s.data.toList with
    | none => rw [gfL_none hd]; rfl
    | some x =>
      obtain ⟨c, n⟩ := x
      obtain ⟨hg, hn2, hle, ht⟩ := dec_some hd
      have hw := encW_pos c
      rw [gfL_some hd]
      simp only [if_true]
      rw [plain_is]
      simp only [Option.bind_some]
      by_cases hp : plainC c
      · have hx := size_list (s.extract n s.size)
        rw [Lib.extract_to_end, List.length_drop] at hx
        have hacc : natInts acc ++ [(c : Int)] = natInts (acc ++ [c]) := by simp [natInts]
        have hal : (natInts acc).length = acc.length := by simp [natInts]
        rw [decide_eq_true hp, if_pos rfl, if_pos (by omega), if_pos (by omega), if_pos (by omega), Int.toNat_natCast, hacc, ih _ _ _ (by omega) (by omega) (by rw [List.length_append]; simp; omega), Lib.extract_to_end, if_pos hp]
        cases signsL f (s.data.toList.drop n) with
        | none => rfl
        | some cs => simp
      · rw [decide_eq_false hp, if_neg (by decide), if_neg hp]

/-- The reference's Signs, whole. -/
theorem signs_is (k : Nat) (s : ByteArray) (hs : s.size < 17592186044416) (hk : s.size + 10 ≤ k) :
    wharfref01_Signs.f k s = some (match signsL s.size s.data.toList with | some cs => (natInts cs, true) | none => ([], false)) := by
  unfold wharfref01_Signs.f
  exact signs_ref s.size k s [] (Nat.le_refl _) hk (by simpa using hs)

end Go.Proofs.Ytbbbggcokpffnaa.Pure

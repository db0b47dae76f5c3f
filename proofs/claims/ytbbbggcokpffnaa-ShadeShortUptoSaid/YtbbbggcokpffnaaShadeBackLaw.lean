/- Plain laws of shade's texts: what is written while there is room, and that it is read back. Conditions: texts whose signs are plain. -/
import Derived.Test.YtbbbggcokpffnaaTexts
import Derived.Test.YtbbbggcokpffnaaShadeHtml
namespace Go.Proofs.Ytbbbggcokpffnaa.Pure
open Go.RowKit Go.Proofs.Ytbbbggcokpffnaa.Plain Go.Proofs.Ytbbbggcokpffnaa.Utf Go.Proofs.Ytbbbggcokpffnaa.PShade Go.Proofs.YtbbbggcokpffnaaW.PrintWords Go.Proofs.YtbbbggcokpffnaaW.PrintLast

/-- The signs for which there is room, n bytes being there. -/
def gr (most : Int) : Nat → List Nat → List Nat
  | _, [] => []
  | n, c :: cs => if wrap64 (most - (n : Int)) < ((writtenL c).length : Int) then [] else c :: gr most (n + (writtenL c).length) cs

def writeAll (cs : List Nat) : List UInt8 := cs.flatMap writtenL

theorem toHtmlL_gr (most : Int) : ∀ (cs : List Nat) (f : Nat) (acc : List UInt8), (∀ c ∈ cs, okC c) → (bytesL cs).length ≤ f →
    toHtmlL most f (bytesL cs) acc = acc ++ writeAll (gr most acc.length cs)
  | [], f, acc, _, _ => by
    cases f with
    | zero => simp [toHtmlL, gr, writeAll]
    | succ f => simp [toHtmlL, gr, writeAll, bytesL]
  | c :: cs, f, acc, ho, hf => by
    have hw := encW_pos c
    have hl := encL_length c
    have hb : (bytesL (c :: cs)).length = encW c + (bytesL cs).length := by
      rw [show bytesL (c :: cs) = encL c ++ bytesL cs from rfl, List.length_append, hl]
    obtain ⟨f, rfl⟩ : ∃ g, f = g + 1 := ⟨f - 1, by omega⟩
    have hoc := ho c (List.mem_cons_self ..)
    unfold toHtmlL
    rw [if_neg (fun h => by rw [h] at hb; simp at hb; omega), show bytesL (c :: cs) = encL c ++ bytesL cs from rfl, dec_encL c _ hoc.1]
    simp only
    unfold gr
    by_cases h : wrap64 (most - (acc.length : Int)) < ((writtenL c).length : Int)
    · rw [if_pos h, if_pos h]; simp [writeAll]
    · rw [if_neg h, if_neg h, show (encL c ++ bytesL cs).drop (encW c) = bytesL cs by rw [← hl]; simp, toHtmlL_gr most cs f _ (fun d hd => ho d (List.mem_cons_of_mem _ hd)) (by omega), List.length_append]
      rw [show writeAll (c :: gr most (acc.length + (writtenL c).length) cs) = writtenL c ++ writeAll (gr most (acc.length + (writtenL c).length) cs) from rfl, List.append_assoc]

theorem toHtml_text (s : ByteArray) (most : Int) (cs : List Nat) (hl : s.data.toList = bytesL cs) (ho : ∀ c ∈ cs, okC c) : toHtml s most = writeAll (gr most 0 cs) := by
  rw [toHtml_L, hl, toHtmlL_gr most cs _ _ ho (by rw [← hl, size_list]; exact Nat.le_refl _)]
  rfl

theorem writeAll_le (cs : List Nat) : (writeAll cs).length ≤ 6 * (bytesL cs).length := by
  induction cs with
  | nil => simp [writeAll]
  | cons c cs ih =>
    have h1 := writtenL_le c
    have h2 := encW_pos c
    have h3 := encL_length c
    rw [show writeAll (c :: cs) = writtenL c ++ writeAll cs from rfl, show bytesL (c :: cs) = encL c ++ bytesL cs from rfl, List.length_append, List.length_append]
    omega

theorem gr_all (most : Int) : ∀ (cs : List Nat) (n : Nat), most ≤ 9000000000000000000 → (n : Int) + (writeAll cs).length ≤ most → gr most n cs = cs
  | [], _, _, _ => rfl
  | c :: cs, n, hm, h => by
    rw [show writeAll (c :: cs) = writtenL c ++ writeAll cs from rfl, List.length_append] at h
    unfold gr
    rw [w64 (by omega) (by omega), if_neg (by omega), gr_all most cs (n + (writtenL c).length) hm (by omega)]

theorem gr_le (most : Int) : ∀ (cs : List Nat) (n : Nat), (n : Int) ≤ most → most ≤ 9000000000000000000 → (n : Int) + (writeAll (gr most n cs)).length ≤ most
  | [], n, h, _ => by simpa [gr, writeAll] using h
  | c :: cs, n, h, hm => by
    unfold gr
    rw [w64 (by omega) (by omega)]
    by_cases hc : most - (n : Int) < ((writtenL c).length : Int)
    · rw [if_pos hc]; simpa [writeAll] using h
    · rw [if_neg hc]
      have := gr_le most cs (n + (writtenL c).length) (by omega) hm
      rw [show writeAll (c :: gr most (n + (writtenL c).length) cs) = writtenL c ++ writeAll (gr most (n + (writtenL c).length) cs) from rfl, List.length_append]
      omega

theorem gr_more (most more : Int) (h0 : 0 ≤ more) (hmm : most + more ≤ 9000000000000000000) : ∀ (cs : List Nat) (n : Nat), (n : Int) ≤ most → ∃ t, gr (most + more) n cs = gr most n cs ++ t
  | [], _, _ => ⟨[], rfl⟩
  | c :: cs, n, h => by
    unfold gr
    rw [w64 (by omega) (by omega), w64 (by omega) (by omega)]
    by_cases hc : most - (n : Int) < ((writtenL c).length : Int)
    · rw [if_pos hc]; exact ⟨_, rfl⟩
    · rw [if_neg hc, if_neg (by omega)]
      obtain ⟨t, ht⟩ := gr_more most more h0 hmm cs (n + (writtenL c).length) (by omega)
      exact ⟨t, by rw [ht]; rfl⟩

theorem gr_prefix (most : Int) : ∀ (cs : List Nat) (n : Nat), ∃ t, cs = gr most n cs ++ t
  | [], _ => ⟨[], rfl⟩
  | c :: cs, n => by
    unfold gr
    by_cases hc : wrap64 (most - (n : Int)) < ((writtenL c).length : Int)
    · rw [if_pos hc]; exact ⟨_, rfl⟩
    · rw [if_neg hc]
      obtain ⟨t, ht⟩ := gr_prefix most cs (n + (writtenL c).length)
      exact ⟨t, by rw [List.cons_append, ← ht]⟩

/-! ### Read back -/
theorem plain_byte (f : Nat) (b : UInt8) (r : List UInt8) (h1 : b ≠ 60) (h2 : b ≠ 38) : fromHtmlL (f + 1) (b :: r) = b :: fromHtmlL f r := by
  have hp : ∀ p : List UInt8, Lib.hasPrefix (b :: r) (38 :: p) = true → False := by
    intro p h
    unfold Lib.hasPrefix at h
    rw [List.isPrefixOf_iff_prefix] at h
    exact h2 (List.cons_prefix_cons.1 h).1.symm
  have he : entityOf (b :: r) = (0, 0) := by
    unfold entityOf
    rw [if_neg (fun h => hp _ h), if_neg (fun h => hp _ h), if_neg (fun h => hp _ h), if_neg (fun h => hp _ h), if_neg (fun h => hp _ h)]
  rw [fromHtmlL, if_neg (fun h => h1 h.1), he, if_neg (by decide)]

theorem plain_bytes : ∀ (bs : List UInt8) (f : Nat) (r : List UInt8), (∀ b ∈ bs, b ≠ 60 ∧ b ≠ 38) → fromHtmlL (f + bs.length) (bs ++ r) = bs ++ fromHtmlL f r
  | [], _, _, _ => rfl
  | b :: bs, f, r, h => by
    have hb := h b (List.mem_cons_self ..)
    rw [List.length_cons, ← Nat.add_assoc, List.cons_append, plain_byte _ b _ hb.1 hb.2, plain_bytes bs f r (fun x hx => h x (List.mem_cons_of_mem _ hx))]
    rfl

theorem encL_plain (c : Nat) (hg : good c) (h1 : c ≠ 60) (h2 : c ≠ 38) : ∀ b ∈ encL c, b ≠ 60 ∧ b ≠ 38 := by
  have one : ∀ n, n < 256 → n ≠ 60 → n ≠ 38 → UInt8.ofNat n ≠ 60 ∧ UInt8.ofNat n ≠ 38 := by
    intro n hn a b
    have ht : (UInt8.ofNat n).toNat = n := by simp; omega
    exact ⟨fun e => a (by rw [← ht, e]; rfl), fun e => b (by rw [← ht, e]; rfl)⟩
  intro b hb
  unfold encL at hb
  have hc : c ≤ 1114111 := by unfold good at hg; omega
  split at hb
  · rcases List.mem_singleton.1 hb with rfl
    exact one c (by omega) h1 h2
  · split at hb
    · simp only [List.mem_cons, List.not_mem_nil, or_false] at hb
      rcases hb with rfl | rfl
      · exact one _ (by omega) (by omega) (by omega)
      · exact one _ (by omega) (by omega) (by omega)
    · split at hb
      · simp only [List.mem_cons, List.not_mem_nil, or_false] at hb
        rcases hb with rfl | rfl | rfl
        · exact one _ (by omega) (by omega) (by omega)
        · exact one _ (by omega) (by omega) (by omega)
        · exact one _ (by omega) (by omega) (by omega)
      · simp only [List.mem_cons, List.not_mem_nil, or_false] at hb
        rcases hb with rfl | rfl | rfl | rfl
        · exact one _ (by omega) (by omega) (by omega)
        · exact one _ (by omega) (by omega) (by omega)
        · exact one _ (by omega) (by omega) (by omega)
        · exact one _ (by omega) (by omega) (by omega)

theorem writtenL_other (c : Nat) (hg : good c) (h1 : c ≠ 38) (h2 : c ≠ 60) (h3 : c ≠ 62) (h4 : c ≠ 34) (h5 : c ≠ 10) : writtenL c = encL c := by
  unfold writtenL writtenS
  rw [if_neg h1, if_neg h2, if_neg h3, if_neg h4, if_neg h5, encode_encL c hg]

/-- A mark at the front is read. -/
theorem mark_read (f : Nat) (r p : List UInt8) (b n : Int) (hn : 0 < n) (he : entityOf (38 :: p ++ r) = (b, n)) (hl : n.toNat = p.length + 1) :
    fromHtmlL (f + 1) (38 :: p ++ r) = UInt8.ofNat b.toNat :: fromHtmlL f r := by
  rw [List.cons_append] at he ⊢
  rw [fromHtmlL, if_neg (fun h => absurd h.1 (by decide)), he, if_pos hn, hl]
  rw [List.drop_succ_cons, List.drop_left]

theorem read_back : ∀ (cs : List Nat) (f : Nat), (∀ c ∈ cs, okC c) → (writeAll cs).length ≤ f → fromHtmlL f (writeAll cs) = bytesL cs
  | [], f, _, _ => by cases f <;> rfl
  | c :: cs, f, ho, hf => by
    have hoc := ho c (List.mem_cons_self ..)
    have hrest := fun g hg => read_back cs g (fun d hd => ho d (List.mem_cons_of_mem _ hd)) hg
    have hw := writtenL_le c
    rw [show writeAll (c :: cs) = writtenL c ++ writeAll cs from rfl, List.length_append] at hf
    rw [show writeAll (c :: cs) = writtenL c ++ writeAll cs from rfl, show bytesL (c :: cs) = encL c ++ bytesL cs from rfl]
    obtain ⟨f, rfl⟩ : ∃ g, f = g + 1 := ⟨f - 1, by omega⟩
    by_cases h1 : c = 38
    · subst h1
      have hp : Lib.hasPrefix ((38 : UInt8) :: [97, 109, 112, 59] ++ writeAll cs) [38, 97, 109, 112, 59] = true := by
        unfold Lib.hasPrefix; rw [List.isPrefixOf_iff_prefix]; exact ⟨_, rfl⟩
      rw [show writtenL 38 = (38 : UInt8) :: [97, 109, 112, 59] from rfl, mark_read f (writeAll cs) [97, 109, 112, 59] 38 5 (by decide) (by unfold entityOf; rw [if_pos hp]) rfl, hrest f (by omega)]
      rfl
    by_cases h2 : c = 60
    · subst h2
      have hp : Lib.hasPrefix ((38 : UInt8) :: [108, 116, 59] ++ writeAll cs) [38, 108, 116, 59] = true := by
        unfold Lib.hasPrefix; rw [List.isPrefixOf_iff_prefix]; exact ⟨_, rfl⟩
      have q0 : ¬ Lib.hasPrefix ((38 : UInt8) :: [108, 116, 59] ++ writeAll cs) [38, 97, 109, 112, 59] = true := by
        unfold Lib.hasPrefix; simp [List.isPrefixOf]
      rw [show writtenL 60 = (38 : UInt8) :: [108, 116, 59] from rfl, mark_read f (writeAll cs) [108, 116, 59] 60 4 (by decide) (by unfold entityOf; rw [if_neg q0, if_pos hp]) rfl, hrest f (by omega)]
      rfl
    by_cases h3 : c = 62
    · subst h3
      have hp : Lib.hasPrefix ((38 : UInt8) :: [103, 116, 59] ++ writeAll cs) [38, 103, 116, 59] = true := by
        unfold Lib.hasPrefix; rw [List.isPrefixOf_iff_prefix]; exact ⟨_, rfl⟩
      have q0 : ¬ Lib.hasPrefix ((38 : UInt8) :: [103, 116, 59] ++ writeAll cs) [38, 97, 109, 112, 59] = true := by
        unfold Lib.hasPrefix; simp [List.isPrefixOf]
      have q1 : ¬ Lib.hasPrefix ((38 : UInt8) :: [103, 116, 59] ++ writeAll cs) [38, 108, 116, 59] = true := by
        unfold Lib.hasPrefix; simp [List.isPrefixOf]
      rw [show writtenL 62 = (38 : UInt8) :: [103, 116, 59] from rfl, mark_read f (writeAll cs) [103, 116, 59] 62 4 (by decide) (by unfold entityOf; rw [if_neg q0, if_neg q1, if_pos hp]) rfl, hrest f (by omega)]
      rfl
    by_cases h4 : c = 34
    · subst h4
      have hp : Lib.hasPrefix ((38 : UInt8) :: [113, 117, 111, 116, 59] ++ writeAll cs) [38, 113, 117, 111, 116, 59] = true := by
        unfold Lib.hasPrefix; rw [List.isPrefixOf_iff_prefix]; exact ⟨_, rfl⟩
      have q0 : ¬ Lib.hasPrefix ((38 : UInt8) :: [113, 117, 111, 116, 59] ++ writeAll cs) [38, 97, 109, 112, 59] = true := by
        unfold Lib.hasPrefix; simp [List.isPrefixOf]
      have q1 : ¬ Lib.hasPrefix ((38 : UInt8) :: [113, 117, 111, 116, 59] ++ writeAll cs) [38, 108, 116, 59] = true := by
        unfold Lib.hasPrefix; simp [List.isPrefixOf]
      have q2 : ¬ Lib.hasPrefix ((38 : UInt8) :: [113, 117, 111, 116, 59] ++ writeAll cs) [38, 103, 116, 59] = true := by
        unfold Lib.hasPrefix; simp [List.isPrefixOf]
      rw [show writtenL 34 = (38 : UInt8) :: [113, 117, 111, 116, 59] from rfl, mark_read f (writeAll cs) [113, 117, 111, 116, 59] 34 6 (by decide) (by unfold entityOf; rw [if_neg q0, if_neg q1, if_neg q2, if_pos hp]) rfl, hrest f (by omega)]
      rfl
    by_cases h5 : c = 10
    · subst h5
      rw [show writtenL 10 = ([60, 66, 82, 62] : List UInt8) from rfl]
      have hix : Lib.indexByte ((66 : UInt8) :: 82 :: 62 :: writeAll cs) 62 = 2 := rfl
      show fromHtmlL (f + 1) (60 :: (66 :: 82 :: 62 :: writeAll cs)) = _
      rw [fromHtmlL, if_pos ⟨rfl, by rw [hix]; decide⟩, hix, if_pos (by left; rfl), show ((2 : Int).toNat + 1) = 3 from rfl]
      show [10] ++ fromHtmlL f (writeAll cs) = _
      rw [hrest f (by omega)]
      rfl
    rw [writtenL_other c hoc.1 h1 h2 h3 h4 h5] at hf ⊢
    obtain ⟨g, hg⟩ : ∃ g, f + 1 = g + (encL c).length := ⟨f + 1 - (encL c).length, by omega⟩
    rw [hg, plain_bytes _ _ _ (encL_plain c hoc.1 h2 h1), hrest g (by omega)]

/-! ### What is written is a text, and its tags are whole -/
/-- The signs that stand for a sign. -/
def wsigns (c : Nat) : List Nat :=
  if c = 38 then [38, 97, 109, 112, 59] else if c = 60 then [38, 108, 116, 59] else if c = 62 then [38, 103, 116, 59]
  else if c = 34 then [38, 113, 117, 111, 116, 59] else if c = 10 then [60, 66, 82, 62] else [c]

theorem wsigns_ok (c : Nat) (h : okC c) : (∀ d ∈ wsigns c, okC d) ∧ bytesL (wsigns c) = writtenL c := by
  unfold wsigns writtenL writtenS
  split
  · exact ⟨by unfold okC; decide, rfl⟩
  · split
    · exact ⟨by unfold okC; decide, rfl⟩
    · split
      · exact ⟨by unfold okC; decide, rfl⟩
      · split
        · exact ⟨by unfold okC; decide, rfl⟩
        · split
          · exact ⟨by unfold okC; decide, rfl⟩
          · refine ⟨fun d hd => by rcases List.mem_singleton.1 hd with rfl; exact h, ?_⟩
            rw [encode_encL c h.1]
            simp [bytesL]

theorem write_text (cs : List Nat) (h : ∀ c ∈ cs, okC c) : ∃ ds, writeAll cs = bytesL ds ∧ ∀ d ∈ ds, okC d := by
  induction cs with
  | nil => exact ⟨[], rfl, fun _ h => by cases h⟩
  | cons c cs ih =>
    obtain ⟨ds, e, ho⟩ := ih (fun d hd => h d (List.mem_cons_of_mem _ hd))
    obtain ⟨h1, h2⟩ := wsigns_ok c (h c (List.mem_cons_self ..))
    refine ⟨wsigns c ++ ds, ?_, ?_⟩
    · rw [show writeAll (c :: cs) = writtenL c ++ writeAll cs from rfl, e, ← h2]
      simp [bytesL]
    · intro d hd
      rcases List.mem_append.1 hd with hd | hd
      · exact h1 d hd
      · exact ho d hd

theorem tags_whole : ∀ (cs : List Nat) (i : Nat), (∀ c ∈ cs, okC c) → (writeAll cs)[i]? = some 60 → ((writeAll cs).drop i).take 4 = [60, 66, 82, 62]
  | [], i, _, h => by simp [writeAll] at h
  | c :: cs, i, ho, h => by
    have hoc := ho c (List.mem_cons_self ..)
    rw [show writeAll (c :: cs) = writtenL c ++ writeAll cs from rfl] at h ⊢
    rcases Nat.lt_or_ge i (writtenL c).length with hi | hi
    · rw [List.getElem?_append_left hi] at h
      by_cases h5 : c = 10
      · subst h5
        have hi' : i < 4 := hi
        have h' : ([60, 66, 82, 62] : List UInt8)[i]? = some 60 := h
        rcases (by omega : i = 0 ∨ i = 1 ∨ i = 2 ∨ i = 3) with rfl | rfl | rfl | rfl
        · rfl
        · exact absurd h' (by decide)
        · exact absurd h' (by decide)
        · exact absurd h' (by decide)
      · exfalso
        have hmem : (60 : UInt8) ∈ writtenL c := List.mem_of_getElem? h
        by_cases g1 : c = 38
        · subst g1; revert hmem; show ¬ ((60 : UInt8) ∈ ([38, 97, 109, 112, 59] : List UInt8)); decide
        by_cases g2 : c = 60
        · subst g2; revert hmem; show ¬ ((60 : UInt8) ∈ ([38, 108, 116, 59] : List UInt8)); decide
        by_cases g3 : c = 62
        · subst g3; revert hmem; show ¬ ((60 : UInt8) ∈ ([38, 103, 116, 59] : List UInt8)); decide
        by_cases g4 : c = 34
        · subst g4; revert hmem; show ¬ ((60 : UInt8) ∈ ([38, 113, 117, 111, 116, 59] : List UInt8)); decide
        rw [writtenL_other c hoc.1 g1 g2 g3 g4 h5] at hmem
        exact (encL_plain c hoc.1 g2 g1 60 hmem).1 rfl
    · rw [List.getElem?_append_right hi] at h
      have := tags_whole cs (i - (writtenL c).length) (fun d hd => ho d (List.mem_cons_of_mem _ hd)) h
      rw [show (writtenL c ++ writeAll cs).drop i = (writeAll cs).drop (i - (writtenL c).length) by rw [List.drop_append, List.drop_eq_nil_of_le hi, List.nil_append]]
      exact this

end Go.Proofs.Ytbbbggcokpffnaa.Pure

/- Unlike elements have unlike texts: plain Lean. -/
import Derived.Test.YtaidgkmacpiajaaTgElem
import Derived.Test.YtaidgkmacpiajaaTgSame
set_option linter.unusedVariables false
set_option linter.unusedSimpArgs false
namespace Go.Proofs.Ytaidgkmacpiajaa.Tg
open Go.RowKit Go.Proofs.Ytaidgkmacpiajaa.Plain Go.Proofs.Ytaidgkmacpiajaa.PTag Go.Proofs.YtaidgkmacpiajaaW.PrintWords

theorem bl_inj {a b : ByteArray} (h : bl a = bl b) : a = b := by
  obtain ⟨⟨a⟩⟩ := a; obtain ⟨⟨b⟩⟩ := b
  unfold bl at h
  simp at h
  rw [h]

theorem span_inj {p : UInt8 → Bool} : ∀ {a b : List UInt8} {c d : UInt8} {x y : List UInt8}, (∀ u ∈ a, p u = true) → (∀ u ∈ b, p u = true) → p c = false → p d = false → a ++ c :: x = b ++ d :: y → a = b ∧ c :: x = d :: y
  | [], [], _, _, _, _, _, _, _, _, h => ⟨rfl, h⟩
  | [], u :: b, c, _, _, _, _, hb, hc, _, h => by
    simp at h
    have := hb u (by simp)
    rw [← h.1, hc] at this
    cases this
  | u :: a, [], _, d, _, _, ha, _, _, hd, h => by
    simp at h
    have := ha u (by simp)
    rw [h.1, hd] at this
    cases this
  | u :: a, v :: b, c, d, x, y, ha, hb, hc, hd, h => by
    simp only [List.cons_append, List.cons.injEq] at h
    obtain ⟨h1, h2⟩ := span_inj (fun w hw => ha w (List.mem_cons_of_mem _ hw)) (fun w hw => hb w (List.mem_cons_of_mem _ hw)) hc hd h.2
    exact ⟨by rw [h.1, h1], h2⟩

theorem quote1_cases (c : UInt8) : (quote1 c = [c] ∧ c ≠ 38) ∨ c = 38 ∨ c = 60 ∨ c = 62 ∨ c = 39 ∨ c = 34 ∨ c = 9 ∨ c = 10 ∨ c = 13 :=
  byte_all (p := fun c => (quote1 c = [c] ∧ c ≠ 38) ∨ c = 38 ∨ c = 60 ∨ c = 62 ∨ c = 39 ∨ c = 34 ∨ c = 9 ∨ c = 10 ∨ c = 13) (by decide +kernel) c

theorem q38 : quote1 38 = [38, 97, 109, 112, 59] := by decide
theorem q60 : quote1 60 = [38, 108, 116, 59] := by decide
theorem q62 : quote1 62 = [38, 103, 116, 59] := by decide
theorem q39 : quote1 39 = [38, 97, 112, 111, 115, 59] := by decide
theorem q34 : quote1 34 = [38, 113, 117, 111, 116, 59] := by decide
theorem q9 : quote1 9 = [38, 35, 120, 57, 59] := by decide
theorem q10 : quote1 10 = [38, 35, 120, 65, 59] := by decide
theorem q13 : quote1 13 = [38, 35, 120, 68, 59] := by decide

theorem quote1_inj {c d : UInt8} {x y : List UInt8} (h : quote1 c ++ x = quote1 d ++ y) : c = d ∧ x = y := by
  rcases quote1_cases c with ⟨h1, h2⟩ | rfl | rfl | rfl | rfl | rfl | rfl | rfl | rfl <;>
  rcases quote1_cases d with ⟨h3, h4⟩ | rfl | rfl | rfl | rfl | rfl | rfl | rfl | rfl <;>
  simp_all [q38, q60, q62, q39, q34, q9, q10, q13]

theorem quote1_ne (c : UInt8) : quote1 c ≠ [] := by
  have := (quote1_size c).1
  intro h; rw [h] at this; simp at this

theorem quoteL_inj : ∀ {a b : List UInt8}, quoteL a = quoteL b → a = b
  | [], [], _ => rfl
  | [], d :: b, h => by
    have := quote1_ne d
    simp [quoteL] at h
    exact absurd h.1 this
  | c :: a, [], h => by
    have := quote1_ne c
    simp [quoteL] at h
    exact absurd h.1 this
  | c :: a, d :: b, h => by
    have h' : quote1 c ++ quoteL a = quote1 d ++ quoteL b := by simpa [quoteL] using h
    obtain ⟨h1, h2⟩ := quote1_inj h'
    rw [h1, quoteL_inj h2]

theorem quote1_no (c : UInt8) : ∀ x ∈ quote1 c, (x != 60) = true ∧ (x != 39) = true :=
  byte_all (p := fun c => ∀ x ∈ quote1 c, (x != 60) = true ∧ (x != 39) = true) (by decide +kernel) c
theorem quoteL_no (l : List UInt8) : ∀ x ∈ quoteL l, (x != 60) = true ∧ (x != 39) = true := by
  intro x hx
  unfold quoteL at hx
  rw [List.mem_flatMap] at hx
  obtain ⟨c, _, hc⟩ := hx
  exact quote1_no c x hc

/-- What may stand in an attribute's name. -/
def pn (c : UInt8) : Bool := okb c || c == 58

theorem pn61 : pn 61 = false := by decide +kernel
theorem attr_inj {n n' v v' x y : List UInt8} (hn : ∀ u ∈ n, pn u = true) (hn' : ∀ u ∈ n', pn u = true) (h : attrL n v ++ x = attrL n' v' ++ y) : n = n' ∧ v = v' ∧ x = y := by
  have h' : n ++ 61 :: (39 :: (quoteL v ++ 39 :: x)) = n' ++ 61 :: (39 :: (quoteL v' ++ 39 :: y)) := by simpa [attrL] using h
  obtain ⟨h1, h2⟩ := span_inj hn hn' pn61 pn61 h'
  simp only [List.cons.injEq, true_and] at h2
  obtain ⟨h3, h4⟩ := span_inj (p := (· != 39)) (fun u hu => (quoteL_no v u hu).2) (fun u hu => (quoteL_no v' u hu).2) (by decide) (by decide) h2
  exact ⟨h1, quoteL_inj h3, by simpa using h4⟩

/-- Attributes, as pairs. -/
def flat (l : List (List UInt8 × List UInt8)) : List UInt8 := l.flatMap fun a => attrL a.1 a.2
theorem attrL_head (n v : List UInt8) : ∃ t, attrL n v = 32 :: t := ⟨_, by simp only [attrL, List.cons_append, List.nil_append, List.append_assoc]; rfl⟩
theorem flat_inj : ∀ {l l' : List (List UInt8 × List UInt8)} {c d : UInt8} {x y : List UInt8}, (∀ a ∈ l, ∀ u ∈ a.1, pn u = true) → (∀ a ∈ l', ∀ u ∈ a.1, pn u = true) → c ≠ 32 → d ≠ 32 → flat l ++ c :: x = flat l' ++ d :: y → l = l' ∧ c :: x = d :: y
  | [], [], _, _, _, _, _, _, _, _, h => ⟨rfl, h⟩
  | [], b :: t, c, _, _, _, _, _, hc, _, h => by
    obtain ⟨s, hs⟩ := attrL_head b.1 b.2
    simp [flat, hs] at h
    exact absurd h.1 hc
  | a :: t, [], _, d, _, _, _, _, _, hd, h => by
    obtain ⟨s, hs⟩ := attrL_head a.1 a.2
    simp [flat, hs] at h
    exact absurd h.1.symm hd
  | a :: t, b :: u, c, d, x, y, ha, hb, hc, hd, h => by
    have h' : attrL a.1 a.2 ++ (flat t ++ c :: x) = attrL b.1 b.2 ++ (flat u ++ d :: y) := by simpa [flat] using h
    obtain ⟨h1, h2, h3⟩ := attr_inj (ha a (by simp)) (hb b (by simp)) h'
    obtain ⟨h4, h5⟩ := flat_inj (fun z hz => ha z (List.mem_cons_of_mem _ hz)) (fun z hz => hb z (List.mem_cons_of_mem _ hz)) hc hd h3
    exact ⟨by rw [h4, Prod.ext h1 h2], h5⟩

def pairs (l : List S51) : List (List UInt8 × List UInt8) := l.map fun a => (bl a.f0, bl a.f1)
theorem attrsT_flat (l : List S51) : attrsT l = flat (pairs l) := by
  unfold attrsT flat pairs
  rw [List.flatMap_map]
  rfl
theorem pairs_inj : ∀ {l m : List S51}, pairs l = pairs m → l = m
  | [], [], _ => rfl
  | [], _ :: _, h => by simp [pairs] at h
  | _ :: _, [], h => by simp [pairs] at h
  | a :: t, b :: u, h => by
    simp only [pairs, List.map_cons, List.cons.injEq, Prod.mk.injEq] at h
    obtain ⟨⟨h1, h2⟩, h3⟩ := h
    have e : a = b := by cases a; cases b; simp at h1 h2; rw [bl_inj h1, bl_inj h2]
    rw [e, pairs_inj (l := t) (m := u) h3]

theorem attrsB_true : ∀ {l : List S51} {seen : List (List UInt8)}, attrsB seen l = true → ∀ a ∈ l, ¬ bl a.f0 ∈ seen ∧ (bl a.f0 = xmlLang ∨ nameB a.f0 = true)
  | [], _, _, a, ha => by cases ha
  | b :: t, seen, h, a, ha => by
    rw [attrsB] at h
    split at h
    · cases h
    · rename_i hs
      split at h
      · rename_i hn
        split at h
        · rcases List.mem_cons.1 ha with rfl | ha
          · exact ⟨hs, hn⟩
          · obtain ⟨h1, h2⟩ := attrsB_true h a ha
            exact ⟨fun h3 => h1 (List.mem_cons_of_mem _ h3), h2⟩
        · cases h
      · cases h

theorem name_pn {s : ByteArray} (hs : s.size ≤ 1099511627776) (h : bl s = xmlLang ∨ nameB s = true) : ∀ u ∈ bl s, pn u = true := by
  rcases h with h | h
  · rw [h]; decide +kernel
  · intro u hu
    unfold pn
    rw [(nameB_true hs h).2 u hu]; rfl

theorem xmlns_pn : ∀ u ∈ xmlns, pn u = true := by decide +kernel

/-- An element's attributes, the namespace's among them where it is told. -/
def heads (e : S25) (sp : List UInt8) : List (List UInt8 × List UInt8) := (if bl e.f0 = sp then [] else [(xmlns, bl e.f0)]) ++ pairs e.f2
theorem putT_heads (e : S25) (sp : List UInt8) : putT e sp = 60 :: (bl e.f1 ++ (flat (heads e sp) ++ (if bl e.f3 = [] ∧ e.f4.length = 0 then [47, 62] else 62 :: (quoteL (bl e.f3) ++ (putsT e.f4 (bl e.f0) ++ (60 :: 47 :: (bl e.f1 ++ [62]))))))) := by
  rw [putT_eq, attrsT_flat]
  unfold heads
  split <;> split <;> simp [flat]

theorem isElem_facts {n : Nat} {e : S25} (h : isElemB n e = true) : ∃ m, n = m + 1 ∧ nameB e.f1 = true ∧ attrsB [xmlns] e.f2 = true ∧ e.f4.all (isElemB m) = true := by
  cases n with
  | zero => rw [isElemB] at h; cases h
  | succ m =>
    rw [isElemB] at h
    simp only [Bool.and_eq_true] at h
    obtain ⟨⟨⟨⟨⟨⟨h1, _⟩, _⟩, _⟩, _⟩, h6⟩, h7⟩ := h
    unfold attrsOk at h6
    rw [Bool.and_eq_true] at h6
    exact ⟨m, rfl, h1, h6.1, h7⟩

theorem heads_pn {e : S25} (sp : List UInt8) (hw : wgt e ≤ 1099511627776) (ha : attrsB [xmlns] e.f2 = true) : ∀ a ∈ heads e sp, ∀ u ∈ a.1, pn u = true := by
  intro a h
  unfold heads at h
  rw [List.mem_append] at h
  rcases h with h | h
  · split at h
    · cases h
    · rw [List.mem_singleton] at h
      subst h
      exact xmlns_pn
  · unfold pairs at h
    rw [List.mem_map] at h
    obtain ⟨b, hb, rfl⟩ := h
    have h1 := wattrs_mem hb
    have h2 := wgt_eq e
    exact name_pn (by omega) (attrsB_true ha b hb).2

theorem heads_inj {e f : S25} {sp : List UInt8} (he : attrsB [xmlns] e.f2 = true) (hf : attrsB [xmlns] f.f2 = true) (h : heads e sp = heads f sp) : e.f0 = f.f0 ∧ e.f2 = f.f2 := by
  unfold heads at h
  by_cases h1 : bl e.f0 = sp <;> by_cases h2 : bl f.f0 = sp
  · rw [if_pos h1, if_pos h2] at h
    exact ⟨bl_inj (h1.trans h2.symm), pairs_inj (by simpa using h)⟩
  · rw [if_pos h1, if_neg h2] at h
    simp only [List.nil_append, List.singleton_append] at h
    cases hl : e.f2 with
    | nil => rw [hl] at h; simp [pairs] at h
    | cons a t =>
      rw [hl] at h
      simp only [pairs, List.map_cons, List.cons.injEq, Prod.mk.injEq] at h
      exact absurd (by rw [h.1.1]; simp) (attrsB_true he a (by rw [hl]; simp)).1
  · rw [if_neg h1, if_pos h2] at h
    simp only [List.nil_append, List.singleton_append] at h
    cases hl : f.f2 with
    | nil => rw [hl] at h; simp [pairs] at h
    | cons a t =>
      rw [hl] at h
      simp only [pairs, List.map_cons, List.cons.injEq, Prod.mk.injEq] at h
      exact absurd (by rw [← h.1.1]; simp) (attrsB_true hf a (by rw [hl]; simp)).1
  · rw [if_neg h1, if_neg h2] at h
    simp only [List.singleton_append, List.cons.injEq, Prod.mk.injEq, true_and] at h
    exact ⟨bl_inj h.1, pairs_inj h.2⟩

/-- What comes behind a name is none of its signs. -/
theorem behind_name (e : S25) (sp : List UInt8) (x : List UInt8) : ∃ c t, okb c = false ∧ flat (heads e sp) ++ ((if bl e.f3 = [] ∧ e.f4.length = 0 then [47, 62] else 62 :: (quoteL (bl e.f3) ++ (putsT e.f4 (bl e.f0) ++ (60 :: 47 :: (bl e.f1 ++ [62]))))) ++ x) = c :: t := by
  cases hh : heads e sp with
  | nil =>
    split
    · exact ⟨47, _, by decide +kernel, rfl⟩
    · exact ⟨62, _, by decide +kernel, rfl⟩
  | cons a t =>
    obtain ⟨s, hs⟩ := attrL_head a.1 a.2
    exact ⟨32, _, by decide +kernel, by simp only [flat, List.flatMap_cons, hs, List.cons_append]; rfl⟩

theorem ok60 : (fun u : UInt8 => u != 60) 60 = false := by decide

/-- Elements one behind the other begin with '<', and with no '/' behind it. -/
theorem puts_head (ks : List S25) (sp : List UInt8) (x : List UInt8) : ∃ t, putsT ks sp ++ 60 :: x = 60 :: t := by
  cases ks with
  | nil => exact ⟨x, by simp [putsT]⟩
  | cons k ks => exact ⟨_, by rw [putsT, putT_heads]; rfl⟩

def InjAt (n : Nat) : Prop := ∀ (e f : S25) (m : Nat) (sp x y : List UInt8), isElemB n e = true → isElemB m f = true → wgt e ≤ 1099511627776 → wgt f ≤ 1099511627776 → putT e sp ++ x = putT f sp ++ y → e = f ∧ x = y

theorem name_head {s : ByteArray} (hs : s.size ≤ 1099511627776) (h : nameB s = true) : ∃ c t, bl s = c :: t ∧ c ≠ 47 := by
  obtain ⟨h1, h2⟩ := nameB_true hs h
  cases hb : bl s with
  | nil => exact absurd hb h1
  | cons c t => exact ⟨c, t, rfl, (okb_not c (h2 c (by rw [hb]; simp))).2.2.1⟩

theorem puts_inj (n : Nat) (ih : InjAt n) (m : Nat) (sp : List UInt8) : ∀ (ks ls : List S25) (x y : List UInt8), (∀ k ∈ ks, isElemB n k = true) → (∀ k ∈ ls, isElemB m k = true) → (∀ k ∈ ks, wgt k ≤ 1099511627776) → (∀ k ∈ ls, wgt k ≤ 1099511627776) →
    putsT ks sp ++ 60 :: 47 :: x = putsT ls sp ++ 60 :: 47 :: y → ks = ls ∧ x = y
  | [], [], x, y, _, _, _, _, h => by simp [putsT] at h; exact ⟨rfl, h⟩
  | [], l :: ls, x, y, _, h2, _, h4, h => by
    obtain ⟨p, _, hn, _, _⟩ := isElem_facts (h2 l (by simp))
    have hw := wgt_eq l
    have := h4 l (by simp)
    obtain ⟨c, t, hc, hne⟩ := name_head (by omega) hn
    rw [putsT, putsT, putT_heads, hc] at h
    simp at h
    exact absurd h.1.symm hne
  | k :: ks, [], x, y, h1, _, h3, _, h => by
    obtain ⟨p, _, hn, _, _⟩ := isElem_facts (h1 k (by simp))
    have hw := wgt_eq k
    have := h3 k (by simp)
    obtain ⟨c, t, hc, hne⟩ := name_head (by omega) hn
    rw [putsT, putsT, putT_heads, hc] at h
    simp at h
    exact absurd h.1 hne
  | k :: ks, l :: ls, x, y, h1, h2, h3, h4, h => by
    rw [putsT, putsT, List.append_assoc, List.append_assoc] at h
    obtain ⟨e1, e2⟩ := ih k l m sp _ _ (h1 k (by simp)) (h2 l (by simp)) (h3 k (by simp)) (h4 l (by simp)) h
    obtain ⟨e3, e4⟩ := puts_inj n ih m sp ks ls x y (fun z hz => h1 z (List.mem_cons_of_mem _ hz)) (fun z hz => h2 z (List.mem_cons_of_mem _ hz)) (fun z hz => h3 z (List.mem_cons_of_mem _ hz)) (fun z hz => h4 z (List.mem_cons_of_mem _ hz)) e2
    exact ⟨by rw [e1, e3], e4⟩

theorem elem_ext {e f : S25} (h0 : e.f0 = f.f0) (h1 : e.f1 = f.f1) (h2 : e.f2 = f.f2) (h3 : e.f3 = f.f3) (h4 : e.f4 = f.f4) : e = f := by
  cases e; cases f; simp_all

theorem put_inj : ∀ n, InjAt n
  | 0 => fun e f m sp x y h _ _ _ _ => by rw [isElemB] at h; cases h
  | n + 1 => by
    intro e f m sp x y he hf hwe hwf h
    obtain ⟨n', hn', hne, hae, hke⟩ := isElem_facts he
    obtain rfl : n = n' := by omega
    obtain ⟨m', _, hnf, haf, hkf⟩ := isElem_facts hf
    have w1 := wgt_eq e
    have w2 := wgt_eq f
    rw [putT_heads, putT_heads] at h
    simp only [List.cons_append, List.append_assoc, List.cons.injEq, true_and] at h
    obtain ⟨c1, t1, hc1, e1⟩ := behind_name e sp x
    obtain ⟨c2, t2, hc2, e2⟩ := behind_name f sp y
    rw [e1, e2] at h
    obtain ⟨hname, hrest⟩ := span_inj (p := okb) (nameB_true (by omega) hne).2 (nameB_true (by omega) hnf).2 hc1 hc2 h
    rw [← e1, ← e2] at hrest
    have hn1 := bl_inj hname
    have hpe := heads_pn sp hwe hae
    have hpf := heads_pn sp hwf haf
    by_cases ge : bl e.f3 = [] ∧ e.f4.length = 0 <;> by_cases gf : bl f.f3 = [] ∧ f.f4.length = 0
    · rw [if_pos ge, if_pos gf] at hrest
      obtain ⟨h3, h4⟩ := flat_inj hpe hpf (by decide) (by decide) hrest
      obtain ⟨h5, h6⟩ := heads_inj hae haf h3
      refine ⟨elem_ext h5 hn1 h6 (bl_inj (ge.1.trans gf.1.symm)) ?_, by simpa using h4⟩
      rw [List.length_eq_zero_iff.1 ge.2, List.length_eq_zero_iff.1 gf.2]
    · rw [if_pos ge, if_neg gf] at hrest
      obtain ⟨h3, h4⟩ := flat_inj hpe hpf (by decide) (by decide) hrest
      simp at h4
    · rw [if_neg ge, if_pos gf] at hrest
      obtain ⟨h3, h4⟩ := flat_inj hpe hpf (by decide) (by decide) hrest
      simp at h4
    · rw [if_neg ge, if_neg gf] at hrest
      simp only [List.cons_append, List.append_assoc] at hrest
      obtain ⟨h3, h4⟩ := flat_inj hpe hpf (by decide) (by decide) hrest
      obtain ⟨h5, h6⟩ := heads_inj hae haf h3
      simp only [List.cons.injEq, true_and] at h4
      obtain ⟨s1, g1⟩ := puts_head e.f4 (bl e.f0) (47 :: (bl e.f1 ++ 62 :: ([] ++ x)))
      obtain ⟨s2, g2⟩ := puts_head f.f4 (bl f.f0) (47 :: (bl f.f1 ++ 62 :: ([] ++ y)))
      rw [g1, g2] at h4
      obtain ⟨h7, h8⟩ := span_inj (p := fun u => u != 60) (fun u hu => (quoteL_no _ u hu).1) (fun u hu => (quoteL_no _ u hu).1) ok60 ok60 h4
      rw [← g1, ← g2, h5] at h8
      obtain ⟨h9, h10⟩ := puts_inj n (put_inj n) m' (bl f.f0) e.f4 f.f4 _ _ (fun k hk => List.all_eq_true.1 hke k hk) (fun k hk => List.all_eq_true.1 hkf k hk) (fun k hk => by have := wgts_mem hk; omega) (fun k hk => by have := wgts_mem hk; omega) h8
      rw [hname] at h10
      refine ⟨elem_ext h5 hn1 h6 (bl_inj (quoteL_inj h7)) h9, ?_⟩
      simpa using h10

/-! ### 'the same' is equality -/
theorem toList_iff (a b : ByteArray) : (a.toList == b.toList) = true ↔ a = b := by
  rw [ByteArray.toList_eq, ByteArray.toList_eq, beq_iff_eq]
  exact ⟨fun h => bl_inj h, fun h => by rw [h]⟩
theorem eqAs_iff : ∀ {l m : List S51}, eqAs l m = true ↔ l = m
  | [], [] => by simp [eqAs]
  | [], b :: u => by simp [eqAs]
  | a :: t, [] => by simp [eqAs]
  | a :: t, b :: u => by
    rw [eqAs, Bool.and_eq_true, eqAs_iff, sameA, Bool.and_eq_true, toList_iff, toList_iff]
    constructor
    · rintro ⟨⟨h1, h2⟩, h3⟩; cases a; cases b; simp_all
    · intro h; simp only [List.cons.injEq] at h; rw [h.1, h.2]; simp
mutual
theorem sameB_iff : ∀ {e f : S25}, sameB e f = true ↔ e = f
  | ⟨s, n, az, t, ks⟩, ⟨s', n', az', t', ks'⟩ => by
    rw [sameB]
    simp only [Bool.and_eq_true, toList_iff, eqAs_iff, S25.mk.injEq]
    rw [sameBs_iff]
    constructor
    · rintro ⟨⟨⟨⟨h1, h2⟩, h3⟩, h4⟩, h5⟩; exact ⟨h1, h2, h4, h3, h5⟩
    · rintro ⟨h1, h2, h4, h3, h5⟩; exact ⟨⟨⟨⟨h1, h2⟩, h3⟩, h4⟩, h5⟩
theorem sameBs_iff : ∀ {l m : List S25}, sameBs l m = true ↔ l = m
  | [], [] => by simp [sameBs]
  | [], b :: u => by simp [sameBs]
  | a :: t, [] => by simp [sameBs]
  | a :: t, b :: u => by
    rw [sameBs, Bool.and_eq_true, sameB_iff, sameBs_iff, List.cons.injEq]
end

end Go.Proofs.Ytaidgkmacpiajaa.Tg

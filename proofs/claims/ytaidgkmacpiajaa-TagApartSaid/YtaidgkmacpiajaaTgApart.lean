/- The printed law of TagApart answers true for all elements whose strings and slices are of sizes that there are. Plain law. -/
import Derived.Test.YtaidgkmacpiajaaPTagx2
import Derived.Test.YtaidgkmacpiajaaTgInj
set_option linter.unusedVariables false
set_option linter.unusedSimpArgs false
namespace Go.Proofs.Ytaidgkmacpiajaa.Tg
open Go.RowKit Go.Proofs.Ytaidgkmacpiajaa.Plain Go.Proofs.Ytaidgkmacpiajaa.PTag Go.Proofs.YtaidgkmacpiajaaW.PrintWords Go.Proofs.YtaidgkmacpiajaaW.PrintLast

def fitA (a : S51) : Prop := a.f0.size ≤ reachBytes ∧ a.f1.size ≤ reachBytes
mutual
def fitE : S25 → Prop
  | ⟨s, n, az, t, ks⟩ => s.size ≤ reachBytes ∧ n.size ≤ reachBytes ∧ (az.length ≤ reachBytes ∧ ∀ a ∈ az, fitA a) ∧ t.size ≤ reachBytes ∧ ks.length ≤ reachBytes ∧ fitEs ks
def fitEs : List S25 → Prop
  | [] => True
  | k :: ks => fitE k ∧ fitEs ks
end
theorem fitEs_iff : ∀ {ks : List S25}, fitEs ks ↔ ∀ k ∈ ks, fitE k
  | [] => by simp [fitEs]
  | k :: ks => by rw [fitEs, fitEs_iff]; simp
theorem fitE_eq (e : S25) : fitE e ↔ e.f0.size ≤ reachBytes ∧ e.f1.size ≤ reachBytes ∧ (e.f2.length ≤ reachBytes ∧ ∀ a ∈ e.f2, fitA a) ∧ e.f3.size ≤ reachBytes ∧ e.f4.length ≤ reachBytes ∧ ∀ k ∈ e.f4, fitE k := by
  cases e; rw [fitE, fitEs_iff]

theorem reach_val : reachBytes = 140737488351232 := rfl

def Wt (e : S25) (d : Int) (k : Nat) : Option Int := wharfref05_Weight.f k e.f0 e.f1 e.f2 e.f3 e.f4 20000 d
def Wd (d : Int) : Int := 2251799813685248 + (41 - d) * 1000000
def WtAt (N : Nat) : Prop := ∀ (e : S25) (d : Int), SizeOf.sizeOf e ≤ N → fitE e → 0 ≤ d → d ≤ 41 → ∃ r, Ev (Wt e d) r ∧ 0 ≤ r ∧ r ≤ Wd d ∧ (r ≤ 20000 → (wgt e : Int) ≤ r)

theorem wrap_id {x : Int} (h0 : -1000000000000000000 ≤ x) (h1 : x ≤ 1000000000000000000) : wrap64 x = x := by unfold wrap64; omega

theorem l1_ev (N : Nat) (ih : WtAt N) (d : Int) (hd0 : 0 ≤ d) (hd : d ≤ 40) (e : S25) (hsz : ∀ k ∈ e.f4, SizeOf.sizeOf k ≤ N) (hfit : ∀ k ∈ e.f4, fitE k) (hlen : e.f4.length ≤ reachBytes) :
    ∀ (c i : Nat) (n : Int), i + c = e.f4.length → 0 ≤ n → n ≤ 2251799813685248 → ∃ r, Ev (fun k => wharfref05_Weight.l1 k 20000 d n i e.f0 e.f1 e.f2 e.f3 e.f4) r ∧ n ≤ r ∧ r ≤ max n (20000 + Wd (d + 1)) ∧ (r ≤ 20000 → n + (wgts (e.f4.drop i) : Int) ≤ r) := by
  have hrv := reach_val
  intro c
  induction c with
  | zero =>
    intro i n hi h0 h1
    refine ⟨n, ⟨1, fun k hk => ?_⟩, by omega, by omega, fun h => ?_⟩
    · obtain ⟨m, rfl⟩ : ∃ m, k = m + 1 := ⟨k - 1, by omega⟩
      dsimp only
      rw [wharfref05_Weight.l1, if_neg (by omega)]
    · rw [List.drop_of_length_le (by omega), wgts]; omega
  | succ c icd =>
    intro i n hi h0 h1
    have hlt : i < e.f4.length := by omega
    by_cases hn : n ≤ 20000
    · have hmem := List.getElem_mem hlt
      obtain ⟨t, ht, ht0, ht1, ht2⟩ := ih e.f4[i] (d + 1) (hsz _ hmem) (hfit _ hmem) (by omega) (by omega)
      have hB : Wd (d + 1) ≤ 2251799913685248 := by unfold Wd; omega
      -- the rest, with what the kid weighs
      by_cases hbig : n + t ≤ 20000
      · obtain ⟨r, hr, hr0, hr1, hr2⟩ := icd (i + 1) (n + t) (by omega) (by omega) (by omega)
        refine ⟨r, Ev.step (f := fun k => (Wt e.f4[i] (d + 1) k).bind fun t => wharfref05_Weight.l1 k 20000 d (wrap64 (n + t)) (wrap64 ((i : Int) + 1)) e.f0 e.f1 e.f2 e.f3 e.f4) (fun k => ?_) (Ev.bind ht ?_), by omega, by omega, fun h => ?_⟩
        · rw [wharfref05_Weight.l1, if_pos (by omega), if_pos hn, if_pos (by omega), wrap_id (by omega) (by omega : d + 1 ≤ 1000000000000000000)]
          have hrd : rd_T25 e.f4 (i : Int) = e.f4[i] := by simp [rd_T25, hlt]
          rw [hrd]; rfl
        · show Ev (fun k => wharfref05_Weight.l1 k 20000 d (wrap64 (n + t)) (wrap64 ((i : Int) + 1)) e.f0 e.f1 e.f2 e.f3 e.f4) r
          rw [wrap_id (by omega) (by omega : n + t ≤ 1000000000000000000), wrap_id (by omega) (by omega : (i : Int) + 1 ≤ 1000000000000000000)]
          exact hr
        · have h3 := hr2 h
          have h4 := ht2 (by omega)
          rw [List.drop_eq_getElem_cons hlt, wgts]
          omega
      · refine ⟨n + t, Ev.step (f := fun k => (Wt e.f4[i] (d + 1) k).bind fun t => wharfref05_Weight.l1 k 20000 d (wrap64 (n + t)) (wrap64 ((i : Int) + 1)) e.f0 e.f1 e.f2 e.f3 e.f4) (fun k => ?_) (Ev.bind ht ⟨1, fun k hk => ?_⟩), by omega, by omega, fun h => absurd h (by omega)⟩
        · rw [wharfref05_Weight.l1, if_pos (by omega), if_pos hn, if_pos (by omega), wrap_id (by omega) (by omega : d + 1 ≤ 1000000000000000000)]
          have hrd : rd_T25 e.f4 (i : Int) = e.f4[i] := by simp [rd_T25, hlt]
          rw [hrd]; rfl
        · obtain ⟨m, rfl⟩ : ∃ m, k = m + 1 := ⟨k - 1, by omega⟩
          show wharfref05_Weight.l1 (m + 1) 20000 d (wrap64 (n + t)) (wrap64 ((i : Int) + 1)) e.f0 e.f1 e.f2 e.f3 e.f4 = some (n + t)
          rw [wrap_id (by omega) (by omega : n + t ≤ 1000000000000000000), wrap_id (by omega) (by omega : (i : Int) + 1 ≤ 1000000000000000000), wharfref05_Weight.l1]
          by_cases hend : (i : Int) + 1 < (e.f4.length : Int)
          · rw [if_pos hend, if_neg (by omega)]
          · rw [if_neg hend]
    · refine ⟨n, ⟨1, fun k hk => ?_⟩, by omega, by omega, fun h => absurd h hn⟩
      obtain ⟨m, rfl⟩ : ∃ m, k = m + 1 := ⟨k - 1, by omega⟩
      dsimp only
      rw [wharfref05_Weight.l1, if_pos (by omega), if_neg hn]

/-- What attributes weigh beside one each. -/
def vattrs (l : List S51) : Nat := (l.map fun a => a.f0.size + a.f1.size).sum
theorem wattrs_v (l : List S51) : wattrs l = l.length + vattrs l := by
  induction l with
  | nil => rfl
  | cons a t ih => unfold wattrs vattrs at *; simp only [List.map_cons, List.sum_cons, List.length_cons]; omega

theorem l0_ev (N : Nat) (ih : WtAt N) (d : Int) (hd0 : 0 ≤ d) (hd : d ≤ 40) (e : S25) (hsz : ∀ k ∈ e.f4, SizeOf.sizeOf k ≤ N) (hfit : fitE e) :
    ∀ (c i : Nat) (n : Int), i + c = e.f2.length → 0 ≤ n → n ≤ 2251799813685248 → ∃ r, Ev (fun k => wharfref05_Weight.l0 k 20000 d n i e.f0 e.f1 e.f2 e.f3 e.f4) r ∧ n ≤ r ∧ r ≤ max (max n 300000000000000) (20000 + Wd (d + 1)) ∧ (r ≤ 20000 → n + (vattrs (e.f2.drop i) : Int) + (wgts e.f4 : Int) ≤ r) := by
  have hrv := reach_val
  rw [fitE_eq] at hfit
  obtain ⟨_, _, ⟨hal, haf⟩, _, hkl, hkf⟩ := hfit
  have fin : ∀ n : Int, 0 ≤ n → n ≤ 2251799813685248 → ∃ r, Ev (fun k => wharfref05_Weight.j1 k 20000 d n e.f0 e.f1 e.f2 e.f3 e.f4) r ∧ n ≤ r ∧ r ≤ max n (20000 + Wd (d + 1)) ∧ (r ≤ 20000 → n + (wgts e.f4 : Int) ≤ r) := by
    intro n h0 h1
    obtain ⟨r, hr, hr0, hr1, hr2⟩ := l1_ev N ih d hd0 hd e hsz hkf hkl e.f4.length 0 n (by omega) h0 h1
    exact ⟨r, Ev.step (fun k => by rw [wharfref05_Weight.j1]; rfl) hr, hr0, hr1, by rw [List.drop_zero] at hr2; exact hr2⟩
  intro c
  induction c with
  | zero =>
    intro i n hi h0 h1
    obtain ⟨r, hr, hr0, hr1, hr2⟩ := fin n h0 h1
    refine ⟨r, Ev.step (fun k => by rw [wharfref05_Weight.l0, if_neg (by omega)]) hr, hr0, by omega, fun h => ?_⟩
    have := hr2 h
    rw [List.drop_of_length_le (by omega)]
    simpa [vattrs] using this
  | succ c icd =>
    intro i n hi h0 h1
    have hlt : i < e.f2.length := by omega
    by_cases hn : n ≤ 20000
    · have hf := haf _ (List.getElem_mem hlt)
      obtain ⟨hf0, hf1⟩ := hf
      obtain ⟨r, hr, hr0, hr1, hr2⟩ := icd (i + 1) (n + (e.f2[i].f0.size : Int) + (e.f2[i].f1.size : Int)) (by omega) (by omega) (by omega)
      refine ⟨r, Ev.step (fun k => ?_) hr, by omega, by omega, fun h => ?_⟩
      · rw [wharfref05_Weight.l0, if_pos (by omega), if_pos hn, if_pos (by omega)]
        have hrd : rd_T51 e.f2 (i : Int) = e.f2[i] := by simp [rd_T51, hlt]
        rw [hrd, wrap_id (x := n + (e.f2[i].f0.size : Int)) (by omega) (by omega), wrap_id (x := n + (e.f2[i].f0.size : Int) + (e.f2[i].f1.size : Int)) (by omega) (by omega), wrap_id (x := (i : Int) + 1) (by omega) (by omega)]
        rfl
      · have := hr2 h
        rw [List.drop_eq_getElem_cons hlt]
        unfold vattrs at *
        rw [List.map_cons, List.sum_cons]
        omega
    · obtain ⟨r, hr, hr0, hr1, hr2⟩ := fin n h0 h1
      exact ⟨r, Ev.step (fun k => by rw [wharfref05_Weight.l0, if_pos (by omega), if_neg hn]) hr, hr0, by omega, fun h => absurd h (by omega)⟩

theorem weight_ev : ∀ N, WtAt N
  | 0 => fun e _ hn => by cases e; simp at hn
  | N + 1 => by
    intro e d hN hfit hd0 hd
    have hrv := reach_val
    by_cases h40 : d ≤ 40
    · have hk : ∀ x ∈ e.f4, SizeOf.sizeOf x ≤ N := kids_size e N hN
      have hf := hfit
      rw [fitE_eq] at hf
      obtain ⟨h0, h1, ⟨h2, _⟩, h3, h4, _⟩ := hf
      have hn : wrap64 ((wrap64 ((wrap64 ((wrap64 (1 + (e.f0.size : Int))) + (e.f1.size : Int))) + (e.f3.size : Int))) + (e.f2.length : Int)) = 1 + (e.f0.size : Int) + (e.f1.size : Int) + (e.f3.size : Int) + (e.f2.length : Int) := by
        rw [wrap_id (x := 1 + (e.f0.size : Int)) (by omega) (by omega), wrap_id (x := 1 + (e.f0.size : Int) + (e.f1.size : Int)) (by omega) (by omega), wrap_id (x := 1 + (e.f0.size : Int) + (e.f1.size : Int) + (e.f3.size : Int)) (by omega) (by omega), wrap_id (by omega) (by omega)]
      obtain ⟨r, hr, hr0, hr1, hr2⟩ := l0_ev N (weight_ev N) d hd0 h40 e hk hfit e.f2.length 0 (1 + (e.f0.size : Int) + (e.f1.size : Int) + (e.f3.size : Int) + (e.f2.length : Int)) (by omega) (by omega) (by omega)
      refine ⟨r, Ev.step (fun k => ?_) hr, by omega, ?_, fun h => ?_⟩
      · show wharfref05_Weight.f (k + 1) e.f0 e.f1 e.f2 e.f3 e.f4 20000 d = _
        rw [wharfref05_Weight.f, if_neg (by omega), hn]
        rfl
      · unfold Wd at *; omega
      · have := hr2 h
        rw [List.drop_zero] at this
        have hv := wattrs_v e.f2
        rw [wgt_eq]
        omega
    · refine ⟨20001, ⟨1, fun k hk => ?_⟩, by omega, by unfold Wd; omega, fun h => absurd h (by omega)⟩
      obtain ⟨m, rfl⟩ : ∃ m, k = m + 1 := ⟨k - 1, by omega⟩
      show wharfref05_Weight.f (m + 1) e.f0 e.f1 e.f2 e.f3 e.f4 20000 d = _
      rw [wharfref05_Weight.f, if_pos (by omega), wrap_id (by omega) (by omega)]
      rfl

theorem small_ev (e : S25) (hfit : fitE e) : ∃ b, Ev (fun k => wharflaw05_small.f k e.f0 e.f1 e.f2 e.f3 e.f4) b ∧ (b = true → wgt e ≤ 20000) := by
  obtain ⟨r, hr, _, _, h2⟩ := weight_ev _ e 0 (Nat.le_refl _) hfit (by omega) (by omega)
  refine ⟨decide (r ≤ 20000), Ev.bind (f := fun _ t => some (decide (t ≤ 20000))) hr (Ev.now _), fun h => ?_⟩
  have := h2 (of_decide_eq_true h)
  have := of_decide_eq_true h
  omega

/-! ### an element's text is not much longer than it weighs -/
theorem attrsT_size (l : List S51) : (attrsT l).length ≤ 20 * wattrs l := by
  induction l with
  | nil => simp [attrsT]
  | cons a t ih =>
    unfold attrsT wattrs at *
    rw [List.flatMap_cons, List.map_cons, List.sum_cons, List.length_append]
    have h := quoteL_size (bl a.f1) a.f1.size (by rw [bl_size]; exact Nat.le_refl _)
    have hn := bl_size a.f0
    have ha : (attr1 a).length = 1 + (bl a.f0).length + 2 + (quoteL (bl a.f1)).length + 1 := by simp only [attr1, attrL, List.length_append, List.length_cons, List.length_nil]
    omega
mutual
theorem putT_size : ∀ (e : S25) (sp : List UInt8), (putT e sp).length ≤ 40 * wgt e
  | ⟨s, n, az, t, ks⟩, sp => by
    have h1 := attrsT_size az
    have h2 := quoteL_size (bl s) s.size (by rw [bl_size]; exact Nat.le_refl _)
    have h3 := quoteL_size (bl t) t.size (by rw [bl_size]; exact Nat.le_refl _)
    have h4 := putsT_size ks (bl s)
    have hn := bl_size n
    have hx : xmlns.length = 5 := rfl
    rw [putT, wgt]
    simp only [List.length_append, List.length_cons, List.length_nil, attrL]
    split <;> split <;> simp only [List.length_append, List.length_cons, List.length_nil] <;> omega
theorem putsT_size : ∀ (ks : List S25) (sp : List UInt8), (putsT ks sp).length ≤ 40 * wgts ks
  | [], sp => by simp [putsT]
  | k :: ks, sp => by
    have h1 := putT_size k sp
    have h2 := putsT_size ks sp
    rw [putsT, wgts, List.length_append]
    omega
end

theorem eta_ (e : S25) : (⟨e.f0, e.f1, e.f2, e.f3, e.f4⟩ : S25) = e := by cases e; rfl

def chk (e : S25) : Int := if isElemB 16 e = true then (if ((putT e []).length : Int) > 16384 then 50 else 0) else 50

theorem check_is (e : S25) (hw : wgt e ≤ 20000) : tag_Check.f e.f0 e.f1 e.f2 e.f3 e.f4 = some (chk e) := by
  unfold tag_Check.f chk
  have h1 : Ext.tag_isElem.f e.f0 e.f1 e.f2 e.f3 e.f4 16 = some (isElemB 16 e) := by
    unfold Ext.tag_isElem.f
    rw [eta_, if_pos ⟨by omega, by omega, by omega⟩]
    rfl
  have h2 : Ext.tag_Put.f e.f0 e.f1 e.f2 e.f3 e.f4 ⟨#[]⟩ = some ⟨(putT e []).toArray⟩ := by
    have := putT_size e []
    unfold Ext.tag_Put.f
    rw [eta_, show bl ⟨#[]⟩ = [] from rfl, if_pos (by omega)]
  rw [h1]
  simp only [Option.bind_some]
  split
  · rw [h2]
    simp only [Option.bind_some]
    have h3 : ((⟨(putT e []).toArray⟩ : ByteArray).size : Int) = ((putT e []).length : Int) := by rw [← bl_size, bl_lit]
    rw [h3]
    split <;> rfl
  · rfl

theorem TagApart_plain (e f : S25) (he : fitE e) (hf : fitE f) : ∃ k, wharflaw05_TagApart.f k e.f0 e.f1 e.f2 e.f3 e.f4 f.f0 f.f1 f.f2 f.f3 f.f4 = some true := by
  obtain ⟨b, hb, hbt⟩ := small_ev e he
  obtain ⟨c, hc, hct⟩ := small_ev f hf
  refine Ev.rounds ?_
  have jt : Ev (fun k => wharflaw05_TagApart.j0 k true e.f0 e.f1 e.f2 e.f3 e.f4 f.f0 f.f1 f.f2 f.f3 f.f4) true :=
    ⟨1, fun k hk => by obtain ⟨m, rfl⟩ : ∃ m, k = m + 1 := ⟨k - 1, by omega⟩; dsimp only; rw [wharflaw05_TagApart.j0, if_pos rfl]; rfl⟩
  refine Ev.bind (g := fun k => wharflaw05_small.f k e.f0 e.f1 e.f2 e.f3 e.f4) (f := fun k t116 => (if t116 = true then ((wharflaw05_small.f k f.f0 f.f1 f.f2 f.f3 f.f4).bind fun t117 => (if t117 = true then ((tag_Check.f e.f0 e.f1 e.f2 e.f3 e.f4).bind fun t118 => ((wharflaw05_num.f t118).bind fun t119 => ((tag_Check.f f.f0 f.f1 f.f2 f.f3 f.f4).bind fun t120 => ((wharflaw05_num.f t120).bind fun t121 => (wharflaw05_TagApart.j0 k ((wrap64 (t119 + t121)) != 0) e.f0 e.f1 e.f2 e.f3 e.f4 f.f0 f.f1 f.f2 f.f3 f.f4))))) else (wharflaw05_TagApart.j0 k true e.f0 e.f1 e.f2 e.f3 e.f4 f.f0 f.f1 f.f2 f.f3 f.f4))) else (wharflaw05_TagApart.j0 k true e.f0 e.f1 e.f2 e.f3 e.f4 f.f0 f.f1 f.f2 f.f3 f.f4))) hb ?_
  cases b with
  | false => simpa using jt
  | true =>
    have hwe := hbt rfl
    simp only [if_true]
    refine Ev.bind hc ?_
    cases c with
    | false => simpa using jt
    | true =>
      have hwf := hct rfl
      simp only [if_true]
      rw [check_is e hwe, check_is f hwf]
      simp only [Option.bind_some, wharflaw05_num.f]
      by_cases hz : chk e = 0 ∧ chk f = 0
      · rw [hz.1, hz.2]
        have i1 : isElemB 16 e = true := by
          have h := hz.1; unfold chk at h
          by_cases hi : isElemB 16 e = true
          · exact hi
          · rw [if_neg hi] at h; cases h
        have i2 : isElemB 16 f = true := by
          have h := hz.2; unfold chk at h
          by_cases hi : isElemB 16 f = true
          · exact hi
          · rw [if_neg hi] at h; cases h
        have hp : ∀ g : S25, wgt g ≤ 20000 → Ext.tag_Put.f g.f0 g.f1 g.f2 g.f3 g.f4 ⟨#[]⟩ = some ⟨(putT g []).toArray⟩ := by
          intro g hg
          have := putT_size g []
          unfold Ext.tag_Put.f
          rw [eta_, show bl ⟨#[]⟩ = [] from rfl, if_pos (by omega)]
        refine ⟨1, fun k hk => ?_⟩
        obtain ⟨m, rfl⟩ : ∃ m, k = m + 1 := ⟨k - 1, by omega⟩
        dsimp only
        rw [show (wrap64 ((0 : Int) + 0) != 0) = false by rw [wrap_id (by omega) (by omega)]; decide]
        rw [wharflaw05_TagApart.j0, if_neg (by decide), hp e hwe, hp f hwf]
        simp only [Option.bind_some, Ext.tag_Same.f, eta_]
        rw [if_pos ?_]
        · rfl
        · have hs := @sameB_iff e f
          by_cases heq : e = f
          · subst heq
            have : sameB e e = true := hs.2 rfl
            rw [this]; simp
          · have h1 : sameB e f = false := by
              cases h : sameB e f with
              | false => rfl
              | true => exact absurd (hs.1 h) heq
            show ((ByteArray.toList ⟨(putT e []).toArray⟩ == ByteArray.toList ⟨(putT f []).toArray⟩) == sameB e f) = true
            rw [h1, ByteArray.toList_eq, ByteArray.toList_eq]
            have : ((⟨(putT e []).toArray⟩ : ByteArray).data.toList == (⟨(putT f []).toArray⟩ : ByteArray).data.toList) = false := by
              refine beq_eq_false_iff_ne.2 (fun h => heq ?_)
              have h2 : putT e [] = putT f [] := by simpa using h
              exact (put_inj 16 e f 16 [] [] [] i1 i2 (by omega) (by omega) (by rw [h2])).1
            rw [this]; rfl
      · have hne : (wrap64 (chk e + chk f) != 0) = true := by
          have h50 : ∀ g, chk g = 0 ∨ chk g = 50 := by
            intro g; unfold chk
            split
            · split
              · exact .inr rfl
              · exact .inl rfl
            · exact .inr rfl
          rcases h50 e with h | h <;> rcases h50 f with h' | h'
          · exact absurd ⟨h, h'⟩ hz
          all_goals (rw [h, h', wrap_id (by omega) (by omega)]; decide)
        rw [hne]
        exact jt

end Go.Proofs.Ytaidgkmacpiajaa.Tg

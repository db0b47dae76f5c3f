import Derived.Test.YtdfppdkhiejbdaaGreatDoorBa12
/- Package list: Apply. -/
set_option linter.unusedVariables false
set_option linter.unusedSimpArgs false
namespace Go.Proofs.YtdfppdkhiejbdaaGreatDoor.Li
open Go.RowKit Go.Proofs.YtdfppdkhiejbdaaGreatDoor.PList Go.Proofs.YtdfppdkhiejbdaaGreatDoorW.PrintWords

def wasB (x : S26) (xs : List S26) : S26 := match xs[posB x xs]? with | some y => if cmpB y x = 0 then y else z26 | none => z26
def aheadB (x : S26) (xs : List S26) : List S26 := xs.take (posB x xs)
def behindB (x : S26) (xs : List S26) : List S26 := if hitB x xs then xs.drop (posB x xs + 1) else xs.drop (posB x xs)
/-- A list, changed; how it went. -/
def applyB (xs : List S26) (k : Int) (x : S26) : List S26 × Int :=
  let c := lacksB xs k x (wasB x xs) (hitB x xs)
  if c ≠ 0 then (xs, c) else if k = 22 then (aheadB x xs ++ behindB x xs, 0)
  else if (aheadB x xs ++ behindB x xs).any (twinB x) = true then (xs, 3) else (aheadB x xs ++ x :: behindB x xs, 0)

theorem pos_le (x : S26) (xs : List S26) : posB x xs ≤ xs.length := List.countP_le_length

theorem hit_cases (x : S26) (xs : List S26) : (hitB x xs = false ∧ wasB x xs = z26 ∧ aheadB x xs ++ behindB x xs = xs) ∨
    ∃ y, ∃ h : posB x xs < xs.length, xs[posB x xs] = y ∧ hitB x xs = true ∧ wasB x xs = y ∧ xs = aheadB x xs ++ y :: behindB x xs := by
  unfold behindB aheadB
  by_cases h : posB x xs < xs.length
  · by_cases e : cmpB xs[posB x xs] x = 0
    · right
      have hh : hitB x xs = true := by unfold hitB; rw [List.getElem?_eq_getElem h]; simp [e]
      refine ⟨_, h, rfl, hh, by unfold wasB; rw [List.getElem?_eq_getElem h]; simp [e], ?_⟩
      rw [hh, if_pos rfl, ← List.drop_eq_getElem_cons h, List.take_append_drop]
    · left
      have hh : hitB x xs = false := by unfold hitB; rw [List.getElem?_eq_getElem h]; simp [e]
      refine ⟨hh, by unfold wasB; rw [List.getElem?_eq_getElem h]; simp [e], ?_⟩
      rw [hh, if_neg Bool.false_ne_true, List.take_append_drop]
  · left
    have hh : hitB x xs = false := by unfold hitB; rw [List.getElem?_eq_none (by omega)]
    refine ⟨hh, by unfold wasB; rw [List.getElem?_eq_none (by omega)], ?_⟩
    rw [hh, if_neg Bool.false_ne_true, List.take_append_drop]

/-- What holds in Apply, whatever is called: the list's box, the item's, the answer's, the found one's. -/
def Gp (w : World) (o0 : Obj) (x : S26) (W : World) : Prop :=
  W.heap[w.heap.size]? = some o0 ∧ W.heap[w.heap.size + 1]? = some (ib x) ∧ W.heap[w.heap.size + 1 + 1]? = some (.cells #[.slice none 0 0, .int .i64 0] 24 (0, 0)) ∧ Below w.heap.size w W
theorem Gp.step {w : World} {o0 : Obj} {x : S26} {W W' : World} (h : Gp w o0 x W) (hb : Below W.heap.size W W') : Gp w o0 x W' := ⟨blk_below h.1 hb, blk_below h.2.1 hb, blk_below h.2.2.1 hb, up h.2.2.2 hb⟩

/-- What Apply hands back. -/
def Applied (w : World) (t : Int) (r : List S26 × Int) (e : Ending) (w' : World) : Prop :=
  ∃ B c', e = .returned (.tuple #[.agg #[.slice B r.1.length c', .int .i64 t], .int .i64 r.2]) ∧ Kd.C k26 w' B r.1.length r.1 ∧ r.1.length ≤ c' ∧ Below w.heap.size w w'

theorem gp_facts {w : World} {l t : Value} {ty : TypeId} {x : S26} {W : World} (h : Gp w (.cells #[l, t] ty (0, 0)) x W) :
    (W.cell? ⟨w.heap.size, 0, none⟩ = some l ∧ W.cell? ⟨w.heap.size, 1, none⟩ = some t ∧ (∀ i, W.frozen? ⟨w.heap.size, i, none⟩ = false)) ∧
    (W.cell? ⟨w.heap.size + 1, 0, none⟩ = some (.string x.f0) ∧ W.cell? ⟨w.heap.size + 1, 1, none⟩ = some (.int .i64 x.f1) ∧ W.cell? ⟨w.heap.size + 1, 2, none⟩ = some (.int .i64 x.f2) ∧ W.cell? ⟨w.heap.size + 1, 3, none⟩ = some (.int .i64 x.f3) ∧ W.cell? ⟨w.heap.size + 1, 4, none⟩ = some (.string x.f4) ∧ W.cell? ⟨w.heap.size + 1, 5, none⟩ = some (.bool x.f5)) ∧
    (W.cell? ⟨w.heap.size + 1 + 1, 0, none⟩ = some (.slice none 0 0) ∧ W.cell? ⟨w.heap.size + 1 + 1, 1, none⟩ = some (.int .i64 0) ∧ (∀ i, W.frozen? ⟨w.heap.size + 1 + 1, i, none⟩ = false)) ∧ w.heap.size < W.heap.size ∧ w.heap.size + 1 < W.heap.size ∧ w.heap.size + 1 + 1 < W.heap.size :=
  ⟨⟨blk_cell h.1 0, blk_cell h.1 1, blk_frozen h.1⟩, ⟨blk_cell h.2.1 0, blk_cell h.2.1 1, blk_cell h.2.1 2, blk_cell h.2.1 3, blk_cell h.2.1 4, blk_cell h.2.1 5⟩, ⟨blk_cell h.2.2.1 0, blk_cell h.2.2.1 1, blk_frozen h.2.2.1⟩, blk_lt h.1, blk_lt h.2.1, blk_lt h.2.2.1⟩

theorem OwnI.not_new {base : Nat} {w : World} {v : Value} {xs : List S26} (h : OwnI base w v xs) : v.ownBlock ≠ some w.heap.size := by
  rcases h with ⟨rfl, _⟩ | ⟨g, cap, sp, rfl, _, _, hg⟩
  · simp [Value.ownBlock]
  · have := blk_lt hg.1
    simp [Value.ownBlock]; omega

theorem Delete_own (base : Nat) (v : Value) (xs p q : List S26) (y : S26) (hxs : xs = p ++ y :: q) (w : World) (ho : OwnI base w v xs) (hb : base ≤ w.heap.size) :
    Calls Tryz.prog 28 #[v, .int .i64 (p.length : Int), .int .i64 ((p.length : Int) + 1)] w fun e w' => ∃ v', e = .returned v' ∧ OwnI base w' v' (p ++ q) ∧ Below base w w' := by
  subst hxs
  rcases ho with ⟨_, h0⟩ | ⟨g, cap, sp, rfl, hB, hn, hr⟩
  · exact absurd h0 (by simp)
  · have e : (p ++ y :: q).length = p.length + q.length + 1 := by simp; omega
    have := Delete_calls g cap p q y sp w hr hn
    rw [← e] at this
    refine Calls.mono this ?_
    rintro en w' ⟨he, ⟨sp', h1⟩, h2⟩
    refine ⟨_, he, .inr ⟨g, cap, sp', by simp, hB, by simp at hn ⊢; omega, h1⟩, ?_⟩
    exact (Below.refl base w).grown h2 hb (by intro k hk; injection hk; omega)

theorem item_at {w : World} {A : Option Addr} {xs : List S26} (hC : Kd.C k26 w A xs.length xs) (n : Nat) (h : n < xs.length) : ∃ ad, A = some ad ∧ w.cell? (ad.add (n * 6)) = some (.string xs[n].f0) ∧ w.cell? ⟨(ad.add (n * 6)).block, (ad.add (n * 6)).off + 1, none⟩ = some (.int .i64 xs[n].f1) ∧ w.cell? ⟨(ad.add (n * 6)).block, (ad.add (n * 6)).off + 2, none⟩ = some (.int .i64 xs[n].f2) ∧ w.cell? ⟨(ad.add (n * 6)).block, (ad.add (n * 6)).off + 3, none⟩ = some (.int .i64 xs[n].f3) ∧ w.cell? ⟨(ad.add (n * 6)).block, (ad.add (n * 6)).off + 4, none⟩ = some (.string xs[n].f4) ∧ w.cell? ⟨(ad.add (n * 6)).block, (ad.add (n * 6)).off + 5, none⟩ = some (.bool xs[n].f5) := by
  have := at_T26 hC (n : Int) (by omega) (by omega)
  rw [rd_at xs n h] at this
  simpa only [Int.toNat_natCast] using this

theorem put6 {w : World} {g : Nat} {t : TypeId} {a b c d e f a' b' c' d' e' f' : Value} (h : w.heap[g]? = some (.cells #[a, b, c, d, e, f] t (0, 0))) :
    ((((((w.setCell ⟨g, 0, none⟩ a').setCell ⟨g, 1, none⟩ b').setCell ⟨g, 2, none⟩ c').setCell ⟨g, 3, none⟩ d').setCell ⟨g, 4, none⟩ e').setCell ⟨g, 5, none⟩ f').heap[g]? = some (.cells #[a', b', c', d', e', f'] t (0, 0)) :=
  blk_put (blk_put (blk_put (blk_put (blk_put (blk_put h 0 a' rfl) 1 b' rfl) 2 c' rfl) 3 d' rfl) 4 e' rfl) 5 f' rfl
theorem OwnI.set {base : Nat} {w : World} {v : Value} {xs : List S26} (h : OwnI base w v xs) (a : Addr) (u : Value) (ha : a.block < base) : OwnI base (w.setCell a u) v xs := by
  rcases h with h | ⟨g, cap, sp, hv, hB, hn, hg, hr⟩
  · exact .inl h
  · exact .inr ⟨g, cap, sp, hv, hB, hn, by rw [Below.heap_setCell _ _ _ _ (by omega)]; exact hg, hr⟩
theorem OwnI.CA {base : Nat} {w : World} {A : Option Addr} {n c : Nat} {xs : List S26} (h : OwnI base w (.slice A n c) xs) (hl : xs.length ≤ 1099511627776) : Kd.C k26 w A xs.length xs := by
  obtain ⟨A', c', he, _, hC⟩ := h.C hl
  injection he with e1 e2 e3
  subst e1
  exact hC

theorem lacks_no {xs : List S26} {k : Int} {x was : S26} (h : lacksB xs k x was false = 0) : k = 20 := by
  unfold lacksB lacksR at h
  by_cases h20 : k = 20
  · exact h20
  · exfalso
    simp [h20] at h
    repeat' split at h
    all_goals first | omega | simp_all
theorem lacks_yes {xs : List S26} {k : Int} {x was : S26} (h : lacksB xs k x was true = 0) : k = 21 ∨ k = 22 := by
  unfold lacksB lacksR at h
  by_cases h20 : k = 20
  · exfalso
    subst h20
    simp at h
    split at h <;> omega
  · by_cases h21 : k = 21
    · exact .inl h21
    · by_cases h22 : k = 22
      · exact .inr h22
      · simp [h20, h21, h22] at h

set_option maxHeartbeats 2000000 in
set_option maxRecDepth 100000 in
theorem Apply_no (t : Int) (A : Option Addr) (c : Nat) (xs : List S26) (k : Int) (x : S26) (w : World) (hC : Kd.C k26 w A xs.length xs) (hcap : xs.length ≤ c) (hs : Sm xs) (hlb : xs.length ≤ 1000000) (hM : MonoB x xs) (h0 : x.f0.size ≤ 17592186044416) (h4 : x.f4.size ≤ 17592186044416) (hh : hitB x xs = false) (hxs : aheadB x xs ++ behindB x xs = xs) (cc : Int) (hk : lacksB xs k x z26 false = cc) (hc0 : cc ≠ 0) (hc1 : (cc == 0) = false) (hc2 : (cc != 0) = true) :
    Calls Tryz.prog 10 #[.agg #[.slice A xs.length c, .int .i64 t], .int .i64 k, iv x] w (Applied w t ((xs, cc))) := by
  obtain ⟨V, hV⟩ : ∃ V, ((w.alloc (.cells #[.slice A xs.length c, .int .i64 t] 24)).alloc (ib x)).alloc (.cells #[.slice none 0 0, .int .i64 0] 24) = V := ⟨_, rfl⟩
  have hG : Gp w (.cells #[.slice A xs.length c, .int .i64 t] 24 (0, 0)) x V := by
    rw [← hV]
    refine ⟨blk_alloc (blk_alloc (blk_new _ _) _) _, ?_, ?_, up (up (bel1 _ _) (bel1 _ _)) (bel1 _ _)⟩
    · rw [← World.size_alloc w (.cells #[.slice A xs.length c, .int .i64 t] 24)]; exact blk_alloc (blk_new _ _) _
    · have := blk_new ((w.alloc (.cells #[.slice A xs.length c, .int .i64 t] 24)).alloc (ib x)) (.cells #[.slice none 0 0, .int .i64 0] 24)
      rwa [World.size_alloc, World.size_alloc] at this
  have HV := Lib.hid hV
  have HG := Lib.hid hG
  have HC := Lib.hid hC
  have HS := Lib.hid hs
  have hl : xs.length ≤ 1000000 := hlb
  have HBIN := Lib.hid (Bin_calls x A c xs V (Kd.C_below hC hG.2.2.2) hs.1 hM)
  obtain ⟨⟨l0, l1, fl⟩, ⟨b0, b1, b2, b3, b4, b5⟩, ⟨r0, r1, fr⟩, hza, hzb, hsz⟩ := gp_facts hG
  obtain ⟨P, hP⟩ : ∃ P, aheadB x xs = P := ⟨_, rfl⟩
  obtain ⟨q, hq⟩ : ∃ q, behindB x xs = q := ⟨_, rfl⟩
  have hposl : posB x xs = P.length := by rw [← hP]; unfold aheadB; rw [List.length_take]; have := pos_le x xs; omega
  rw [hP, hq] at hxs
  have HXS := Lib.hid hxs
  rw [hposl, hh] at HBIN
  have HK := Lib.hid hk
  clear hV hG hC hs hM hlb hP hq hposl hxs hh
  go_enter Tryz.func10, Tryz.ntmps10
  go_upto_region 1 with fail
  rw [HV.out]
  go_wp2_with fail
  refine Calls.mono HBIN.out ?_
  rintro en w1 ⟨rfl, hb1⟩
  clear l0 l1 fl b0 b1 b2 b3 b4 b5 r0 r1 fr hza hzb hsz
  have HG1 := Lib.hid (HG.out.step hb1)
  obtain ⟨⟨l0, l1, fl⟩, ⟨b0, b1, b2, b3, b4, b5⟩, ⟨r0, r1, fr⟩, hza, hzb, hsz⟩ := gp_facts HG1.out
  clear hb1
  go_upto_region 3 with fail
  obtain ⟨W1, hW1⟩ : ∃ W1, W1 = w1.alloc (.cells #[.string ⟨#[]⟩, .int .i64 0, .int .i64 0, .int .i64 0, .string ⟨#[]⟩, .bool false] 26) := ⟨_, rfl⟩
  have hbx : Below w1.heap.size w1 W1 := by rw [hW1]; exact bel1 _ _
  have hnx : W1.heap[w1.heap.size]? = some (ib z26) := by rw [hW1]; exact blk_new w1 (ib z26)
  rw [← hW1]
  have HGX := Lib.hid (HG1.out.step hbx)
  obtain ⟨nb, hnb⟩ : ∃ nb, w1.heap.size = nb := ⟨_, rfl⟩
  rw [hnb] at hnx ⊢
  have hnl : w.heap.size + 1 + 1 < nb := by rw [← hnb]; exact hsz
  clear l0 l1 fl b0 b1 b2 b3 b4 b5 r0 r1 fr hza hzb hsz hW1 hbx hnb
  obtain ⟨⟨l0, l1, fl⟩, ⟨b0, b1, b2, b3, b4, b5⟩, ⟨r0, r1, fr⟩, hza, hzb, hsz⟩ := gp_facts HGX.out
  obtain ⟨n0, n1, n2, n3, n4, n5, nf0, nf1, nf2, nf3, nf4, nf5⟩ := cells6 hnx
  have HNX := Lib.hid hnx
  clear hnx
  clear nf0 nf1 nf2 nf3 nf4 nf5
  have HG2 := HGX
  obtain ⟨W2, hW2⟩ : ∃ W2, W1 = W2 := ⟨_, rfl⟩
  subst hW2
  go_wp2_with fail
  have HCC := HK
  clear hk
  have HL := Lib.hid (lacks_calls t A c xs k x z26 false W1 (Kd.C_below HC.out HG2.out.2.2.2) HS.out h0 h4)
  rw [HCC.out] at HL
  refine Calls.mono HL.out ?_
  rintro en w3 ⟨rfl, hb3⟩
  have HG3 := Lib.hid (HG2.out.step hb3)
  clear l0 l1 fl b0 b1 b2 b3 b4 b5 r0 r1 fr hza hzb hsz n0 n1 n2 n3 n4 n5 hb3 HL
  obtain ⟨⟨l0, l1, fl⟩, ⟨b0, b1, b2, b3, b4, b5⟩, ⟨r0, r1, fr⟩, hza, hzb, hsz⟩ := gp_facts HG3.out
  go_wp2_with fail
  have hle2 : w.heap.size ≤ w.heap.size + 1 + 1 := by omega
  refine bodyPost_ret (v := .tuple #[.agg #[.slice A xs.length c, .int .i64 t], .int .i64 cc]) ?hr rfl ⟨A, c, rfl, ?hc, hcap, ?hb⟩
  case hr => simp [results, Tryz.results10, go_sem, l0, l1, fl, r0, r1, fr]
  case hb =>
    refine (show Below w.heap.size w _ from ?_)
    repeat (with_reducible refine below_set (g := w.heap.size + 1 + 1) ?_ hle2)
    repeat (with_reducible refine below_set (g := w.heap.size) ?_ (Nat.le_refl _))
    repeat (with_reducible refine below_set (g := w.heap.size + 1 + 1) ?_ hle2)
    repeat (with_reducible refine below_set (g := w.heap.size) ?_ (Nat.le_refl _))
    exact HG3.out.2.2.2
  case hc =>
    refine Kd.C_below HC.out ?_
    refine (show Below w.heap.size w _ from ?_)
    repeat (with_reducible refine below_set (g := w.heap.size + 1 + 1) ?_ hle2)
    exact HG3.out.2.2.2

set_option maxHeartbeats 2000000 in
set_option maxRecDepth 100000 in
theorem Apply_no_there (t : Int) (A : Option Addr) (c : Nat) (xs : List S26) (k : Int) (x : S26) (w : World) (hC : Kd.C k26 w A xs.length xs) (hcap : xs.length ≤ c) (hs : Sm xs) (hlb : xs.length ≤ 1000000) (hM : MonoB x xs) (h0 : x.f0.size ≤ 17592186044416) (h4 : x.f4.size ≤ 17592186044416) (y : S26) (hh : hitB x xs = true) (hxs : xs = aheadB x xs ++ y :: behindB x xs) (cc : Int) (hk : lacksB xs k x y true = cc) (hc0 : cc ≠ 0) (hc1 : (cc == 0) = false) (hc2 : (cc != 0) = true) :
    Calls Tryz.prog 10 #[.agg #[.slice A xs.length c, .int .i64 t], .int .i64 k, iv x] w (Applied w t ((xs, cc))) := by
  obtain ⟨V, hV⟩ : ∃ V, ((w.alloc (.cells #[.slice A xs.length c, .int .i64 t] 24)).alloc (ib x)).alloc (.cells #[.slice none 0 0, .int .i64 0] 24) = V := ⟨_, rfl⟩
  have hG : Gp w (.cells #[.slice A xs.length c, .int .i64 t] 24 (0, 0)) x V := by
    rw [← hV]
    refine ⟨blk_alloc (blk_alloc (blk_new _ _) _) _, ?_, ?_, up (up (bel1 _ _) (bel1 _ _)) (bel1 _ _)⟩
    · rw [← World.size_alloc w (.cells #[.slice A xs.length c, .int .i64 t] 24)]; exact blk_alloc (blk_new _ _) _
    · have := blk_new ((w.alloc (.cells #[.slice A xs.length c, .int .i64 t] 24)).alloc (ib x)) (.cells #[.slice none 0 0, .int .i64 0] 24)
      rwa [World.size_alloc, World.size_alloc] at this
  have HV := Lib.hid hV
  have HG := Lib.hid hG
  have HC := Lib.hid hC
  have HS := Lib.hid hs
  have hl : xs.length ≤ 1000000 := hlb
  have HBIN := Lib.hid (Bin_calls x A c xs V (Kd.C_below hC hG.2.2.2) hs.1 hM)
  obtain ⟨⟨l0, l1, fl⟩, ⟨b0, b1, b2, b3, b4, b5⟩, ⟨r0, r1, fr⟩, hza, hzb, hsz⟩ := gp_facts hG
  obtain ⟨P, hP⟩ : ∃ P, aheadB x xs = P := ⟨_, rfl⟩
  obtain ⟨q, hq⟩ : ∃ q, behindB x xs = q := ⟨_, rfl⟩
  have hposl : posB x xs = P.length := by rw [← hP]; unfold aheadB; rw [List.length_take]; have := pos_le x xs; omega
  rw [hP, hq] at hxs
  have HXS := Lib.hid hxs
  rw [hposl, hh] at HBIN
  have hpl : P.length < xs.length := by rw [hxs]; simp
  have hyx : xs[P.length] = y := by simp [hxs]
  have HY := Lib.hid hyx
  clear hyx
  clear hV hG hC hs hM hlb hP hq hposl hxs hh
  have HK' := True.intro
  go_enter Tryz.func10, Tryz.ntmps10
  go_upto_region 1 with fail
  rw [HV.out]
  go_wp2_with fail
  refine Calls.mono HBIN.out ?_
  rintro en w1 ⟨rfl, hb1⟩
  clear l0 l1 fl b0 b1 b2 b3 b4 b5 r0 r1 fr hza hzb hsz
  have HG1 := Lib.hid (HG.out.step hb1)
  obtain ⟨⟨l0, l1, fl⟩, ⟨b0, b1, b2, b3, b4, b5⟩, ⟨r0, r1, fr⟩, hza, hzb, hsz⟩ := gp_facts HG1.out
  clear hb1
  go_upto_region 3 with fail
  obtain ⟨W1, hW1⟩ : ∃ W1, W1 = w1.alloc (.cells #[.string ⟨#[]⟩, .int .i64 0, .int .i64 0, .int .i64 0, .string ⟨#[]⟩, .bool false] 26) := ⟨_, rfl⟩
  have hbx : Below w1.heap.size w1 W1 := by rw [hW1]; exact bel1 _ _
  have hnx : W1.heap[w1.heap.size]? = some (ib z26) := by rw [hW1]; exact blk_new w1 (ib z26)
  rw [← hW1]
  have HGX := Lib.hid (HG1.out.step hbx)
  obtain ⟨nb, hnb⟩ : ∃ nb, w1.heap.size = nb := ⟨_, rfl⟩
  rw [hnb] at hnx ⊢
  have hnl : w.heap.size + 1 + 1 < nb := by rw [← hnb]; exact hsz
  clear l0 l1 fl b0 b1 b2 b3 b4 b5 r0 r1 fr hza hzb hsz hW1 hbx hnb
  obtain ⟨⟨l0, l1, fl⟩, ⟨b0, b1, b2, b3, b4, b5⟩, ⟨r0, r1, fr⟩, hza, hzb, hsz⟩ := gp_facts HGX.out
  obtain ⟨n0, n1, n2, n3, n4, n5, nf0, nf1, nf2, nf3, nf4, nf5⟩ := cells6 hnx
  have HNX := Lib.hid hnx
  clear hnx
  obtain ⟨ad, hA, q0, q1, q2, q3, q4, q5⟩ := item_at (Kd.C_below HC.out HGX.out.2.2.2) P.length hpl
  rw [HY.out] at q0 q1 q2 q3 q4 q5
  have HA := Lib.hid hA
  subst hA
  go_upto_region 5 with fail
  obtain ⟨W2, hW2⟩ : ∃ W2, W2 = (((((W1.setCell ⟨nb, 0, none⟩ (.string y.f0)).setCell ⟨nb, 1, none⟩ (.int .i64 y.f1)).setCell ⟨nb, 2, none⟩ (.int .i64 y.f2)).setCell ⟨nb, 3, none⟩ (.int .i64 y.f3)).setCell ⟨nb, 4, none⟩ (.string y.f4)).setCell ⟨nb, 5, none⟩ (.bool y.f5) := ⟨_, rfl⟩
  have hn2 : W2.heap[nb]? = some (ib y) := by rw [hW2]; exact put6 HNX.out
  have HG2 : Hid (Gp w (.cells #[.slice (some ad) xs.length c, .int .i64 t] 24 (0, 0)) x W2) := Lib.hid (by
    rw [hW2]
    refine ⟨?_, ?_, ?_, ?_⟩
    · rw [Below.heap_setCell _ _ _ _ (by show w.heap.size ≠ nb; omega), Below.heap_setCell _ _ _ _ (by show w.heap.size ≠ nb; omega), Below.heap_setCell _ _ _ _ (by show w.heap.size ≠ nb; omega), Below.heap_setCell _ _ _ _ (by show w.heap.size ≠ nb; omega), Below.heap_setCell _ _ _ _ (by show w.heap.size ≠ nb; omega), Below.heap_setCell _ _ _ _ (by show w.heap.size ≠ nb; omega)]
      exact HGX.out.1
    · rw [Below.heap_setCell _ _ _ _ (by show w.heap.size + 1 ≠ nb; omega), Below.heap_setCell _ _ _ _ (by show w.heap.size + 1 ≠ nb; omega), Below.heap_setCell _ _ _ _ (by show w.heap.size + 1 ≠ nb; omega), Below.heap_setCell _ _ _ _ (by show w.heap.size + 1 ≠ nb; omega), Below.heap_setCell _ _ _ _ (by show w.heap.size + 1 ≠ nb; omega), Below.heap_setCell _ _ _ _ (by show w.heap.size + 1 ≠ nb; omega)]
      exact HGX.out.2.1
    · rw [Below.heap_setCell _ _ _ _ (by show w.heap.size + 1 + 1 ≠ nb; omega), Below.heap_setCell _ _ _ _ (by show w.heap.size + 1 + 1 ≠ nb; omega), Below.heap_setCell _ _ _ _ (by show w.heap.size + 1 + 1 ≠ nb; omega), Below.heap_setCell _ _ _ _ (by show w.heap.size + 1 + 1 ≠ nb; omega), Below.heap_setCell _ _ _ _ (by show w.heap.size + 1 + 1 ≠ nb; omega), Below.heap_setCell _ _ _ _ (by show w.heap.size + 1 + 1 ≠ nb; omega)]
      exact HGX.out.2.2.1
    · refine (show Below w.heap.size w _ from ?_)
      have hle : w.heap.size ≤ nb := by omega
      repeat (with_reducible refine below_set (g := nb) ?_ hle)
      exact HGX.out.2.2.2)
  rw [← hW2]
  clear l0 l1 fl b0 b1 b2 b3 b4 b5 r0 r1 fr hza hzb hsz q0 q1 q2 q3 q4 q5 n0 n1 n2 n3 n4 n5 nf0 nf1 nf2 nf3 nf4 nf5 hW2
  obtain ⟨⟨l0, l1, fl⟩, ⟨b0, b1, b2, b3, b4, b5⟩, ⟨r0, r1, fr⟩, hza, hzb, hsz⟩ := gp_facts HG2.out
  obtain ⟨n0, n1, n2, n3, n4, n5, _, _, _, _, _, _⟩ := cells6 hn2
  clear hn2
  go_wp2_with fail
  have HCC : Hid (_ = cc) := Lib.hid hk
  clear hk
  have HL := Lib.hid (lacks_calls t (some ad) c xs k x y true W2 (Kd.C_below HC.out HG2.out.2.2.2) HS.out h0 h4)
  rw [HCC.out] at HL
  refine Calls.mono HL.out ?_
  rintro en w3 ⟨rfl, hb3⟩
  have HG3 := Lib.hid (HG2.out.step hb3)
  clear l0 l1 fl b0 b1 b2 b3 b4 b5 r0 r1 fr hza hzb hsz n0 n1 n2 n3 n4 n5 hb3 HL
  obtain ⟨⟨l0, l1, fl⟩, ⟨b0, b1, b2, b3, b4, b5⟩, ⟨r0, r1, fr⟩, hza, hzb, hsz⟩ := gp_facts HG3.out
  go_wp2_with fail
  have hle2 : w.heap.size ≤ w.heap.size + 1 + 1 := by omega
  refine bodyPost_ret (v := .tuple #[.agg #[.slice (some ad) xs.length c, .int .i64 t], .int .i64 cc]) ?hr rfl ⟨(some ad), c, rfl, ?hc, hcap, ?hb⟩
  case hr => simp [results, Tryz.results10, go_sem, l0, l1, fl, r0, r1, fr]
  case hb =>
    refine (show Below w.heap.size w _ from ?_)
    repeat (with_reducible refine below_set (g := w.heap.size + 1 + 1) ?_ hle2)
    repeat (with_reducible refine below_set (g := w.heap.size) ?_ (Nat.le_refl _))
    repeat (with_reducible refine below_set (g := w.heap.size + 1 + 1) ?_ hle2)
    repeat (with_reducible refine below_set (g := w.heap.size) ?_ (Nat.le_refl _))
    exact HG3.out.2.2.2
  case hc =>
    refine Kd.C_below HC.out ?_
    refine (show Below w.heap.size w _ from ?_)
    repeat (with_reducible refine below_set (g := w.heap.size + 1 + 1) ?_ hle2)
    exact HG3.out.2.2.2

set_option maxHeartbeats 2000000 in
set_option maxRecDepth 100000 in
theorem Apply_twin (t : Int) (A : Option Addr) (c : Nat) (xs : List S26) (k : Int) (x : S26) (w : World) (hC : Kd.C k26 w A xs.length xs) (hcap : xs.length ≤ c) (hs : Sm xs) (hlb : xs.length ≤ 1000000) (hM : MonoB x xs) (h0 : x.f0.size ≤ 17592186044416) (h4 : x.f4.size ≤ 17592186044416) (hh : hitB x xs = false) (hxs : aheadB x xs ++ behindB x xs = xs) (hk : lacksB xs k x z26 false = 0) (hk2 : k = 20) (hany : (aheadB x xs ++ behindB x xs).any (twinB x) = true) :
    Calls Tryz.prog 10 #[.agg #[.slice A xs.length c, .int .i64 t], .int .i64 k, iv x] w (Applied w t ((xs, 3))) := by
  subst hk2
  obtain ⟨V, hV⟩ : ∃ V, ((w.alloc (.cells #[.slice A xs.length c, .int .i64 t] 24)).alloc (ib x)).alloc (.cells #[.slice none 0 0, .int .i64 0] 24) = V := ⟨_, rfl⟩
  have hG : Gp w (.cells #[.slice A xs.length c, .int .i64 t] 24 (0, 0)) x V := by
    rw [← hV]
    refine ⟨blk_alloc (blk_alloc (blk_new _ _) _) _, ?_, ?_, up (up (bel1 _ _) (bel1 _ _)) (bel1 _ _)⟩
    · rw [← World.size_alloc w (.cells #[.slice A xs.length c, .int .i64 t] 24)]; exact blk_alloc (blk_new _ _) _
    · have := blk_new ((w.alloc (.cells #[.slice A xs.length c, .int .i64 t] 24)).alloc (ib x)) (.cells #[.slice none 0 0, .int .i64 0] 24)
      rwa [World.size_alloc, World.size_alloc] at this
  have HV := Lib.hid hV
  have HG := Lib.hid hG
  have HC := Lib.hid hC
  have HS := Lib.hid hs
  have hl : xs.length ≤ 1000000 := hlb
  have HBIN := Lib.hid (Bin_calls x A c xs V (Kd.C_below hC hG.2.2.2) hs.1 hM)
  obtain ⟨⟨l0, l1, fl⟩, ⟨b0, b1, b2, b3, b4, b5⟩, ⟨r0, r1, fr⟩, hza, hzb, hsz⟩ := gp_facts hG
  have HANY0 := Lib.hid hany
  clear hany
  obtain ⟨P, hP⟩ : ∃ P, aheadB x xs = P := ⟨_, rfl⟩
  obtain ⟨q, hq⟩ : ∃ q, behindB x xs = q := ⟨_, rfl⟩
  have hposl : posB x xs = P.length := by rw [← hP]; unfold aheadB; rw [List.length_take]; have := pos_le x xs; omega
  rw [hP, hq] at hxs HANY0
  have HANY := HANY0
  have HXS := Lib.hid hxs
  rw [hposl, hh] at HBIN
  have HK := Lib.hid hk
  clear hk
  clear hV hG hC hs hM hlb hP hq hposl hxs hh
  go_enter Tryz.func10, Tryz.ntmps10
  go_upto_region 1 with fail
  rw [HV.out]
  go_wp2_with fail
  refine Calls.mono HBIN.out ?_
  rintro en w1 ⟨rfl, hb1⟩
  clear l0 l1 fl b0 b1 b2 b3 b4 b5 r0 r1 fr hza hzb hsz
  have HG1 := Lib.hid (HG.out.step hb1)
  obtain ⟨⟨l0, l1, fl⟩, ⟨b0, b1, b2, b3, b4, b5⟩, ⟨r0, r1, fr⟩, hza, hzb, hsz⟩ := gp_facts HG1.out
  clear hb1
  go_upto_region 3 with fail
  obtain ⟨W1, hW1⟩ : ∃ W1, W1 = w1.alloc (.cells #[.string ⟨#[]⟩, .int .i64 0, .int .i64 0, .int .i64 0, .string ⟨#[]⟩, .bool false] 26) := ⟨_, rfl⟩
  have hbx : Below w1.heap.size w1 W1 := by rw [hW1]; exact bel1 _ _
  have hnx : W1.heap[w1.heap.size]? = some (ib z26) := by rw [hW1]; exact blk_new w1 (ib z26)
  rw [← hW1]
  have HGX := Lib.hid (HG1.out.step hbx)
  obtain ⟨nb, hnb⟩ : ∃ nb, w1.heap.size = nb := ⟨_, rfl⟩
  rw [hnb] at hnx ⊢
  have hnl : w.heap.size + 1 + 1 < nb := by rw [← hnb]; exact hsz
  clear l0 l1 fl b0 b1 b2 b3 b4 b5 r0 r1 fr hza hzb hsz hW1 hbx hnb
  obtain ⟨⟨l0, l1, fl⟩, ⟨b0, b1, b2, b3, b4, b5⟩, ⟨r0, r1, fr⟩, hza, hzb, hsz⟩ := gp_facts HGX.out
  obtain ⟨n0, n1, n2, n3, n4, n5, nf0, nf1, nf2, nf3, nf4, nf5⟩ := cells6 hnx
  have HNX := Lib.hid hnx
  clear hnx
  clear nf0 nf1 nf2 nf3 nf4 nf5
  have HG2 := HGX
  obtain ⟨W2, hW2⟩ : ∃ W2, W1 = W2 := ⟨_, rfl⟩
  subst hW2
  go_wp2_with fail
  have HL := Lib.hid (lacks_calls t A c xs 20 x z26 false W1 (Kd.C_below HC.out HG2.out.2.2.2) HS.out h0 h4)
  rw [HK.out] at HL
  refine Calls.mono HL.out ?_
  rintro en w3 ⟨rfl, hb3⟩
  have HG3 := Lib.hid (HG2.out.step hb3)
  clear l0 l1 fl b0 b1 b2 b3 b4 b5 r0 r1 fr hza hzb hsz n0 n1 n2 n3 n4 n5 hb3 HL
  obtain ⟨⟨l0, l1, fl⟩, ⟨b0, b1, b2, b3, b4, b5⟩, ⟨r0, r1, fr⟩, hza, hzb, hsz⟩ := gp_facts HG3.out
  go_wp2_with fail
  have HCL := Lib.hid (Clone_calls A c xs w3 (Kd.C_below HC.out HG3.out.2.2.2) HS.out.1)
  refine Calls.mono HCL.out ?_
  rintro en w4 ⟨v4, rfl, ho4, hb4⟩
  have HG4 := Lib.hid (HG3.out.step hb4)
  have HO4 := Lib.hid ho4
  clear l0 l1 fl b0 b1 b2 b3 b4 b5 r0 r1 fr hza hzb hsz ho4 HCL
  have HS34 := hb4.size
  clear hb4
  obtain ⟨⟨l0, l1, fl⟩, ⟨b0, b1, b2, b3, b4, b5⟩, ⟨r0, r1, fr⟩, hza, hzb, hsz⟩ := gp_facts HG4.out
  have hlq : (P ++ q).length ≤ 1000000 := by rw [HXS.out]; exact hl
  rw [← HXS.out] at HO4
  obtain ⟨M, hMM⟩ : ∃ M, P ++ q = M := ⟨_, rfl⟩
  have HMM := Lib.hid hMM
  rw [hMM] at HO4 hlq
  clear hMM
  obtain ⟨B, cB, hvB, hcB, hCB⟩ := HO4.out.C (by omega)
  have HVB := Lib.hid hvB
  have HCB := Lib.hid hCB
  clear hCB
  subst hvB
  have HZ : Hid (∀ z ∈ P ++ q, z.f0.size ≤ 17592186044416) := Lib.hid (fun z hz => (HS.out.2 z (by rw [← HXS.out]; exact hz)).1)
  have HTW := Lib.hid (Contains1_calls 29 (w.heap.size + 1) (twinB x) (enters_of Tryz.func29 (by kernel_rfl) rfl) B cB M w4 HCB.out (by omega) (fun W' z hz hb => twin1_calls x z (w.heap.size + 1) W' (blk_below HG4.out.2.1 hb) h0 (HZ.out z (by rw [HMM.out]; exact hz))))
  rw [show M.any (twinB x) = true by rw [← HMM.out]; exact HANY.out] at HTW
  go_wp2_with fail
  refine Calls.mono HTW.out ?_
  rintro en w6 ⟨rfl, hb6⟩
  have HG6 := Lib.hid (HG4.out.step hb6)
  have HO6 := Lib.hid (HO4.out.below hb6)
  have HS36 := Nat.le_trans HS34 hb6.size
  clear l0 l1 fl b0 b1 b2 b3 b4 b5 r0 r1 fr hza hzb hsz hb6 HTW
  obtain ⟨⟨l0, l1, fl⟩, ⟨b0, b1, b2, b3, b4, b5⟩, ⟨r0, r1, fr⟩, hza, hzb, hsz⟩ := gp_facts HG6.out
  go_wp2_with fail
  have hle2 : w.heap.size ≤ w.heap.size + 1 + 1 := by omega
  refine bodyPost_ret (v := .tuple #[.agg #[.slice A xs.length c, .int .i64 t], .int .i64 3]) ?hr rfl ⟨A, c, rfl, ?hc, hcap, ?hb⟩
  case hr => simp [results, Tryz.results10, go_sem, l0, l1, fl, r0, r1, fr]
  case hb =>
    refine (show Below w.heap.size w _ from ?_)
    repeat (with_reducible refine below_set (g := w.heap.size + 1 + 1) ?_ hle2)
    repeat (with_reducible refine below_set (g := w.heap.size) ?_ (Nat.le_refl _))
    repeat (with_reducible refine below_set (g := w.heap.size + 1 + 1) ?_ hle2)
    repeat (with_reducible refine below_set (g := w.heap.size) ?_ (Nat.le_refl _))
    exact HG6.out.2.2.2
  case hc =>
    refine Kd.C_below HC.out ?_
    refine (show Below w.heap.size w _ from ?_)
    repeat (with_reducible refine below_set (g := w.heap.size + 1 + 1) ?_ hle2)
    exact HG6.out.2.2.2

set_option maxHeartbeats 2000000 in
set_option maxRecDepth 100000 in
theorem Apply_in (t : Int) (A : Option Addr) (c : Nat) (xs : List S26) (k : Int) (x : S26) (w : World) (hC : Kd.C k26 w A xs.length xs) (hcap : xs.length ≤ c) (hs : Sm xs) (hlb : xs.length ≤ 1000000) (hM : MonoB x xs) (h0 : x.f0.size ≤ 17592186044416) (h4 : x.f4.size ≤ 17592186044416) (hh : hitB x xs = false) (hxs : aheadB x xs ++ behindB x xs = xs) (hk : lacksB xs k x z26 false = 0) (hk2 : k = 20) (hany : (aheadB x xs ++ behindB x xs).any (twinB x) = false) :
    Calls Tryz.prog 10 #[.agg #[.slice A xs.length c, .int .i64 t], .int .i64 k, iv x] w (Applied w t ((aheadB x xs ++ x :: behindB x xs, 0))) := by
  subst hk2
  obtain ⟨V, hV⟩ : ∃ V, ((w.alloc (.cells #[.slice A xs.length c, .int .i64 t] 24)).alloc (ib x)).alloc (.cells #[.slice none 0 0, .int .i64 0] 24) = V := ⟨_, rfl⟩
  have hG : Gp w (.cells #[.slice A xs.length c, .int .i64 t] 24 (0, 0)) x V := by
    rw [← hV]
    refine ⟨blk_alloc (blk_alloc (blk_new _ _) _) _, ?_, ?_, up (up (bel1 _ _) (bel1 _ _)) (bel1 _ _)⟩
    · rw [← World.size_alloc w (.cells #[.slice A xs.length c, .int .i64 t] 24)]; exact blk_alloc (blk_new _ _) _
    · have := blk_new ((w.alloc (.cells #[.slice A xs.length c, .int .i64 t] 24)).alloc (ib x)) (.cells #[.slice none 0 0, .int .i64 0] 24)
      rwa [World.size_alloc, World.size_alloc] at this
  have HV := Lib.hid hV
  have HG := Lib.hid hG
  have HC := Lib.hid hC
  have HS := Lib.hid hs
  have hl : xs.length ≤ 1000000 := hlb
  have HBIN := Lib.hid (Bin_calls x A c xs V (Kd.C_below hC hG.2.2.2) hs.1 hM)
  obtain ⟨⟨l0, l1, fl⟩, ⟨b0, b1, b2, b3, b4, b5⟩, ⟨r0, r1, fr⟩, hza, hzb, hsz⟩ := gp_facts hG
  have HANY0 := Lib.hid hany
  clear hany
  obtain ⟨P, hP⟩ : ∃ P, aheadB x xs = P := ⟨_, rfl⟩
  obtain ⟨q, hq⟩ : ∃ q, behindB x xs = q := ⟨_, rfl⟩
  have hposl : posB x xs = P.length := by rw [← hP]; unfold aheadB; rw [List.length_take]; have := pos_le x xs; omega
  rw [hP, hq] at hxs HANY0 ⊢
  have HANY := HANY0
  have HXS := Lib.hid hxs
  rw [hposl, hh] at HBIN
  have HK := Lib.hid hk
  clear hk
  clear hV hG hC hs hM hlb hP hq hposl hxs hh
  go_enter Tryz.func10, Tryz.ntmps10
  go_upto_region 1 with fail
  rw [HV.out]
  go_wp2_with fail
  refine Calls.mono HBIN.out ?_
  rintro en w1 ⟨rfl, hb1⟩
  clear l0 l1 fl b0 b1 b2 b3 b4 b5 r0 r1 fr hza hzb hsz
  have HG1 := Lib.hid (HG.out.step hb1)
  obtain ⟨⟨l0, l1, fl⟩, ⟨b0, b1, b2, b3, b4, b5⟩, ⟨r0, r1, fr⟩, hza, hzb, hsz⟩ := gp_facts HG1.out
  clear hb1
  go_upto_region 3 with fail
  obtain ⟨W1, hW1⟩ : ∃ W1, W1 = w1.alloc (.cells #[.string ⟨#[]⟩, .int .i64 0, .int .i64 0, .int .i64 0, .string ⟨#[]⟩, .bool false] 26) := ⟨_, rfl⟩
  have hbx : Below w1.heap.size w1 W1 := by rw [hW1]; exact bel1 _ _
  have hnx : W1.heap[w1.heap.size]? = some (ib z26) := by rw [hW1]; exact blk_new w1 (ib z26)
  rw [← hW1]
  have HGX := Lib.hid (HG1.out.step hbx)
  obtain ⟨nb, hnb⟩ : ∃ nb, w1.heap.size = nb := ⟨_, rfl⟩
  rw [hnb] at hnx ⊢
  have hnl : w.heap.size + 1 + 1 < nb := by rw [← hnb]; exact hsz
  clear l0 l1 fl b0 b1 b2 b3 b4 b5 r0 r1 fr hza hzb hsz hW1 hbx hnb
  obtain ⟨⟨l0, l1, fl⟩, ⟨b0, b1, b2, b3, b4, b5⟩, ⟨r0, r1, fr⟩, hza, hzb, hsz⟩ := gp_facts HGX.out
  obtain ⟨n0, n1, n2, n3, n4, n5, nf0, nf1, nf2, nf3, nf4, nf5⟩ := cells6 hnx
  have HNX := Lib.hid hnx
  clear hnx
  clear nf0 nf1 nf2 nf3 nf4 nf5
  have HG2 := HGX
  obtain ⟨W2, hW2⟩ : ∃ W2, W1 = W2 := ⟨_, rfl⟩
  subst hW2
  go_wp2_with fail
  have HL := Lib.hid (lacks_calls t A c xs 20 x z26 false W1 (Kd.C_below HC.out HG2.out.2.2.2) HS.out h0 h4)
  rw [HK.out] at HL
  refine Calls.mono HL.out ?_
  rintro en w3 ⟨rfl, hb3⟩
  have HG3 := Lib.hid (HG2.out.step hb3)
  clear l0 l1 fl b0 b1 b2 b3 b4 b5 r0 r1 fr hza hzb hsz n0 n1 n2 n3 n4 n5 hb3 HL
  obtain ⟨⟨l0, l1, fl⟩, ⟨b0, b1, b2, b3, b4, b5⟩, ⟨r0, r1, fr⟩, hza, hzb, hsz⟩ := gp_facts HG3.out
  go_wp2_with fail
  have HCL := Lib.hid (Clone_calls A c xs w3 (Kd.C_below HC.out HG3.out.2.2.2) HS.out.1)
  refine Calls.mono HCL.out ?_
  rintro en w4 ⟨v4, rfl, ho4, hb4⟩
  have HG4 := Lib.hid (HG3.out.step hb4)
  have HO4 := Lib.hid ho4
  clear l0 l1 fl b0 b1 b2 b3 b4 b5 r0 r1 fr hza hzb hsz ho4 HCL
  have HS34 := hb4.size
  clear hb4
  obtain ⟨⟨l0, l1, fl⟩, ⟨b0, b1, b2, b3, b4, b5⟩, ⟨r0, r1, fr⟩, hza, hzb, hsz⟩ := gp_facts HG4.out
  have hlq : (P ++ q).length ≤ 1000000 := by rw [HXS.out]; exact hl
  rw [← HXS.out] at HO4
  obtain ⟨M, hMM⟩ : ∃ M, P ++ q = M := ⟨_, rfl⟩
  have HMM := Lib.hid hMM
  rw [hMM] at HO4 hlq
  clear hMM
  obtain ⟨B, cB, hvB, hcB, hCB⟩ := HO4.out.C (by omega)
  have HVB := Lib.hid hvB
  have HCB := Lib.hid hCB
  clear hCB
  subst hvB
  have HZ : Hid (∀ z ∈ P ++ q, z.f0.size ≤ 17592186044416) := Lib.hid (fun z hz => (HS.out.2 z (by rw [← HXS.out]; exact hz)).1)
  have HTW := Lib.hid (Contains1_calls 29 (w.heap.size + 1) (twinB x) (enters_of Tryz.func29 (by kernel_rfl) rfl) B cB M w4 HCB.out (by omega) (fun W' z hz hb => twin1_calls x z (w.heap.size + 1) W' (blk_below HG4.out.2.1 hb) h0 (HZ.out z (by rw [HMM.out]; exact hz))))
  rw [show M.any (twinB x) = false by rw [← HMM.out]; exact HANY.out] at HTW
  go_wp2_with fail
  refine Calls.mono HTW.out ?_
  rintro en w6 ⟨rfl, hb6⟩
  have HG6 := Lib.hid (HG4.out.step hb6)
  have HO6 := Lib.hid (HO4.out.below hb6)
  have HS36 := Nat.le_trans HS34 hb6.size
  clear l0 l1 fl b0 b1 b2 b3 b4 b5 r0 r1 fr hza hzb hsz hb6 HTW
  obtain ⟨⟨l0, l1, fl⟩, ⟨b0, b1, b2, b3, b4, b5⟩, ⟨r0, r1, fr⟩, hza, hzb, hsz⟩ := gp_facts HG6.out
  have HN6 := Lib.hid (blk_new w6 (ib x))
  have HG7 := Lib.hid (HG6.out.step (bel1 w6 (ib x)))
  have HINS := Lib.hid (Insert_calls w3.heap.size _ P q x w6.heap.size (w6.alloc (ib x)) (by rw [HMM.out]; exact HO6.out.below (bel1 w6 _)) HN6.out HO6.out.not_new (by rw [World.size_alloc]; omega) (by rw [HMM.out]; omega))
  go_wp2_with fail
  refine Calls.mono HINS.out ?_
  rintro en w8 ⟨v8, rfl, ho8, hb8⟩
  have HG8 := Lib.hid (show Gp w (.cells #[.slice A xs.length c, .int .i64 t] 24 (0, 0)) x w8 from ⟨(hb8.block _ (by have := blk_lt HG3.out.1; omega)).trans HG7.out.1, (hb8.block _ (by have := blk_lt HG3.out.2.1; omega)).trans HG7.out.2.1, (hb8.block _ (by have := blk_lt HG3.out.2.2.1; omega)).trans HG7.out.2.2.1, HG7.out.2.2.2.trans (hb8.mono HG3.out.2.2.2.size)⟩)
  have HO8 := Lib.hid ho8
  clear l0 l1 fl b0 b1 b2 b3 b4 b5 r0 r1 fr hza hzb hsz ho8 HINS
  have HS38 : w3.heap.size ≤ w8.heap.size := by have := hb8.size; rw [World.size_alloc] at this; omega
  clear hb8
  obtain ⟨⟨l0, l1, fl⟩, ⟨b0, b1, b2, b3, b4, b5⟩, ⟨r0, r1, fr⟩, hza, hzb, hsz⟩ := gp_facts HG8.out
  have hl8 : (P ++ x :: q).length ≤ 1099511627776 := by have h := hlq; rw [← HMM.out] at h; simp at h ⊢; omega
  obtain ⟨N, hNN⟩ : ∃ N, P ++ x :: q = N := ⟨_, rfl⟩
  have HNN := Lib.hid hNN
  rw [hNN] at HO8 hl8
  clear hNN
  obtain ⟨B8, c8, hv8, hc8, -⟩ := HO8.out.C hl8
  subst hv8
  go_wp2_with fail
  have hle2 : w.heap.size ≤ w.heap.size + 1 + 1 := by omega
  refine bodyPost_ret (v := .tuple #[.agg #[.slice B8 N.length c8, .int .i64 t], .int .i64 0]) ?hr rfl ⟨B8, c8, (by show _ = Ending.returned (.tuple #[.agg #[.slice B8 (P ++ x :: q).length c8, .int .i64 t], .int .i64 0]); rw [HNN.out]), ?hc, (by show (P ++ x :: q).length ≤ c8; rw [HNN.out]; exact hc8), ?hb⟩
  case hr => simp [results, Tryz.results10, go_sem, l0, l1, fl, r0, r1, fr]
  case hb =>
    refine (show Below w.heap.size w _ from ?_)
    repeat (with_reducible refine below_set (g := w.heap.size + 1 + 1) ?_ hle2)
    repeat (with_reducible refine below_set (g := w.heap.size) ?_ (Nat.le_refl _))
    repeat (with_reducible refine below_set (g := w.heap.size + 1 + 1) ?_ hle2)
    repeat (with_reducible refine below_set (g := w.heap.size) ?_ (Nat.le_refl _))
    exact HG8.out.2.2.2
  case hc =>
    show Kd.C k26 _ B8 (P ++ x :: q).length (P ++ x :: q)
    rw [HNN.out]
    have hb3a := blk_lt HG3.out.1
    have hb3b := blk_lt HG3.out.2.2.1
    refine OwnI.CA (base := w3.heap.size) (n := N.length) (c := c8) ?_ hl8
    refine OwnI.set (OwnI.set (OwnI.set HO8.out _ _ ?_) _ _ ?_) _ _ ?_
    · exact hb3a
    · exact hb3b
    · exact hb3b

set_option maxHeartbeats 2000000 in
set_option maxRecDepth 100000 in
theorem Apply_twin_there (t : Int) (A : Option Addr) (c : Nat) (xs : List S26) (k : Int) (x : S26) (w : World) (hC : Kd.C k26 w A xs.length xs) (hcap : xs.length ≤ c) (hs : Sm xs) (hlb : xs.length ≤ 1000000) (hM : MonoB x xs) (h0 : x.f0.size ≤ 17592186044416) (h4 : x.f4.size ≤ 17592186044416) (y : S26) (hh : hitB x xs = true) (hxs : xs = aheadB x xs ++ y :: behindB x xs) (hk : lacksB xs k x y true = 0) (hk2 : k = 21) (hany : (aheadB x xs ++ behindB x xs).any (twinB x) = true) :
    Calls Tryz.prog 10 #[.agg #[.slice A xs.length c, .int .i64 t], .int .i64 k, iv x] w (Applied w t ((xs, 3))) := by
  subst hk2
  obtain ⟨V, hV⟩ : ∃ V, ((w.alloc (.cells #[.slice A xs.length c, .int .i64 t] 24)).alloc (ib x)).alloc (.cells #[.slice none 0 0, .int .i64 0] 24) = V := ⟨_, rfl⟩
  have hG : Gp w (.cells #[.slice A xs.length c, .int .i64 t] 24 (0, 0)) x V := by
    rw [← hV]
    refine ⟨blk_alloc (blk_alloc (blk_new _ _) _) _, ?_, ?_, up (up (bel1 _ _) (bel1 _ _)) (bel1 _ _)⟩
    · rw [← World.size_alloc w (.cells #[.slice A xs.length c, .int .i64 t] 24)]; exact blk_alloc (blk_new _ _) _
    · have := blk_new ((w.alloc (.cells #[.slice A xs.length c, .int .i64 t] 24)).alloc (ib x)) (.cells #[.slice none 0 0, .int .i64 0] 24)
      rwa [World.size_alloc, World.size_alloc] at this
  have HV := Lib.hid hV
  have HG := Lib.hid hG
  have HC := Lib.hid hC
  have HS := Lib.hid hs
  have hl : xs.length ≤ 1000000 := hlb
  have HBIN := Lib.hid (Bin_calls x A c xs V (Kd.C_below hC hG.2.2.2) hs.1 hM)
  obtain ⟨⟨l0, l1, fl⟩, ⟨b0, b1, b2, b3, b4, b5⟩, ⟨r0, r1, fr⟩, hza, hzb, hsz⟩ := gp_facts hG
  have HANY0 := Lib.hid hany
  clear hany
  obtain ⟨P, hP⟩ : ∃ P, aheadB x xs = P := ⟨_, rfl⟩
  obtain ⟨q, hq⟩ : ∃ q, behindB x xs = q := ⟨_, rfl⟩
  have hposl : posB x xs = P.length := by rw [← hP]; unfold aheadB; rw [List.length_take]; have := pos_le x xs; omega
  rw [hP, hq] at hxs HANY0
  have HANY := HANY0
  have HXS := Lib.hid hxs
  rw [hposl, hh] at HBIN
  have hpl : P.length < xs.length := by rw [hxs]; simp
  have hyx : xs[P.length] = y := by simp [hxs]
  have HY := Lib.hid hyx
  clear hyx
  have HKK := Lib.hid hk
  clear hk hV hG hC hs hM hlb hP hq hposl hxs hh
  go_enter Tryz.func10, Tryz.ntmps10
  go_upto_region 1 with fail
  rw [HV.out]
  go_wp2_with fail
  refine Calls.mono HBIN.out ?_
  rintro en w1 ⟨rfl, hb1⟩
  clear l0 l1 fl b0 b1 b2 b3 b4 b5 r0 r1 fr hza hzb hsz
  have HG1 := Lib.hid (HG.out.step hb1)
  obtain ⟨⟨l0, l1, fl⟩, ⟨b0, b1, b2, b3, b4, b5⟩, ⟨r0, r1, fr⟩, hza, hzb, hsz⟩ := gp_facts HG1.out
  clear hb1
  go_upto_region 3 with fail
  obtain ⟨W1, hW1⟩ : ∃ W1, W1 = w1.alloc (.cells #[.string ⟨#[]⟩, .int .i64 0, .int .i64 0, .int .i64 0, .string ⟨#[]⟩, .bool false] 26) := ⟨_, rfl⟩
  have hbx : Below w1.heap.size w1 W1 := by rw [hW1]; exact bel1 _ _
  have hnx : W1.heap[w1.heap.size]? = some (ib z26) := by rw [hW1]; exact blk_new w1 (ib z26)
  rw [← hW1]
  have HGX := Lib.hid (HG1.out.step hbx)
  obtain ⟨nb, hnb⟩ : ∃ nb, w1.heap.size = nb := ⟨_, rfl⟩
  rw [hnb] at hnx ⊢
  have hnl : w.heap.size + 1 + 1 < nb := by rw [← hnb]; exact hsz
  clear l0 l1 fl b0 b1 b2 b3 b4 b5 r0 r1 fr hza hzb hsz hW1 hbx hnb
  obtain ⟨⟨l0, l1, fl⟩, ⟨b0, b1, b2, b3, b4, b5⟩, ⟨r0, r1, fr⟩, hza, hzb, hsz⟩ := gp_facts HGX.out
  obtain ⟨n0, n1, n2, n3, n4, n5, nf0, nf1, nf2, nf3, nf4, nf5⟩ := cells6 hnx
  have HNX := Lib.hid hnx
  clear hnx
  obtain ⟨ad, hA, q0, q1, q2, q3, q4, q5⟩ := item_at (Kd.C_below HC.out HGX.out.2.2.2) P.length hpl
  rw [HY.out] at q0 q1 q2 q3 q4 q5
  have HA := Lib.hid hA
  subst hA
  go_upto_region 5 with fail
  obtain ⟨W2, hW2⟩ : ∃ W2, W2 = (((((W1.setCell ⟨nb, 0, none⟩ (.string y.f0)).setCell ⟨nb, 1, none⟩ (.int .i64 y.f1)).setCell ⟨nb, 2, none⟩ (.int .i64 y.f2)).setCell ⟨nb, 3, none⟩ (.int .i64 y.f3)).setCell ⟨nb, 4, none⟩ (.string y.f4)).setCell ⟨nb, 5, none⟩ (.bool y.f5) := ⟨_, rfl⟩
  have hn2 : W2.heap[nb]? = some (ib y) := by rw [hW2]; exact put6 HNX.out
  have HG2 : Hid (Gp w (.cells #[.slice (some ad) xs.length c, .int .i64 t] 24 (0, 0)) x W2) := Lib.hid (by
    rw [hW2]
    refine ⟨?_, ?_, ?_, ?_⟩
    · rw [Below.heap_setCell _ _ _ _ (by show w.heap.size ≠ nb; omega), Below.heap_setCell _ _ _ _ (by show w.heap.size ≠ nb; omega), Below.heap_setCell _ _ _ _ (by show w.heap.size ≠ nb; omega), Below.heap_setCell _ _ _ _ (by show w.heap.size ≠ nb; omega), Below.heap_setCell _ _ _ _ (by show w.heap.size ≠ nb; omega), Below.heap_setCell _ _ _ _ (by show w.heap.size ≠ nb; omega)]
      exact HGX.out.1
    · rw [Below.heap_setCell _ _ _ _ (by show w.heap.size + 1 ≠ nb; omega), Below.heap_setCell _ _ _ _ (by show w.heap.size + 1 ≠ nb; omega), Below.heap_setCell _ _ _ _ (by show w.heap.size + 1 ≠ nb; omega), Below.heap_setCell _ _ _ _ (by show w.heap.size + 1 ≠ nb; omega), Below.heap_setCell _ _ _ _ (by show w.heap.size + 1 ≠ nb; omega), Below.heap_setCell _ _ _ _ (by show w.heap.size + 1 ≠ nb; omega)]
      exact HGX.out.2.1
    · rw [Below.heap_setCell _ _ _ _ (by show w.heap.size + 1 + 1 ≠ nb; omega), Below.heap_setCell _ _ _ _ (by show w.heap.size + 1 + 1 ≠ nb; omega), Below.heap_setCell _ _ _ _ (by show w.heap.size + 1 + 1 ≠ nb; omega), Below.heap_setCell _ _ _ _ (by show w.heap.size + 1 + 1 ≠ nb; omega), Below.heap_setCell _ _ _ _ (by show w.heap.size + 1 + 1 ≠ nb; omega), Below.heap_setCell _ _ _ _ (by show w.heap.size + 1 + 1 ≠ nb; omega)]
      exact HGX.out.2.2.1
    · refine (show Below w.heap.size w _ from ?_)
      have hle : w.heap.size ≤ nb := by omega
      repeat (with_reducible refine below_set (g := nb) ?_ hle)
      exact HGX.out.2.2.2)
  rw [← hW2]
  clear l0 l1 fl b0 b1 b2 b3 b4 b5 r0 r1 fr hza hzb hsz q0 q1 q2 q3 q4 q5 n0 n1 n2 n3 n4 n5 nf0 nf1 nf2 nf3 nf4 nf5 hW2
  obtain ⟨⟨l0, l1, fl⟩, ⟨b0, b1, b2, b3, b4, b5⟩, ⟨r0, r1, fr⟩, hza, hzb, hsz⟩ := gp_facts HG2.out
  obtain ⟨n0, n1, n2, n3, n4, n5, _, _, _, _, _, _⟩ := cells6 hn2
  clear hn2
  go_wp2_with fail
  have HL := Lib.hid (lacks_calls t (some ad) c xs 21 x y true W2 (Kd.C_below HC.out HG2.out.2.2.2) HS.out h0 h4)
  rw [HKK.out] at HL
  refine Calls.mono HL.out ?_
  rintro en w3 ⟨rfl, hb3⟩
  have HG3 := Lib.hid (HG2.out.step hb3)
  clear l0 l1 fl b0 b1 b2 b3 b4 b5 r0 r1 fr hza hzb hsz n0 n1 n2 n3 n4 n5 hb3 HL
  obtain ⟨⟨l0, l1, fl⟩, ⟨b0, b1, b2, b3, b4, b5⟩, ⟨r0, r1, fr⟩, hza, hzb, hsz⟩ := gp_facts HG3.out
  go_wp2_with fail
  have HCL := Lib.hid (Clone_calls (some ad) c xs w3 (Kd.C_below HC.out HG3.out.2.2.2) HS.out.1)
  refine Calls.mono HCL.out ?_
  rintro en w4 ⟨v4, rfl, ho4, hb4⟩
  have HG4 := Lib.hid (HG3.out.step hb4)
  have HO4 := Lib.hid ho4
  clear l0 l1 fl b0 b1 b2 b3 b4 b5 r0 r1 fr hza hzb hsz ho4 HCL
  have HS34 := hb4.size
  clear hb4
  obtain ⟨⟨l0, l1, fl⟩, ⟨b0, b1, b2, b3, b4, b5⟩, ⟨r0, r1, fr⟩, hza, hzb, hsz⟩ := gp_facts HG4.out
  have HDL := Lib.hid (Delete_own w3.heap.size v4 xs P q y HXS.out w4 HO4.out HS34)
  go_wp2_with fail
  refine Calls.mono HDL.out ?_
  rintro en w5 ⟨v5, rfl, ho5, hb5⟩
  have HG5 := Lib.hid (show Gp w (.cells #[.slice (some ad) xs.length c, .int .i64 t] 24 (0, 0)) x w5 from ⟨(hb5.block _ (by have := blk_lt HG3.out.1; omega)).trans HG4.out.1, (hb5.block _ (by have := blk_lt HG3.out.2.1; omega)).trans HG4.out.2.1, (hb5.block _ (by have := blk_lt HG3.out.2.2.1; omega)).trans HG4.out.2.2.1, HG4.out.2.2.2.trans (hb5.mono HG3.out.2.2.2.size)⟩)
  have HO5 := Lib.hid ho5
  clear l0 l1 fl b0 b1 b2 b3 b4 b5 r0 r1 fr hza hzb hsz ho5 HDL
  have HS35 := Nat.le_trans HS34 hb5.size
  clear hb5
  obtain ⟨⟨l0, l1, fl⟩, ⟨b0, b1, b2, b3, b4, b5⟩, ⟨r0, r1, fr⟩, hza, hzb, hsz⟩ := gp_facts HG5.out
  have hlq : (P ++ q).length ≤ 1000000 := by have h := hl; rw [HXS.out] at h; simp at h ⊢; omega
  obtain ⟨M, hMM⟩ : ∃ M, P ++ q = M := ⟨_, rfl⟩
  have HMM := Lib.hid hMM
  rw [hMM] at HO5 hlq
  clear hMM
  obtain ⟨B, cB, hvB, hcB, hCB⟩ := HO5.out.C (by omega)
  have HVB := Lib.hid hvB
  have HCB := Lib.hid hCB
  clear hCB
  subst hvB
  have HZ : Hid (∀ z ∈ P ++ q, z.f0.size ≤ 17592186044416) := Lib.hid (fun z hz => (HS.out.2 z (by rw [HXS.out]; simp at hz ⊢; rcases hz with h | h <;> simp [h])).1)
  have HTW := Lib.hid (Contains1_calls 29 (w.heap.size + 1) (twinB x) (enters_of Tryz.func29 (by kernel_rfl) rfl) B cB M w5 HCB.out (by omega) (fun W' z hz hb => twin1_calls x z (w.heap.size + 1) W' (blk_below HG5.out.2.1 hb) h0 (HZ.out z (by rw [HMM.out]; exact hz))))
  rw [show M.any (twinB x) = true by rw [← HMM.out]; exact HANY.out] at HTW
  go_wp2_with fail
  refine Calls.mono HTW.out ?_
  rintro en w6 ⟨rfl, hb6⟩
  have HG6 := Lib.hid (HG5.out.step hb6)
  have HO6 := Lib.hid (HO5.out.below hb6)
  have HS36 := Nat.le_trans HS35 hb6.size
  clear l0 l1 fl b0 b1 b2 b3 b4 b5 r0 r1 fr hza hzb hsz hb6 HTW
  obtain ⟨⟨l0, l1, fl⟩, ⟨b0, b1, b2, b3, b4, b5⟩, ⟨r0, r1, fr⟩, hza, hzb, hsz⟩ := gp_facts HG6.out
  go_wp2_with fail
  have hle2 : w.heap.size ≤ w.heap.size + 1 + 1 := by omega
  refine bodyPost_ret (v := .tuple #[.agg #[.slice (some ad) xs.length c, .int .i64 t], .int .i64 3]) ?hr rfl ⟨(some ad), c, rfl, ?hc, hcap, ?hb⟩
  case hr => simp [results, Tryz.results10, go_sem, l0, l1, fl, r0, r1, fr]
  case hb =>
    refine (show Below w.heap.size w _ from ?_)
    repeat (with_reducible refine below_set (g := w.heap.size + 1 + 1) ?_ hle2)
    repeat (with_reducible refine below_set (g := w.heap.size) ?_ (Nat.le_refl _))
    repeat (with_reducible refine below_set (g := w.heap.size + 1 + 1) ?_ hle2)
    repeat (with_reducible refine below_set (g := w.heap.size) ?_ (Nat.le_refl _))
    exact HG6.out.2.2.2
  case hc =>
    refine Kd.C_below HC.out ?_
    refine (show Below w.heap.size w _ from ?_)
    repeat (with_reducible refine below_set (g := w.heap.size + 1 + 1) ?_ hle2)
    exact HG6.out.2.2.2

set_option maxHeartbeats 2000000 in
set_option maxRecDepth 100000 in
theorem Apply_in_there (t : Int) (A : Option Addr) (c : Nat) (xs : List S26) (k : Int) (x : S26) (w : World) (hC : Kd.C k26 w A xs.length xs) (hcap : xs.length ≤ c) (hs : Sm xs) (hlb : xs.length ≤ 1000000) (hM : MonoB x xs) (h0 : x.f0.size ≤ 17592186044416) (h4 : x.f4.size ≤ 17592186044416) (y : S26) (hh : hitB x xs = true) (hxs : xs = aheadB x xs ++ y :: behindB x xs) (hk : lacksB xs k x y true = 0) (hk2 : k = 21) (hany : (aheadB x xs ++ behindB x xs).any (twinB x) = false) :
    Calls Tryz.prog 10 #[.agg #[.slice A xs.length c, .int .i64 t], .int .i64 k, iv x] w (Applied w t ((aheadB x xs ++ x :: behindB x xs, 0))) := by
  subst hk2
  obtain ⟨V, hV⟩ : ∃ V, ((w.alloc (.cells #[.slice A xs.length c, .int .i64 t] 24)).alloc (ib x)).alloc (.cells #[.slice none 0 0, .int .i64 0] 24) = V := ⟨_, rfl⟩
  have hG : Gp w (.cells #[.slice A xs.length c, .int .i64 t] 24 (0, 0)) x V := by
    rw [← hV]
    refine ⟨blk_alloc (blk_alloc (blk_new _ _) _) _, ?_, ?_, up (up (bel1 _ _) (bel1 _ _)) (bel1 _ _)⟩
    · rw [← World.size_alloc w (.cells #[.slice A xs.length c, .int .i64 t] 24)]; exact blk_alloc (blk_new _ _) _
    · have := blk_new ((w.alloc (.cells #[.slice A xs.length c, .int .i64 t] 24)).alloc (ib x)) (.cells #[.slice none 0 0, .int .i64 0] 24)
      rwa [World.size_alloc, World.size_alloc] at this
  have HV := Lib.hid hV
  have HG := Lib.hid hG
  have HC := Lib.hid hC
  have HS := Lib.hid hs
  have hl : xs.length ≤ 1000000 := hlb
  have HBIN := Lib.hid (Bin_calls x A c xs V (Kd.C_below hC hG.2.2.2) hs.1 hM)
  obtain ⟨⟨l0, l1, fl⟩, ⟨b0, b1, b2, b3, b4, b5⟩, ⟨r0, r1, fr⟩, hza, hzb, hsz⟩ := gp_facts hG
  have HANY0 := Lib.hid hany
  clear hany
  obtain ⟨P, hP⟩ : ∃ P, aheadB x xs = P := ⟨_, rfl⟩
  obtain ⟨q, hq⟩ : ∃ q, behindB x xs = q := ⟨_, rfl⟩
  have hposl : posB x xs = P.length := by rw [← hP]; unfold aheadB; rw [List.length_take]; have := pos_le x xs; omega
  rw [hP, hq] at hxs HANY0 ⊢
  have HANY := HANY0
  have HXS := Lib.hid hxs
  rw [hposl, hh] at HBIN
  have hpl : P.length < xs.length := by rw [hxs]; simp
  have hyx : xs[P.length] = y := by simp [hxs]
  have HY := Lib.hid hyx
  clear hyx
  have HKK := Lib.hid hk
  clear hk hV hG hC hs hM hlb hP hq hposl hxs hh
  go_enter Tryz.func10, Tryz.ntmps10
  go_upto_region 1 with fail
  rw [HV.out]
  go_wp2_with fail
  refine Calls.mono HBIN.out ?_
  rintro en w1 ⟨rfl, hb1⟩
  clear l0 l1 fl b0 b1 b2 b3 b4 b5 r0 r1 fr hza hzb hsz
  have HG1 := Lib.hid (HG.out.step hb1)
  obtain ⟨⟨l0, l1, fl⟩, ⟨b0, b1, b2, b3, b4, b5⟩, ⟨r0, r1, fr⟩, hza, hzb, hsz⟩ := gp_facts HG1.out
  clear hb1
  go_upto_region 3 with fail
  obtain ⟨W1, hW1⟩ : ∃ W1, W1 = w1.alloc (.cells #[.string ⟨#[]⟩, .int .i64 0, .int .i64 0, .int .i64 0, .string ⟨#[]⟩, .bool false] 26) := ⟨_, rfl⟩
  have hbx : Below w1.heap.size w1 W1 := by rw [hW1]; exact bel1 _ _
  have hnx : W1.heap[w1.heap.size]? = some (ib z26) := by rw [hW1]; exact blk_new w1 (ib z26)
  rw [← hW1]
  have HGX := Lib.hid (HG1.out.step hbx)
  obtain ⟨nb, hnb⟩ : ∃ nb, w1.heap.size = nb := ⟨_, rfl⟩
  rw [hnb] at hnx ⊢
  have hnl : w.heap.size + 1 + 1 < nb := by rw [← hnb]; exact hsz
  clear l0 l1 fl b0 b1 b2 b3 b4 b5 r0 r1 fr hza hzb hsz hW1 hbx hnb
  obtain ⟨⟨l0, l1, fl⟩, ⟨b0, b1, b2, b3, b4, b5⟩, ⟨r0, r1, fr⟩, hza, hzb, hsz⟩ := gp_facts HGX.out
  obtain ⟨n0, n1, n2, n3, n4, n5, nf0, nf1, nf2, nf3, nf4, nf5⟩ := cells6 hnx
  have HNX := Lib.hid hnx
  clear hnx
  obtain ⟨ad, hA, q0, q1, q2, q3, q4, q5⟩ := item_at (Kd.C_below HC.out HGX.out.2.2.2) P.length hpl
  rw [HY.out] at q0 q1 q2 q3 q4 q5
  have HA := Lib.hid hA
  subst hA
  go_upto_region 5 with fail
  obtain ⟨W2, hW2⟩ : ∃ W2, W2 = (((((W1.setCell ⟨nb, 0, none⟩ (.string y.f0)).setCell ⟨nb, 1, none⟩ (.int .i64 y.f1)).setCell ⟨nb, 2, none⟩ (.int .i64 y.f2)).setCell ⟨nb, 3, none⟩ (.int .i64 y.f3)).setCell ⟨nb, 4, none⟩ (.string y.f4)).setCell ⟨nb, 5, none⟩ (.bool y.f5) := ⟨_, rfl⟩
  have hn2 : W2.heap[nb]? = some (ib y) := by rw [hW2]; exact put6 HNX.out
  have HG2 : Hid (Gp w (.cells #[.slice (some ad) xs.length c, .int .i64 t] 24 (0, 0)) x W2) := Lib.hid (by
    rw [hW2]
    refine ⟨?_, ?_, ?_, ?_⟩
    · rw [Below.heap_setCell _ _ _ _ (by show w.heap.size ≠ nb; omega), Below.heap_setCell _ _ _ _ (by show w.heap.size ≠ nb; omega), Below.heap_setCell _ _ _ _ (by show w.heap.size ≠ nb; omega), Below.heap_setCell _ _ _ _ (by show w.heap.size ≠ nb; omega), Below.heap_setCell _ _ _ _ (by show w.heap.size ≠ nb; omega), Below.heap_setCell _ _ _ _ (by show w.heap.size ≠ nb; omega)]
      exact HGX.out.1
    · rw [Below.heap_setCell _ _ _ _ (by show w.heap.size + 1 ≠ nb; omega), Below.heap_setCell _ _ _ _ (by show w.heap.size + 1 ≠ nb; omega), Below.heap_setCell _ _ _ _ (by show w.heap.size + 1 ≠ nb; omega), Below.heap_setCell _ _ _ _ (by show w.heap.size + 1 ≠ nb; omega), Below.heap_setCell _ _ _ _ (by show w.heap.size + 1 ≠ nb; omega), Below.heap_setCell _ _ _ _ (by show w.heap.size + 1 ≠ nb; omega)]
      exact HGX.out.2.1
    · rw [Below.heap_setCell _ _ _ _ (by show w.heap.size + 1 + 1 ≠ nb; omega), Below.heap_setCell _ _ _ _ (by show w.heap.size + 1 + 1 ≠ nb; omega), Below.heap_setCell _ _ _ _ (by show w.heap.size + 1 + 1 ≠ nb; omega), Below.heap_setCell _ _ _ _ (by show w.heap.size + 1 + 1 ≠ nb; omega), Below.heap_setCell _ _ _ _ (by show w.heap.size + 1 + 1 ≠ nb; omega), Below.heap_setCell _ _ _ _ (by show w.heap.size + 1 + 1 ≠ nb; omega)]
      exact HGX.out.2.2.1
    · refine (show Below w.heap.size w _ from ?_)
      have hle : w.heap.size ≤ nb := by omega
      repeat (with_reducible refine below_set (g := nb) ?_ hle)
      exact HGX.out.2.2.2)
  rw [← hW2]
  clear l0 l1 fl b0 b1 b2 b3 b4 b5 r0 r1 fr hza hzb hsz q0 q1 q2 q3 q4 q5 n0 n1 n2 n3 n4 n5 nf0 nf1 nf2 nf3 nf4 nf5 hW2
  obtain ⟨⟨l0, l1, fl⟩, ⟨b0, b1, b2, b3, b4, b5⟩, ⟨r0, r1, fr⟩, hza, hzb, hsz⟩ := gp_facts HG2.out
  obtain ⟨n0, n1, n2, n3, n4, n5, _, _, _, _, _, _⟩ := cells6 hn2
  clear hn2
  go_wp2_with fail
  have HL := Lib.hid (lacks_calls t (some ad) c xs 21 x y true W2 (Kd.C_below HC.out HG2.out.2.2.2) HS.out h0 h4)
  rw [HKK.out] at HL
  refine Calls.mono HL.out ?_
  rintro en w3 ⟨rfl, hb3⟩
  have HG3 := Lib.hid (HG2.out.step hb3)
  clear l0 l1 fl b0 b1 b2 b3 b4 b5 r0 r1 fr hza hzb hsz n0 n1 n2 n3 n4 n5 hb3 HL
  obtain ⟨⟨l0, l1, fl⟩, ⟨b0, b1, b2, b3, b4, b5⟩, ⟨r0, r1, fr⟩, hza, hzb, hsz⟩ := gp_facts HG3.out
  go_wp2_with fail
  have HCL := Lib.hid (Clone_calls (some ad) c xs w3 (Kd.C_below HC.out HG3.out.2.2.2) HS.out.1)
  refine Calls.mono HCL.out ?_
  rintro en w4 ⟨v4, rfl, ho4, hb4⟩
  have HG4 := Lib.hid (HG3.out.step hb4)
  have HO4 := Lib.hid ho4
  clear l0 l1 fl b0 b1 b2 b3 b4 b5 r0 r1 fr hza hzb hsz ho4 HCL
  have HS34 := hb4.size
  clear hb4
  obtain ⟨⟨l0, l1, fl⟩, ⟨b0, b1, b2, b3, b4, b5⟩, ⟨r0, r1, fr⟩, hza, hzb, hsz⟩ := gp_facts HG4.out
  have HDL := Lib.hid (Delete_own w3.heap.size v4 xs P q y HXS.out w4 HO4.out HS34)
  go_wp2_with fail
  refine Calls.mono HDL.out ?_
  rintro en w5 ⟨v5, rfl, ho5, hb5⟩
  have HG5 := Lib.hid (show Gp w (.cells #[.slice (some ad) xs.length c, .int .i64 t] 24 (0, 0)) x w5 from ⟨(hb5.block _ (by have := blk_lt HG3.out.1; omega)).trans HG4.out.1, (hb5.block _ (by have := blk_lt HG3.out.2.1; omega)).trans HG4.out.2.1, (hb5.block _ (by have := blk_lt HG3.out.2.2.1; omega)).trans HG4.out.2.2.1, HG4.out.2.2.2.trans (hb5.mono HG3.out.2.2.2.size)⟩)
  have HO5 := Lib.hid ho5
  clear l0 l1 fl b0 b1 b2 b3 b4 b5 r0 r1 fr hza hzb hsz ho5 HDL
  have HS35 := Nat.le_trans HS34 hb5.size
  clear hb5
  obtain ⟨⟨l0, l1, fl⟩, ⟨b0, b1, b2, b3, b4, b5⟩, ⟨r0, r1, fr⟩, hza, hzb, hsz⟩ := gp_facts HG5.out
  have hlq : (P ++ q).length ≤ 1000000 := by have h := hl; rw [HXS.out] at h; simp at h ⊢; omega
  obtain ⟨M, hMM⟩ : ∃ M, P ++ q = M := ⟨_, rfl⟩
  have HMM := Lib.hid hMM
  rw [hMM] at HO5 hlq
  clear hMM
  obtain ⟨B, cB, hvB, hcB, hCB⟩ := HO5.out.C (by omega)
  have HVB := Lib.hid hvB
  have HCB := Lib.hid hCB
  clear hCB
  subst hvB
  have HZ : Hid (∀ z ∈ P ++ q, z.f0.size ≤ 17592186044416) := Lib.hid (fun z hz => (HS.out.2 z (by rw [HXS.out]; simp at hz ⊢; rcases hz with h | h <;> simp [h])).1)
  have HTW := Lib.hid (Contains1_calls 29 (w.heap.size + 1) (twinB x) (enters_of Tryz.func29 (by kernel_rfl) rfl) B cB M w5 HCB.out (by omega) (fun W' z hz hb => twin1_calls x z (w.heap.size + 1) W' (blk_below HG5.out.2.1 hb) h0 (HZ.out z (by rw [HMM.out]; exact hz))))
  rw [show M.any (twinB x) = false by rw [← HMM.out]; exact HANY.out] at HTW
  go_wp2_with fail
  refine Calls.mono HTW.out ?_
  rintro en w6 ⟨rfl, hb6⟩
  have HG6 := Lib.hid (HG5.out.step hb6)
  have HO6 := Lib.hid (HO5.out.below hb6)
  have HS36 := Nat.le_trans HS35 hb6.size
  clear l0 l1 fl b0 b1 b2 b3 b4 b5 r0 r1 fr hza hzb hsz hb6 HTW
  obtain ⟨⟨l0, l1, fl⟩, ⟨b0, b1, b2, b3, b4, b5⟩, ⟨r0, r1, fr⟩, hza, hzb, hsz⟩ := gp_facts HG6.out
  have HN6 := Lib.hid (blk_new w6 (ib x))
  have HG7 := Lib.hid (HG6.out.step (bel1 w6 (ib x)))
  have HINS := Lib.hid (Insert_calls w3.heap.size _ P q x w6.heap.size (w6.alloc (ib x)) (by rw [HMM.out]; exact HO6.out.below (bel1 w6 _)) HN6.out HO6.out.not_new (by rw [World.size_alloc]; omega) (by rw [HMM.out]; omega))
  go_wp2_with fail
  refine Calls.mono HINS.out ?_
  rintro en w8 ⟨v8, rfl, ho8, hb8⟩
  have HG8 := Lib.hid (show Gp w (.cells #[.slice (some ad) xs.length c, .int .i64 t] 24 (0, 0)) x w8 from ⟨(hb8.block _ (by have := blk_lt HG3.out.1; omega)).trans HG7.out.1, (hb8.block _ (by have := blk_lt HG3.out.2.1; omega)).trans HG7.out.2.1, (hb8.block _ (by have := blk_lt HG3.out.2.2.1; omega)).trans HG7.out.2.2.1, HG7.out.2.2.2.trans (hb8.mono HG3.out.2.2.2.size)⟩)
  have HO8 := Lib.hid ho8
  clear l0 l1 fl b0 b1 b2 b3 b4 b5 r0 r1 fr hza hzb hsz ho8 HINS
  have HS38 : w3.heap.size ≤ w8.heap.size := by have := hb8.size; rw [World.size_alloc] at this; omega
  clear hb8
  obtain ⟨⟨l0, l1, fl⟩, ⟨b0, b1, b2, b3, b4, b5⟩, ⟨r0, r1, fr⟩, hza, hzb, hsz⟩ := gp_facts HG8.out
  have hl8 : (P ++ x :: q).length ≤ 1099511627776 := by have h := hlq; rw [← HMM.out] at h; simp at h ⊢; omega
  obtain ⟨N, hNN⟩ : ∃ N, P ++ x :: q = N := ⟨_, rfl⟩
  have HNN := Lib.hid hNN
  rw [hNN] at HO8 hl8
  clear hNN
  obtain ⟨B8, c8, hv8, hc8, -⟩ := HO8.out.C hl8
  subst hv8
  go_wp2_with fail
  have hle2 : w.heap.size ≤ w.heap.size + 1 + 1 := by omega
  refine bodyPost_ret (v := .tuple #[.agg #[.slice B8 N.length c8, .int .i64 t], .int .i64 0]) ?hr rfl ⟨B8, c8, (by show _ = Ending.returned (.tuple #[.agg #[.slice B8 (P ++ x :: q).length c8, .int .i64 t], .int .i64 0]); rw [HNN.out]), ?hc, (by show (P ++ x :: q).length ≤ c8; rw [HNN.out]; exact hc8), ?hb⟩
  case hr => simp [results, Tryz.results10, go_sem, l0, l1, fl, r0, r1, fr]
  case hb =>
    refine (show Below w.heap.size w _ from ?_)
    repeat (with_reducible refine below_set (g := w.heap.size + 1 + 1) ?_ hle2)
    repeat (with_reducible refine below_set (g := w.heap.size) ?_ (Nat.le_refl _))
    repeat (with_reducible refine below_set (g := w.heap.size + 1 + 1) ?_ hle2)
    repeat (with_reducible refine below_set (g := w.heap.size) ?_ (Nat.le_refl _))
    exact HG8.out.2.2.2
  case hc =>
    show Kd.C k26 _ B8 (P ++ x :: q).length (P ++ x :: q)
    rw [HNN.out]
    have hb3a := blk_lt HG3.out.1
    have hb3b := blk_lt HG3.out.2.2.1
    refine OwnI.CA (base := w3.heap.size) (n := N.length) (c := c8) ?_ hl8
    refine OwnI.set (OwnI.set (OwnI.set HO8.out _ _ ?_) _ _ ?_) _ _ ?_
    · exact hb3a
    · exact hb3b
    · exact hb3b

set_option maxHeartbeats 2000000 in
set_option maxRecDepth 100000 in
theorem Apply_del (t : Int) (A : Option Addr) (c : Nat) (xs : List S26) (k : Int) (x : S26) (w : World) (hC : Kd.C k26 w A xs.length xs) (hcap : xs.length ≤ c) (hs : Sm xs) (hlb : xs.length ≤ 1000000) (hM : MonoB x xs) (h0 : x.f0.size ≤ 17592186044416) (h4 : x.f4.size ≤ 17592186044416) (y : S26) (hh : hitB x xs = true) (hxs : xs = aheadB x xs ++ y :: behindB x xs) (hk : lacksB xs k x y true = 0) (hk2 : k = 22) :
    Calls Tryz.prog 10 #[.agg #[.slice A xs.length c, .int .i64 t], .int .i64 k, iv x] w (Applied w t ((aheadB x xs ++ behindB x xs, 0))) := by
  subst hk2
  obtain ⟨V, hV⟩ : ∃ V, ((w.alloc (.cells #[.slice A xs.length c, .int .i64 t] 24)).alloc (ib x)).alloc (.cells #[.slice none 0 0, .int .i64 0] 24) = V := ⟨_, rfl⟩
  have hG : Gp w (.cells #[.slice A xs.length c, .int .i64 t] 24 (0, 0)) x V := by
    rw [← hV]
    refine ⟨blk_alloc (blk_alloc (blk_new _ _) _) _, ?_, ?_, up (up (bel1 _ _) (bel1 _ _)) (bel1 _ _)⟩
    · rw [← World.size_alloc w (.cells #[.slice A xs.length c, .int .i64 t] 24)]; exact blk_alloc (blk_new _ _) _
    · have := blk_new ((w.alloc (.cells #[.slice A xs.length c, .int .i64 t] 24)).alloc (ib x)) (.cells #[.slice none 0 0, .int .i64 0] 24)
      rwa [World.size_alloc, World.size_alloc] at this
  have HV := Lib.hid hV
  have HG := Lib.hid hG
  have HC := Lib.hid hC
  have HS := Lib.hid hs
  have hl : xs.length ≤ 1000000 := hlb
  have HBIN := Lib.hid (Bin_calls x A c xs V (Kd.C_below hC hG.2.2.2) hs.1 hM)
  obtain ⟨⟨l0, l1, fl⟩, ⟨b0, b1, b2, b3, b4, b5⟩, ⟨r0, r1, fr⟩, hza, hzb, hsz⟩ := gp_facts hG
  obtain ⟨P, hP⟩ : ∃ P, aheadB x xs = P := ⟨_, rfl⟩
  obtain ⟨q, hq⟩ : ∃ q, behindB x xs = q := ⟨_, rfl⟩
  have hposl : posB x xs = P.length := by rw [← hP]; unfold aheadB; rw [List.length_take]; have := pos_le x xs; omega
  rw [hP, hq] at hxs ⊢
  have HXS := Lib.hid hxs
  rw [hposl, hh] at HBIN
  have hpl : P.length < xs.length := by rw [hxs]; simp
  have hyx : xs[P.length] = y := by simp [hxs]
  have HY := Lib.hid hyx
  clear hyx
  have HKK := Lib.hid hk
  clear hk hV hG hC hs hM hlb hP hq hposl hxs hh
  go_enter Tryz.func10, Tryz.ntmps10
  go_upto_region 1 with fail
  rw [HV.out]
  go_wp2_with fail
  refine Calls.mono HBIN.out ?_
  rintro en w1 ⟨rfl, hb1⟩
  clear l0 l1 fl b0 b1 b2 b3 b4 b5 r0 r1 fr hza hzb hsz
  have HG1 := Lib.hid (HG.out.step hb1)
  obtain ⟨⟨l0, l1, fl⟩, ⟨b0, b1, b2, b3, b4, b5⟩, ⟨r0, r1, fr⟩, hza, hzb, hsz⟩ := gp_facts HG1.out
  clear hb1
  go_upto_region 3 with fail
  obtain ⟨W1, hW1⟩ : ∃ W1, W1 = w1.alloc (.cells #[.string ⟨#[]⟩, .int .i64 0, .int .i64 0, .int .i64 0, .string ⟨#[]⟩, .bool false] 26) := ⟨_, rfl⟩
  have hbx : Below w1.heap.size w1 W1 := by rw [hW1]; exact bel1 _ _
  have hnx : W1.heap[w1.heap.size]? = some (ib z26) := by rw [hW1]; exact blk_new w1 (ib z26)
  rw [← hW1]
  have HGX := Lib.hid (HG1.out.step hbx)
  obtain ⟨nb, hnb⟩ : ∃ nb, w1.heap.size = nb := ⟨_, rfl⟩
  rw [hnb] at hnx ⊢
  have hnl : w.heap.size + 1 + 1 < nb := by rw [← hnb]; exact hsz
  clear l0 l1 fl b0 b1 b2 b3 b4 b5 r0 r1 fr hza hzb hsz hW1 hbx hnb
  obtain ⟨⟨l0, l1, fl⟩, ⟨b0, b1, b2, b3, b4, b5⟩, ⟨r0, r1, fr⟩, hza, hzb, hsz⟩ := gp_facts HGX.out
  obtain ⟨n0, n1, n2, n3, n4, n5, nf0, nf1, nf2, nf3, nf4, nf5⟩ := cells6 hnx
  have HNX := Lib.hid hnx
  clear hnx
  obtain ⟨ad, hA, q0, q1, q2, q3, q4, q5⟩ := item_at (Kd.C_below HC.out HGX.out.2.2.2) P.length hpl
  rw [HY.out] at q0 q1 q2 q3 q4 q5
  have HA := Lib.hid hA
  subst hA
  go_upto_region 5 with fail
  obtain ⟨W2, hW2⟩ : ∃ W2, W2 = (((((W1.setCell ⟨nb, 0, none⟩ (.string y.f0)).setCell ⟨nb, 1, none⟩ (.int .i64 y.f1)).setCell ⟨nb, 2, none⟩ (.int .i64 y.f2)).setCell ⟨nb, 3, none⟩ (.int .i64 y.f3)).setCell ⟨nb, 4, none⟩ (.string y.f4)).setCell ⟨nb, 5, none⟩ (.bool y.f5) := ⟨_, rfl⟩
  have hn2 : W2.heap[nb]? = some (ib y) := by rw [hW2]; exact put6 HNX.out
  have HG2 : Hid (Gp w (.cells #[.slice (some ad) xs.length c, .int .i64 t] 24 (0, 0)) x W2) := Lib.hid (by
    rw [hW2]
    refine ⟨?_, ?_, ?_, ?_⟩
    · rw [Below.heap_setCell _ _ _ _ (by show w.heap.size ≠ nb; omega), Below.heap_setCell _ _ _ _ (by show w.heap.size ≠ nb; omega), Below.heap_setCell _ _ _ _ (by show w.heap.size ≠ nb; omega), Below.heap_setCell _ _ _ _ (by show w.heap.size ≠ nb; omega), Below.heap_setCell _ _ _ _ (by show w.heap.size ≠ nb; omega), Below.heap_setCell _ _ _ _ (by show w.heap.size ≠ nb; omega)]
      exact HGX.out.1
    · rw [Below.heap_setCell _ _ _ _ (by show w.heap.size + 1 ≠ nb; omega), Below.heap_setCell _ _ _ _ (by show w.heap.size + 1 ≠ nb; omega), Below.heap_setCell _ _ _ _ (by show w.heap.size + 1 ≠ nb; omega), Below.heap_setCell _ _ _ _ (by show w.heap.size + 1 ≠ nb; omega), Below.heap_setCell _ _ _ _ (by show w.heap.size + 1 ≠ nb; omega), Below.heap_setCell _ _ _ _ (by show w.heap.size + 1 ≠ nb; omega)]
      exact HGX.out.2.1
    · rw [Below.heap_setCell _ _ _ _ (by show w.heap.size + 1 + 1 ≠ nb; omega), Below.heap_setCell _ _ _ _ (by show w.heap.size + 1 + 1 ≠ nb; omega), Below.heap_setCell _ _ _ _ (by show w.heap.size + 1 + 1 ≠ nb; omega), Below.heap_setCell _ _ _ _ (by show w.heap.size + 1 + 1 ≠ nb; omega), Below.heap_setCell _ _ _ _ (by show w.heap.size + 1 + 1 ≠ nb; omega), Below.heap_setCell _ _ _ _ (by show w.heap.size + 1 + 1 ≠ nb; omega)]
      exact HGX.out.2.2.1
    · refine (show Below w.heap.size w _ from ?_)
      have hle : w.heap.size ≤ nb := by omega
      repeat (with_reducible refine below_set (g := nb) ?_ hle)
      exact HGX.out.2.2.2)
  rw [← hW2]
  clear l0 l1 fl b0 b1 b2 b3 b4 b5 r0 r1 fr hza hzb hsz q0 q1 q2 q3 q4 q5 n0 n1 n2 n3 n4 n5 nf0 nf1 nf2 nf3 nf4 nf5 hW2
  obtain ⟨⟨l0, l1, fl⟩, ⟨b0, b1, b2, b3, b4, b5⟩, ⟨r0, r1, fr⟩, hza, hzb, hsz⟩ := gp_facts HG2.out
  obtain ⟨n0, n1, n2, n3, n4, n5, _, _, _, _, _, _⟩ := cells6 hn2
  clear hn2
  go_wp2_with fail
  have HL := Lib.hid (lacks_calls t (some ad) c xs 22 x y true W2 (Kd.C_below HC.out HG2.out.2.2.2) HS.out h0 h4)
  rw [HKK.out] at HL
  refine Calls.mono HL.out ?_
  rintro en w3 ⟨rfl, hb3⟩
  have HG3 := Lib.hid (HG2.out.step hb3)
  clear l0 l1 fl b0 b1 b2 b3 b4 b5 r0 r1 fr hza hzb hsz n0 n1 n2 n3 n4 n5 hb3 HL
  obtain ⟨⟨l0, l1, fl⟩, ⟨b0, b1, b2, b3, b4, b5⟩, ⟨r0, r1, fr⟩, hza, hzb, hsz⟩ := gp_facts HG3.out
  go_wp2_with fail
  have HCL := Lib.hid (Clone_calls (some ad) c xs w3 (Kd.C_below HC.out HG3.out.2.2.2) HS.out.1)
  refine Calls.mono HCL.out ?_
  rintro en w4 ⟨v4, rfl, ho4, hb4⟩
  have HG4 := Lib.hid (HG3.out.step hb4)
  have HO4 := Lib.hid ho4
  clear l0 l1 fl b0 b1 b2 b3 b4 b5 r0 r1 fr hza hzb hsz ho4 HCL
  have HS34 := hb4.size
  clear hb4
  obtain ⟨⟨l0, l1, fl⟩, ⟨b0, b1, b2, b3, b4, b5⟩, ⟨r0, r1, fr⟩, hza, hzb, hsz⟩ := gp_facts HG4.out
  have HDL := Lib.hid (Delete_own w3.heap.size v4 xs P q y HXS.out w4 HO4.out HS34)
  go_wp2_with fail
  refine Calls.mono HDL.out ?_
  rintro en w5 ⟨v5, rfl, ho5, hb5⟩
  have HG5 := Lib.hid (show Gp w (.cells #[.slice (some ad) xs.length c, .int .i64 t] 24 (0, 0)) x w5 from ⟨(hb5.block _ (by have := blk_lt HG3.out.1; omega)).trans HG4.out.1, (hb5.block _ (by have := blk_lt HG3.out.2.1; omega)).trans HG4.out.2.1, (hb5.block _ (by have := blk_lt HG3.out.2.2.1; omega)).trans HG4.out.2.2.1, HG4.out.2.2.2.trans (hb5.mono HG3.out.2.2.2.size)⟩)
  have HO5 := Lib.hid ho5
  clear l0 l1 fl b0 b1 b2 b3 b4 b5 r0 r1 fr hza hzb hsz ho5 HDL
  have HS35 := Nat.le_trans HS34 hb5.size
  clear hb5
  obtain ⟨⟨l0, l1, fl⟩, ⟨b0, b1, b2, b3, b4, b5⟩, ⟨r0, r1, fr⟩, hza, hzb, hsz⟩ := gp_facts HG5.out
  have hlq : (P ++ q).length ≤ 1000000 := by have h := hl; rw [HXS.out] at h; simp at h ⊢; omega
  obtain ⟨M, hMM⟩ : ∃ M, P ++ q = M := ⟨_, rfl⟩
  have HMM := Lib.hid hMM
  rw [hMM] at HO5 hlq
  clear hMM
  obtain ⟨B, cB, hvB, hcB, hCB⟩ := HO5.out.C (by omega)
  have HVB := Lib.hid hvB
  have HCB := Lib.hid hCB
  clear hCB
  subst hvB
  go_wp2_with fail
  have hle2 : w.heap.size ≤ w.heap.size + 1 + 1 := by omega
  refine bodyPost_ret (v := .tuple #[.agg #[.slice B M.length cB, .int .i64 t], .int .i64 0]) ?hr rfl ⟨B, cB, (by show _ = Ending.returned (.tuple #[.agg #[.slice B (P ++ q).length cB, .int .i64 t], .int .i64 0]); rw [HMM.out]), ?hc, (by show (P ++ q).length ≤ cB; rw [HMM.out]; exact hcB), ?hb⟩
  case hr => simp [results, Tryz.results10, go_sem, l0, l1, fl, r0, r1, fr]
  case hb =>
    refine (show Below w.heap.size w _ from ?_)
    repeat (with_reducible refine below_set (g := w.heap.size + 1 + 1) ?_ hle2)
    repeat (with_reducible refine below_set (g := w.heap.size) ?_ (Nat.le_refl _))
    repeat (with_reducible refine below_set (g := w.heap.size + 1 + 1) ?_ hle2)
    repeat (with_reducible refine below_set (g := w.heap.size) ?_ (Nat.le_refl _))
    exact HG5.out.2.2.2
  case hc =>
    show Kd.C k26 _ B (P ++ q).length (P ++ q)
    rw [HMM.out]
    have hb3a := blk_lt HG3.out.1
    have hb3b := blk_lt HG3.out.2.2.1
    refine OwnI.CA (base := w3.heap.size) (n := M.length) (c := cB) ?_ (by omega)
    refine OwnI.set (OwnI.set (OwnI.set HO5.out _ _ ?_) _ _ ?_) _ _ ?_
    · exact hb3a
    · exact hb3b
    · exact hb3b

theorem Apply_calls (t : Int) (A : Option Addr) (c : Nat) (xs : List S26) (k : Int) (x : S26) (w : World) (hC : Kd.C k26 w A xs.length xs) (hcap : xs.length ≤ c) (hs : Sm xs) (hlb : xs.length ≤ 1000000) (hM : MonoB x xs) (h0 : x.f0.size ≤ 17592186044416) (h4 : x.f4.size ≤ 17592186044416) :
    Calls Tryz.prog 10 #[.agg #[.slice A xs.length c, .int .i64 t], .int .i64 k, iv x] w (Applied w t (applyB xs k x)) := by
  unfold applyB
  rcases hit_cases x xs with ⟨hh, hw, hxs⟩ | ⟨y, hlt, hy, hh, hw, hxs⟩
  · rw [hh, hw]
    by_cases hc : lacksB xs k x z26 false = 0
    · obtain rfl := lacks_no hc
      simp only [hc, ne_eq, not_true_eq_false, if_false]
      rw [if_neg (by omega)]
      cases hany : (aheadB x xs ++ behindB x xs).any (twinB x) with
      | true => rw [if_pos rfl]; exact Apply_twin t A c xs 20 x w hC hcap hs hlb hM h0 h4 hh hxs hc rfl hany
      | false => rw [if_neg Bool.false_ne_true]; exact Apply_in t A c xs 20 x w hC hcap hs hlb hM h0 h4 hh hxs hc rfl hany
    · simp only [ne_eq, hc, not_false_eq_true, if_true]
      exact Apply_no t A c xs k x w hC hcap hs hlb hM h0 h4 hh hxs _ rfl hc (by simpa using hc) (by simpa using hc)
  · rw [hh, hw]
    by_cases hc : lacksB xs k x y true = 0
    · simp only [hc, ne_eq, not_true_eq_false, if_false]
      rcases lacks_yes hc with rfl | rfl
      · rw [if_neg (by omega)]
        cases hany : (aheadB x xs ++ behindB x xs).any (twinB x) with
        | true => rw [if_pos rfl]; exact Apply_twin_there t A c xs 21 x w hC hcap hs hlb hM h0 h4 y hh hxs hc rfl hany
        | false => rw [if_neg Bool.false_ne_true]; exact Apply_in_there t A c xs 21 x w hC hcap hs hlb hM h0 h4 y hh hxs hc rfl hany
      · rw [if_pos rfl]
        exact Apply_del t A c xs 22 x w hC hcap hs hlb hM h0 h4 y hh hxs hc rfl
    · simp only [ne_eq, hc, not_false_eq_true, if_true]
      exact Apply_no_there t A c xs k x w hC hcap hs hlb hM h0 h4 y hh hxs _ rfl hc (by simpa using hc) (by simpa using hc)

end Go.Proofs.YtdfppdkhiejbdaaGreatDoor.Li

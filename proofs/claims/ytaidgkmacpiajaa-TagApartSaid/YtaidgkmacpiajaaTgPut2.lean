/- Package tag: the function inside Put that calls itself. -/
import Derived.Test.YtaidgkmacpiajaaTgPut
set_option linter.unusedVariables false
set_option linter.unusedSimpArgs false
namespace Go.Proofs.Ytaidgkmacpiajaa.Tg
open Go.RowKit Go.Proofs.Ytaidgkmacpiajaa.Plain Go.Proofs.Ytaidgkmacpiajaa.PTag Go.Proofs.YtaidgkmacpiajaaW.PrintWords

def attrV (b : Nat) : Value := .func (.func 17) #[] #[.pointer (some ⟨b, 0, none⟩)]
def putV (b ca cp : Nat) : Value := .func (.func 19) #[] #[.pointer (some ⟨b, 0, none⟩), .pointer (some ⟨ca, 0, none⟩), .pointer (some ⟨cp, 0, none⟩)]

/-- The two function values lie where the closures look for them. -/
def Env (b ca cp : Nat) (W : World) : Prop := (W.heap[ca]? = some (.cells #[attrV b] 49 (0, 0)) ∧ some ca ≠ some b) ∧ W.heap[cp]? = some (.cells #[putV b ca cp] 44 (0, 0)) ∧ some cp ≠ some b

theorem Env.kept {b ca cp : Nat} {W W' : World} (h : Env b ca cp W) (hk : Kp b W W') : Env b ca cp W' :=
  ⟨⟨hk _ _ h.1.1 h.1.2 (fun _ _ e => by cases e), h.1.2⟩, hk _ _ h.2.1 h.2.2 (fun _ _ e => by cases e), h.2.2⟩

/-- Since V the builder has come to hold l; all else is as it was. -/
def Since (B b : Nat) (V : World) (l : List UInt8) (W : World) : Prop := Bd B b l W ∧ Below B V W ∧ Kp b V W

theorem Since.trans {B b : Nat} {V W W' : World} {l l' : List UInt8} (h : Since B b V l W) (h' : Bd B b l' W' ∧ Below B W W' ∧ Kp b W W') : Since B b V l' W' :=
  ⟨h'.1, h.2.1.trans h'.2.1, h.2.2.trans h'.2.2⟩

theorem Since.alloc {B b : Nat} {V W : World} {l : List UInt8} (h : Since B b V l W) (hB : B ≤ V.heap.size) (o : Obj) : Since B b V l (W.alloc o) :=
  ⟨h.1.alloc o, h.2.1.alloc (by have := h.2.1.size; omega) o, h.2.2.alloc o⟩

def eltV (e : S25) (A2 : Option Addr) (c2 : Nat) (A4 : Option Addr) (c4 : Nat) : Array Value := #[.string e.f0, .string e.f1, .slice A2 e.f2.length c2, .string e.f3, .slice A4 e.f4.length c4]

def PutAt (w0 : World) (b ca cp n : Nat) : Prop := ∀ (e : S25) (sp : ByteArray) (l : List UInt8) (A2 : Option Addr) (c2 : Nat) (A4 : Option Addr) (c4 : Nat) (W : World), SizeOf.sizeOf e ≤ n → Below w0.heap.size w0 W →
    Kd.C k51 w0 A2 e.f2.length e.f2 → e.f2.length ≤ c2 → Kd.C k25 w0 A4 e.f4.length e.f4 → e.f4.length ≤ c4 → Bd w0.heap.size b l W → Env b ca cp W → l.length + (putT e (bl sp)).length ≤ 17592186044416 →
    Calls Try.prog 19 #[.agg #[.string e.f0, .string e.f1, .slice A2 e.f2.length c2, .string e.f3, .slice A4 e.f4.length c4], .string sp, .pointer (some ⟨b, 0, none⟩), .pointer (some ⟨ca, 0, none⟩), .pointer (some ⟨cp, 0, none⟩)] W
      fun en W' => en = .returned (.tuple #[]) ∧ Bd w0.heap.size b (l ++ putT e (bl sp)) W' ∧ Below w0.heap.size W W' ∧ Kp b W W'

theorem box_kept {b g : Nat} {cs : Array Value} {T : TypeId} {V W : World} (hk : Kp b V W) (hg : V.heap[g]? = some (.cells cs T (0, 0))) (hne : g ≠ b) (hT : T ≠ 5) : W.heap[g]? = some (.cells cs T (0, 0)) :=
  hk _ _ hg (fun e => hne (Option.some.inj e)) (fun c fz e => by injection e with _ e2; exact hT e2)

theorem box_cells {g : Nat} {v0 v1 v2 v3 v4 : Value} {T : TypeId} {W : World} (h : W.heap[g]? = some (.cells #[v0, v1, v2, v3, v4] T (0, 0))) :
    W.cell? ⟨g, 0, none⟩ = some v0 ∧ W.cell? ⟨g, 1, none⟩ = some v1 ∧ W.cell? ⟨g, 2, none⟩ = some v2 ∧ W.cell? ⟨g, 3, none⟩ = some v3 ∧ W.cell? ⟨g, 4, none⟩ = some v4 :=
  ⟨by rw [Lib.cell_of_heap h]; rfl, by rw [Lib.cell_of_heap h]; rfl, by rw [Lib.cell_of_heap h]; rfl, by rw [Lib.cell_of_heap h]; rfl, by rw [Lib.cell_of_heap h]; rfl⟩

theorem env_cells {b ca cp : Nat} {W : World} (h : Env b ca cp W) : W.cell? ⟨ca, 0, none⟩ = some (attrV b) ∧ W.cell? ⟨cp, 0, none⟩ = some (putV b ca cp) :=
  ⟨by rw [Lib.cell_of_heap h.1.1]; rfl, by rw [Lib.cell_of_heap h.2.1]; rfl⟩

theorem kid_size (e : S25) (j : Nat) (h : j < e.f4.length) : SizeOf.sizeOf e.f4[j] < SizeOf.sizeOf e := by
  have h1 := List.sizeOf_lt_of_mem (List.getElem_mem h)
  have h2 : SizeOf.sizeOf e.f4 < SizeOf.sizeOf e := by cases e; simp; omega
  omega

theorem cell_up {w0 W : World} (hb : Below w0.heap.size w0 W) {p : Addr} {v : Value} (h : w0.cell? p = some v) : W.cell? p = some v := (hb.cell (World.block_lt_of_cell? w0 p h)).trans h

set_option maxHeartbeats 8000000 in
set_option maxRecDepth 1000000 in
theorem put2_step (w0 : World) (b ca cp n : Nat) (ih : PutAt w0 b ca cp n) : PutAt w0 b ca cp (n + 1) := by
  intro e sp l A2 c2 A4 c4 W hn hbW hC2 hc2 hC4 hc4 hbd henv hlen
  have hblt : b < W.heap.size := hbd.elim (fun h => h.lt) (fun h => h.lt)
  obtain ⟨bx, hbx⟩ : ∃ bx, W.heap.size = bx := ⟨_, rfl⟩
  have hVb : (W.alloc (.cells (eltV e A2 c2 A4 c4) 25)).heap[bx]? = some (.cells (eltV e A2 c2 A4 c4) 25 (0, 0)) := by rw [← hbx]; exact heap_alloc_new W _
  have hV0 : Since w0.heap.size b (W.alloc (.cells (eltV e A2 c2 A4 c4) 25)) l (W.alloc (.cells (eltV e A2 c2 A4 c4) 25)) := ⟨hbd.alloc _, Below.refl _ _, Lib.OthersKept.refl _ _ _⟩
  have henv0 : Env b ca cp (W.alloc (.cells (eltV e A2 c2 A4 c4) 25)) := henv.kept ((Lib.OthersKept.refl _ _ _).alloc _)
  have hne : bx ≠ b := by omega
  have hw0 := hbW.size
  have ENV := Lib.hid henv0
  have VB := Lib.hid hVb
  have V0 := Lib.hid hV0
  rw [putT_eq] at hlen ⊢
  clear henv hVb hV0 henv0
  obtain ⟨P, hP⟩ : ∃ P : List UInt8, (l ++ ([60] ++ bl e.f1 ++ (if bl e.f0 = bl sp then [] else attrL xmlns (bl e.f0)) ++ attrsT e.f2 ++
      (if bl e.f3 = [] ∧ e.f4.length = 0 then [47, 62] else [62] ++ quoteL (bl e.f3) ++ putsT e.f4 (bl e.f0) ++ [60, 47] ++ bl e.f1 ++ [62]))) = P := ⟨_, rfl⟩
  rw [hP]
  obtain ⟨T, hT⟩ : ∃ T : List UInt8, (if bl e.f3 = [] ∧ e.f4.length = 0 then [47, 62] else [62] ++ quoteL (bl e.f3) ++ putsT e.f4 (bl e.f0) ++ [60, 47] ++ bl e.f1 ++ [62]) = T := ⟨_, rfl⟩
  rw [hT] at hP hlen
  have HT := Lib.hid hT
  clear hT
  have hlT := attrsT_le e.f2
  have hlK := fun k => putsT_le e.f4 k (bl e.f0)
  have hm2 : e.f2.length ≤ 9223372036854775807 := hC2.2.1
  have hm4 : e.f4.length ≤ 9223372036854775807 := hC4.2.1
  have hn1 : e.f1.size ≤ 17592186044416 := by rw [← bl_size]; simp only [List.length_append] at hlen; omega
  by_cases hs : bl e.f0 = bl sp
  case' pos =>
    rw [if_pos hs] at hlen hP
    have HS := Lib.hid hs
    have hse : (e.f0.toList == sp.toList) = true := by rw [ByteArray.toList_eq, ByteArray.toList_eq]; exact beq_iff_eq.2 hs
    obtain ⟨L, hL⟩ : ∃ L : List UInt8, l ++ ([60] ++ bl e.f1) = L := ⟨_, rfl⟩
    have HP : Hid (L ++ attrsT e.f2 ++ T = P) := by show _ = _; rw [← hL, ← hP]; simp
    have HL := Lib.hid hL
    have hLl : L.length + (attrsT e.f2).length + T.length ≤ 17592186044416 := by rw [← hL]; simp only [List.length_append, List.length_nil] at hlen ⊢; omega
    have hnl : l.length + (1 + (bl e.f1).length) ≤ 17592186044416 := by simp only [List.length_append, List.length_singleton] at hlen; omega
    clear hlen
    clear hs hP hL
    go_enter Try.func19, Try.ntmps19
    go_wp2_with fail
    refine Calls.mono (Write_calls w0.heap.size b l ([60] ++ bl e.f1) _ _ (by simp only [bl_append]; rfl) V0.out.1 (by rw [List.length_append, List.length_singleton]; omega) (by simp; omega)) ?_
    rintro en w1 ⟨rfl, h1⟩
    have S1 := Lib.hid (V0.out.trans h1)
    clear h1
    rw [HL.out] at S1
    have hk1 := S1.out.2.2
    obtain ⟨c0, c1, c2', c3, c4'⟩ := box_cells (box_kept hk1 VB.out hne (by decide))
    go_wp2_with fail
  case' neg =>
    rw [if_neg hs] at hlen hP
    have HS := Lib.hid hs
    have hse : (e.f0.toList == sp.toList) = false := by rw [ByteArray.toList_eq, ByteArray.toList_eq]; exact beq_eq_false_iff_ne.2 hs
    obtain ⟨L0, hL0⟩ : ∃ L : List UInt8, l ++ ([60] ++ bl e.f1) = L := ⟨_, rfl⟩
    obtain ⟨L, hL⟩ : ∃ L : List UInt8, L0 ++ attrL xmlns (bl e.f0) = L := ⟨_, rfl⟩
    have hl0 : L0.length = l.length + (1 + (bl e.f1).length) := by rw [← hL0]; simp; omega
    have HP : Hid (L ++ attrsT e.f2 ++ T = P) := by show _ = _; rw [← hL, ← hL0, ← hP]; simp
    have HL0 := Lib.hid hL0
    have HL := Lib.hid hL
    have hLl : L.length + (attrsT e.f2).length + T.length ≤ 17592186044416 := by rw [← hL, ← hL0]; simp only [List.length_append] at hlen ⊢; omega
    have hnl : l.length + (1 + (bl e.f1).length) ≤ 17592186044416 := by simp only [List.length_append, List.length_singleton] at hlen; omega
    have hxl : l.length + (1 + (bl e.f1).length) + (attrL (bl ⟨#[120, 109, 108, 110, 115]⟩) (bl e.f0)).length ≤ 17592186044416 := by rw [show bl ⟨#[120, 109, 108, 110, 115]⟩ = xmlns from rfl]; simp only [List.length_append, List.length_singleton] at hlen; omega
    clear hlen
    clear hs hP hL hL0
    go_enter Try.func19, Try.ntmps19
    go_wp2_with fail
    refine Calls.mono (Write_calls w0.heap.size b l ([60] ++ bl e.f1) _ _ (by simp only [bl_append]; rfl) V0.out.1 (by rw [List.length_append, List.length_singleton]; omega) (by simp; omega)) ?_
    rintro en wa ⟨rfl, h1⟩
    have S1 := Lib.hid (V0.out.trans h1)
    clear h1
    rw [HL0.out] at S1
    have hk1 := S1.out.2.2
    obtain ⟨c0, c1, c2', c3, c4'⟩ := box_cells (box_kept hk1 VB.out hne (by decide))
    have hec := (env_cells (ENV.out.kept hk1)).1
    unfold attrV at hec
    go_wp2_with fail
    refine Calls.mono (attr_calls w0.heap.size b L0 ⟨#[120, 109, 108, 110, 115]⟩ e.f0 _ S1.out.1 (by rw [hl0]; exact hxl) (by have := S1.out.2.1.size; simp at this; omega)) ?_
    rintro en w1 ⟨rfl, h2⟩
    replace S1 := Lib.hid (S1.out.trans h2)
    clear hk1 c0 c1 c2' c3 c4' hec h2
    rw [show L0 ++ attrL (bl ⟨#[120, 109, 108, 110, 115]⟩) (bl e.f0) = L from HL.out] at S1
    have hk1 := S1.out.2.2
    obtain ⟨c0, c1, c2', c3, c4'⟩ := box_cells (box_kept hk1 VB.out hne (by decide))
    go_wp2_with fail
  all_goals
    clear c0 c1 c2' c3 c4' hk1
    go_loopw [26] (fun x wr => ∃ k : Nat, k ≤ e.f2.length ∧ x = .int .i64 k ∧ Hid (Since w0.heap.size b (W.alloc (.cells (eltV e A2 c2 A4 c4) 25)) (L ++ attrsT (e.f2.take k)) wr)) (fun x _ => e.f2.length - (intOf x).toNat)
    case atStart =>
      refine ⟨0, Nat.zero_le _, rfl, ?_⟩
      rw [List.take_zero, show attrsT [] = [] from rfl, List.append_nil]
      exact S1
    case round =>
      obtain ⟨k, hk, rfl, hS⟩ := hrel
      have hkS := hS.out.2.2
      have hbs := hS.out.2.1.size
      simp only [World.size_alloc] at hbs
      obtain ⟨c0, c1, c2', c3, c4'⟩ := box_cells (box_kept hkS VB.out hne (by decide))
      obtain ⟨hec, hep⟩ := env_cells (ENV.out.kept hkS)
      unfold attrV at hec
      unfold putV at hep
      have hca : ca < wr.heap.size := World.block_lt_of_cell? wr _ hec
      have hcp : cp < wr.heap.size := World.block_lt_of_cell? wr _ hep
      have hca' : ca ≠ wr.heap.size := by omega
      have hcp' : cp ≠ wr.heap.size := by omega
      have hbwr : Below w0.heap.size w0 wr := ((hbW.alloc hw0 _).trans hS.out.2.1)
      by_cases hlt : k < e.f2.length
      · as_aux_lemma =>
        have hCr := Kd.C_below hC2 hbwr
        obtain ⟨ad, hA, ca0, ca1⟩ := at_T51 hCr (k : Int) (by omega) (by omega)
        subst hA
        simp only [Int.toNat_natCast] at ca0 ca1
        have hrd : rd_T51 e.f2 (k : Int) = e.f2[k] := by simp [rd_T51, hlt]
        rw [hrd] at ca0 ca1
        clear hrd hCr
        go_wp2_with fail
        refine Calls.mono (attr_calls w0.heap.size b (L ++ attrsT (e.f2.take k)) e.f2[k].f0 e.f2[k].f1 _ (hS.out.1.alloc _) ?c1 (by simp; omega)) ?_
        case c1 =>
          have h1 := hlT (k + 1)
          rw [attrsT_take _ _ hlt] at h1
          rw [List.length_append, attr1] at h1
          rw [List.length_append]
          omega
        rintro en w3 ⟨rfl, h3⟩
        have h3' := Lib.hid ((hS.out.alloc (by simp; omega) _).trans h3)
        clear h3 hS hkS
        go_wp2_with fail
        refine ⟨⟨k + 1, by omega, by go_num, ?_⟩, by simp [intOf]; omega⟩
        rw [attrsT_take _ _ hlt, ← List.append_assoc]
        exact h3'
      · as_aux_lemma =>
        obtain rfl : k = e.f2.length := by omega
        rw [List.take_length] at hS
        obtain ⟨M, hM⟩ : ∃ M : List UInt8, L ++ attrsT e.f2 = M := ⟨_, rfl⟩
        have hMl : M.length + T.length ≤ 17592186044416 := by rw [← hM, List.length_append]; exact hLl
        rw [hM] at hS HP
        clear hM hLl HL
        have hf3 := bl_size e.f3
        by_cases hte : bl e.f3 = [] ∧ e.f4.length = 0
        · as_aux_lemma =>
          have HTE0 := HT.out
          rw [if_pos hte] at HTE0
          have HTE := Lib.hid HTE0
          have ht3 : e.f3.toList = [] := by rw [ByteArray.toList_eq]; exact hte.1
          have ht3' : (e.f3.toList == []) = true := by rw [ht3]; rfl
          have hk4 : ((e.f4.length : Int) == 0) = true := by rw [hte.2]; rfl
          have htl : T.length = 2 := by rw [← HTE0]; rfl
          clear hte HTE0 HT
          go_wp2_with fail
          refine Calls.mono (Write_calls w0.heap.size b M T _ _ (by rw [← HTE.out]; rfl) hS.out.1 (by omega) (by omega)) ?_
          rintro en w3 ⟨rfl, h3⟩
          have h4 := hS.out.trans h3
          rw [HP.out] at h4
          have H4 := Lib.hid h4
          clear h4 h3
          go_wp2_with fail
          refine bodyPost_ret (results_none rfl _ _ _) rfl ⟨rfl, H4.out.1, ?_, ?_⟩
          · exact ((Below.refl _ _).alloc hw0 _).trans H4.out.2.1
          · exact ((Lib.OthersKept.refl _ _ _).alloc _).trans H4.out.2.2
        · have HTE0 := HT.out
          rw [if_neg hte] at HTE0
          obtain ⟨q, hqq⟩ : ∃ q : ByteArray, (⟨(quoteL (bl e.f3)).toArray⟩ : ByteArray) = q := ⟨_, rfl⟩
          have hqb : bl q = quoteL (bl e.f3) := by rw [← hqq]; simp [bl]
          have hqs : q.size = (quoteL (bl e.f3)).length := by rw [← bl_size, hqb]
          have hqg := quoteL_ge (bl e.f3)
          have htl : T.length = 1 + (quoteL (bl e.f3)).length + (putsT e.f4 (bl e.f0)).length + 2 + (bl e.f1).length + 1 := by rw [← HTE0]; simp only [List.length_append, List.length_cons, List.length_nil]
          have hQ : ∀ w, _ := fun w => Quote_calls e.f3 w (by omega)
          rw [hqq] at hQ
          have HQ := Lib.hid hQ
          have HQB := Lib.hid hqb
          have HTE := Lib.hid HTE0
          have hqs' : q.size ≤ 17592186044416 := by omega
          have hqs2 : q.size + ((putsT e.f4 (bl e.f0)).length + (bl e.f1).length + M.length + 4) ≤ 17592186044416 := by omega
          have hqs3 : (bl q).length ≤ 17592186044416 := by rw [bl_size]; omega
          clear HTE0 HT hqq hqb hQ hqg
          by_cases ht3 : bl e.f3 = []
          case' pos =>
            have ht3' : (e.f3.toList == []) = true := by rw [ByteArray.toList_eq, show e.f3.data.toList = [] from ht3]; rfl
            have ht3'' : e.f3.toList = [] := by rw [ByteArray.toList_eq]; exact ht3
            have hk4 : ((e.f4.length : Int) == 0) = false := beq_eq_false_iff_ne.2 (fun h => hte ⟨ht3, by omega⟩)
            clear hte hqs ht3
          case' neg =>
            have ht3' : (e.f3.toList == []) = false := by rw [ByteArray.toList_eq]; exact beq_eq_false_iff_ne.2 ht3
            have ht3'' : (!e.f3.toList.isEmpty) = true := by rw [ByteArray.toList_eq]; simpa [bl] using ht3
            clear hte hqs ht3
          all_goals
            go_wp2_with fail
            refine Calls.mono (HQ.out _) ?_
            rintro en w3 ⟨rfl, hb3⟩
            have S3 := Lib.hid (hS.out.trans (W' := w3) (l' := M) ⟨bIs_below hS.out.1 hb3, hb3.mono (by omega), (Lib.OthersKept.refl _ _ _).below hb3⟩)
            clear hb3 hS hkS c0 c1 c2' c3 c4'
            go_wp2_with fail
            obtain ⟨M1, hM1⟩ : ∃ M1 : List UInt8, M ++ ([62] ++ quoteL (bl e.f3)) = M1 := ⟨_, rfl⟩
            have hM1l : M1.length = M.length + 1 + q.size := by rw [← hM1, ← HQB.out, List.length_append, List.length_append, bl_size]; simp; omega
            refine Calls.mono (Write_calls w0.heap.size b M ([62] ++ quoteL (bl e.f3)) _ _ (by rw [bl_append, HQB.out]; rfl) S3.out.1 (by rw [← HQB.out, List.length_append, bl_size]; simp only [List.length_singleton]; omega) (by have := S3.out.2.1.size; simp at this; omega)) ?_
            rintro en w4 ⟨rfl, h4⟩
            have S4 := Lib.hid (S3.out.trans h4)
            rw [hM1] at S4
            have HM1 := Lib.hid hM1
            clear h4 S3 hM1
            obtain ⟨c0, c1, c2', c3, c4'⟩ := box_cells (box_kept S4.out.2.2 VB.out hne (by decide))
            go_wp2_with fail
            clear c0 c1 c2' c3 c4' hec hep hca hcp hca' hcp' hbwr
            go_loopw [55] (fun x wv => ∃ j : Nat, j ≤ e.f4.length ∧ x = .int .i64 j ∧ Hid (Since w0.heap.size b (W.alloc (.cells (eltV e A2 c2 A4 c4) 25)) (M1 ++ putsT (e.f4.take j) (bl e.f0)) wv)) (fun x _ => e.f4.length - (intOf x).toNat)
            case atStart =>
              refine ⟨0, Nat.zero_le _, rfl, ?_⟩
              rw [List.take_zero, show putsT [] (bl e.f0) = [] by simp [putsT], List.append_nil]
              exact S4
            case round =>
              obtain ⟨j, hj, rfl, hS⟩ := hrel
              have hkS := hS.out.2.2
              have hbs2 := hS.out.2.1.size
              simp only [World.size_alloc] at hbs2
              obtain ⟨c0, c1, c2', c3, c4'⟩ := box_cells (box_kept hkS VB.out hne (by decide))
              obtain ⟨hec, hep⟩ := env_cells (ENV.out.kept hkS)
              unfold putV at hep
              have hcp : cp < wr.heap.size := World.block_lt_of_cell? wr _ hep
              have hcp' : cp ≠ wr.heap.size := by omega
              have hbx' : bx ≠ wr.heap.size := by omega
              have hbx'' : bx < wr.heap.size := by omega
              have hbwr : Below w0.heap.size w0 wr := ((hbW.alloc hw0 _).trans hS.out.2.1)
              clear hec
              by_cases hlt : j < e.f4.length
              · as_aux_lemma =>
                obtain ⟨ad, B2, d2, B4, d4, hA, q0, q1, q2, q3, q4, l2, g2, l4, g4⟩ := at_T25 hC4 (j : Int) (by omega) (by omega)
                have hrd : rd_T25 e.f4 (j : Int) = e.f4[j] := by simp [rd_T25, hlt]
                rw [hrd] at q0 q1 q2 q3 q4 l2 g2 l4 g4
                subst hA
                replace q0 := cell_up hbwr q0
                replace q1 := cell_up hbwr q1
                replace q2 := cell_up hbwr q2
                replace q3 := cell_up hbwr q3
                replace q4 := cell_up hbwr q4
                simp only [Int.toNat_natCast] at q0 q1 q2 q3 q4
                have hsz := kid_size e j hlt
                have hpl := hlK (j + 1)
                rw [putsT_take _ _ hlt, List.length_append] at hpl
                clear hrd hlK
                have henv := Lib.hid (ENV.out.kept hkS)
                go_wp2_with fail
                refine Calls.mono (ih e.f4[j] e.f0 (M1 ++ putsT (e.f4.take j) (bl e.f0)) B2 d2 B4 d4 _ (by omega) (hbwr.alloc (by omega) _) g2 l2 g4 l4 (hS.out.1.alloc _) (henv.out.kept ((Lib.OthersKept.refl _ _ _).alloc _)) (by rw [List.length_append]; omega)) ?_
                rintro en w5 ⟨rfl, h5⟩
                have h5' := Lib.hid ((hS.out.alloc (by simp; omega) _).trans h5)
                clear h5 hS hkS
                go_wp2_with fail
                refine ⟨⟨j + 1, by omega, by go_num, ?_⟩, by simp [intOf]; omega⟩
                rw [putsT_take _ _ hlt, ← List.append_assoc]
                exact h5'
              · as_aux_lemma =>
                obtain rfl : j = e.f4.length := by omega
                rw [List.take_length] at hS
                go_wp2_with fail
                refine Calls.mono (Write_calls w0.heap.size b (M1 ++ putsT e.f4 (bl e.f0)) ([60, 47] ++ bl e.f1 ++ [62]) _ _ (by rw [bl_append, bl_append]; rfl) hS.out.1 (by simp only [List.length_append, List.length_cons, List.length_nil]; omega) (by omega)) ?_
                rintro en w5 ⟨rfl, h5⟩
                have h6 := hS.out.trans h5
                rw [show M1 ++ putsT e.f4 (bl e.f0) ++ ([60, 47] ++ bl e.f1 ++ [62]) = P by rw [← HP.out, ← HM1.out, ← HTE.out]; simp] at h6
                have H6 := Lib.hid h6
                clear h5 h6
                go_wp2_with fail
                go_end0
                exact ⟨rfl, H6.out.1, ((Below.refl _ _).alloc hw0 _).trans H6.out.2.1, ((Lib.OthersKept.refl _ _ _).alloc _).trans H6.out.2.2⟩

theorem put2_calls (w0 : World) (b ca cp : Nat) : ∀ n, PutAt w0 b ca cp n
  | 0 => fun e _ _ _ _ _ _ _ hn => by cases e; simp at hn
  | n + 1 => put2_step w0 b ca cp n (put2_calls w0 b ca cp n)

end Go.Proofs.Ytaidgkmacpiajaa.Tg

/- timer.Timers: Due. -/
import Derived.Test.YtpofkfhpdokoeaaTmAdd
set_option linter.unusedVariables false
set_option linter.unusedSimpArgs false
namespace Go.Proofs.Ytpofkfhpdokoeaa.Tm
open Go.RowKit

def strs (l : List ByteArray) : List Value := l.map .string

def lenAt (w : World) (p : Nat) : Nat := match w.cell? ⟨p, 0, none⟩ with | some (.slice _ n _) => n | _ => 0

theorem TM.lenAt {w : World} {B p : Nat} {hs : List Al} {last : Int} (h : TM w B p hs last) : lenAt w p = hs.length := by
  obtain ⟨a, cap, hc⟩ := h.cell
  unfold Tm.lenAt; rw [hc]

/-- A row of another kind, made since w, grows: the Timers stay. -/
theorem TM.other {w wr w' : World} {B B' p n size : Nat} {hs : List Al} {last : Int} {v : Value} {e : TypeId} {xs : List Value} (h : TM wr B p hs last) (f : Fr p w wr) (hr : wr.ownsRow B' e size v n xs) (he : e ≠ 52) (he' : e ≠ 48) (hB : w.heap.size ≤ B') (hg : wr.grownBy w' v.ownBlock) :
    TM w' B p hs last ∧ Fr p w w' := by
  have hlt := h.lt
  obtain ⟨u, hpB, hp, hu⟩ := h
  have h1 : some p ≠ v.ownBlock := fun hv => by
    rcases hr.2 with ⟨rfl, _⟩ | ⟨g, cap, cur, rfl, _, hgg, _⟩
    · simp [Value.ownBlock] at hv
    · simp [Value.ownBlock] at hv
      subst hv
      rw [hp] at hgg
      simp at hgg
      exact he' hgg.2.symm
  have h2 : u.ownBlock = none ∨ u.ownBlock ≠ v.ownBlock := by
    rcases hu.2 with ⟨rfl, _⟩ | ⟨g, cap, cur, rfl, _, hgg, _⟩
    · exact .inl rfl
    · refine .inr fun hv => ?_
      rcases hr.2 with ⟨rfl, _⟩ | ⟨g', cap', cur', rfl, _, hg', _⟩
      · simp [Value.ownBlock] at hv
      · simp [Value.ownBlock] at hv
        subst hv
        rw [hgg] at hg'
        simp at hg'
        exact he hg'.2.symm
  have hp' : w'.heap[p]? = some (.cells #[u, .int .i64 last] 48 (0, 0)) := by rw [hg.block p hlt.2 h1]; exact hp
  refine ⟨⟨u, hpB, hp', hu.kept hg h2⟩, hg.os.trans f.os, hg.tape.trans f.tape, hg.output.trans f.output, Nat.le_trans f.size hg.size, fun k hk hkp ho => ?_, fun g' hg' => ?_⟩
  · rw [hg.block k (Nat.lt_of_lt_of_le hk f.size) (fun e => ?_)]
    · exact f.block k hk hkp ho
    · have := (hr.lt k e.symm).1
      omega
  · rw [own_of hp'] at hg'
    exact f.owns g' (by rw [own_of hp]; exact hg')

theorem cell_one_new2 (w : World) (o : Obj) (s : ByteArray) (t : TypeId) : ∀ j u, [Value.string s][j]? = some u → ((w.alloc o).alloc (.cells #[.string s] t)).cell? ((⟨w.heap.size + 1, 0, none⟩ : Addr).add j) = some u := by
  intro j u hj
  have h := heap_alloc_new (w.alloc o) (.cells #[.string s] t)
  rw [show (w.alloc o).heap.size = w.heap.size + 1 by simp] at h
  match j, hj with
  | 0, hj =>
    simp at hj; subst hj
    show World.cell? _ ⟨w.heap.size + 1, 0, none⟩ = _
    unfold World.cell?
    rw [show (⟨w.heap.size + 1, 0, none⟩ : Addr).block = w.heap.size + 1 from rfl, h]
    rfl
  | j + 1, hj => simp at hj

theorem infoString : (Try.prog.info? 9).map (fun i => (i.zero, i.size, i.bytes)) = some (some (.string ByteArray.empty), 1, 16) := by kernel_rfl

theorem Due_nil (now : Int) (w : World) : Calls Try.prog 11 #[.pointer none, .int .i64 now] w fun e w' => e = .returned (.slice none 0 0) ∧ w' = w := by
  go_enter Try.func11, Try.ntmps11
  go_wp2
  go_loopw [4] (fun x wr => x = .slice none 0 0 ∧ wr = w) (fun _ _ => 0)
  case atStart => exact ⟨rfl, rfl⟩
  case round =>
    obtain ⟨rfl, rfl⟩ := hrel
    go_wp2_with (go_at_call 12; refine Calls.mono (Next_nil _) ?_; rintro e w' ⟨rfl, rfl⟩)
    go_ret
    exact ⟨rfl, rfl⟩

set_option maxHeartbeats 1000000 in
theorem Due_calls (now : Int) (B p : Nat) (hs : List Al) (last : Int) (w : World) (ht : TM w B p hs last) (hl : hs.length ≤ 1000) :
    Calls Try.prog 11 #[P p, .int .i64 now] w fun e w' => ∃ v, e = .returned v ∧ w'.ownsRow w.heap.size 9 1 v (dueF hs.length now hs).1.length (strs (dueF hs.length now hs).1) ∧ TM w' B p (dueF hs.length now hs).2 last ∧ Fr p w w' := by
  unfold P
  obtain ⟨i0, hi, hz0, hz1, hz2⟩ := info_parts infoString
  go_enter Try.func11, Try.ntmps11
  go_wp2
  go_loopw [4] (fun x wr => ∃ (v : Value) (f : Nat) (hs' : List Al) (outs : List ByteArray), x = v ∧ Hid (hs'.length ≤ f) ∧ Hid (outs.length + hs'.length = hs.length) ∧ Hid (TM wr B p hs' last) ∧ Hid (Fr p w wr) ∧ Hid (wr.ownsRow w.heap.size 9 1 v outs.length (strs outs)) ∧ Hid (dueF hs.length now hs = (outs ++ (dueF f now hs').1, (dueF f now hs').2))) (fun _ wr => lenAt wr p)
  case atStart => exact ⟨_, hs.length, hs, [], rfl, Nat.le_refl _, by simp [Hid], ht, Fr.refl p w, World.ownsRow_nil _ _ _ _, by simp [Hid]⟩
  case round =>
    obtain ⟨v, f, hs', outs, rfl, hf, hlo, ht', hfr, hr, hd⟩ := hrel
    have hl' : hs'.length ≤ 1000 := by have := hlo.out; omega
    have hnx := Lib.hid (Next_calls B p hs' last wr ht'.out hl')
    unfold P at hnx
    cases h0 : hs'[0]? with
    | none =>
      rw [show nextV hs' = .tuple #[.int .i64 0, .bool false] by unfold nextV; rw [h0]] at hnx
      have hs0 : hs' = [] := by cases hs' with | nil => rfl | cons a t => simp at h0
      have hdf : dueF f now hs' = ([], hs') := by subst hs0; cases f <;> simp [dueF]
      have HDF := Lib.hid hdf
      clear h0 hs0 hdf
      go_wp2_with (go_at_call 12; refine Calls.mono hnx.out ?_; rintro e w' ⟨rfl, rfl⟩)
      go_ret
      refine ⟨_, rfl, ?_⟩
      rw [hd.out, HDF.out]
      simp only [List.append_nil]
      exact ⟨hr.out, ht'.out, hfr.out⟩
    | some a =>
      rw [show nextV hs' = .tuple #[.int .i64 a.at_, .bool true] by unfold nextV; rw [h0]] at hnx
      have hpos : 0 < hs'.length := (List.getElem?_eq_some_iff.1 h0).1
      by_cases hlt : now < a.at_
      · have hdf : dueF f now hs' = ([], hs') := by
          cases f with
          | zero => rfl
          | succ f => unfold dueF; rw [h0]; simp [hlt]
        have HDF := Lib.hid hdf
        clear h0 hdf
        go_wp2_with (go_at_call 12; refine Calls.mono hnx.out ?_; rintro e w' ⟨rfl, rfl⟩)
        go_ret
        refine ⟨_, rfl, ?_⟩
        rw [hd.out, HDF.out]
        simp only [List.append_nil]
        exact ⟨hr.out, ht'.out, hfr.out⟩
      · obtain ⟨f', rfl⟩ : ∃ m, f = m + 1 := ⟨f - 1, by have := hf.out; omega⟩
        have hdf : dueF (f' + 1) now hs' = (a.key :: (dueF f' now (popF hs').dropLast).1, (dueF f' now (popF hs').dropLast).2) := by
          rw [dueF, h0]; simp [hlt]
        have HDF := Lib.hid hdf
        have hpp := Lib.hid (hPop_calls B p hs' last a wr ht'.out hl' h0)
        unfold H encA at hpp
        have hpl : (popF hs').dropLast.length = hs'.length - 1 := by simp [popF_length]
        have HPL := Lib.hid hpl
        have hta := run_assert (.agg #[.int .i64 a.at_, .int .i64 a.num, .string a.key])
        clear h0 hdf hpl
        have hn1 : outs.length < 1000 := by have := hlo.out; omega
        go_wp2_with first
          | (go_at_call 12; refine Calls.mono hnx.out ?_; rintro e w' ⟨rfl, rfl⟩)
          | (go_at_call 18; refine Calls.mono hpp.out ?_; rintro e w2 ⟨rfl, h2, hf2⟩; have hrow2 := Lib.hid (((Fr.row ht'.out hf2 hr.out (by decide) (by decide)).alloc (.cells #[.int .i64 a.at_, .int .i64 a.num, .string a.key] 52)).alloc (.cells #[.string a.key] 9)); have hsz2 := (hfr.out.trans hf2).size; have H2 := Lib.hid h2; have HF2 := Lib.hid hf2; clear h2 hf2)
          | (at_builtin; refine wpList_append_own _ rfl _ _ 34 rfl w.heap.size 9 i0 _ 1 16 Try.underlying34 hi hz0 hz1 hz2 rfl (by decide) _ _ _ rfl hrow2.out ⟨w2.heap.size + 1, 0, none⟩ 1 1 [.string a.key] rfl rfl (cell_one_new2 w2 _ _ _) (by intro u hu; simp at hu; subst hu; rfl) (by unfold maxLen; omega) (by omega) (by simp; omega) ?_; intro v' w3 hown' hgrow _)
        obtain ⟨hT, hF⟩ := H2.out.below (((Below.refl _ w2).alloc (Nat.le_refl _) (.cells #[.int .i64 a.at_, .int .i64 a.num, .string a.key] 52)).alloc (by simp) (.cells #[.string a.key] 9))
        obtain ⟨hT3, hF3⟩ := TM.other hT (hfr.out.trans (HF2.out.trans hF)) hrow2.out (by decide) (by decide) (Nat.le_refl _) hgrow
        refine ⟨⟨_, f', (popF hs').dropLast, outs ++ [a.key], rfl, ?_, ?_, hT3, hF3, ?_, ?_⟩, ?_⟩
        · show (popF hs').dropLast.length ≤ f'
          rw [HPL.out]; have := hf.out; omega
        · show (outs ++ [a.key]).length + (popF hs').dropLast.length = hs.length
          rw [HPL.out, List.length_append]; have := hlo.out; simp; omega
        · show World.ownsRow w3 _ _ _ _ _ _
          simpa [strs] using hown'
        · show dueF hs.length now hs = _
          rw [hd.out, HDF.out]; simp
        · rw [hT3.lenAt, ht'.out.lenAt, HPL.out]; omega

end Go.Proofs.Ytpofkfhpdokoeaa.Tm

/- Push and Pop of the timers' heap. -/
import Derived.Test.YtpofkfhpdokoeaaTmDown
import Derived.Deep.RegionLaw
set_option linter.unusedVariables false
set_option linter.unusedSimpArgs false
namespace Go.Proofs.Ytpofkfhpdokoeaa.Tm
open Go.RowKit

/-- append onto a row of the call's own: the row stays where it is, or goes to a new block. -/
theorem run_append_own2 {P : Program} (w : World) (base : Nat) (t ty e : TypeId) (i : TypeInfo) (z : Value) (size bytes : Nat) (ht : P.underlying t = some (.slice e)) (hi : P.info? e = some i) (hz : i.zero = some z)
    (hsize : i.size = size) (hby : i.bytes = bytes) (hzs : z.cells.size = size) (hsz : 0 < size)
    (v : Value) (n : Nat) (xs : List Value) (hown : w.ownsRow base e size v n xs)
    (a : Addr) (m c : Nat) (news : List Value) (hl : news.length = m * size) (hnews : ∀ j u, news[j]? = some u → w.cell? (a.add j) = some u) (h1 : ∀ u ∈ news, u.oneCell' = true)
    (h63 : n + m ≤ maxLen) (hbytes : (n + m) * bytes ≤ 140737488355328) (hbase : base ≤ w.heap.size) :
    ∃ v' w', (Builtin.append_ #[t, t] ty #[v, .slice (some a) m c]).run P w = .ok v' w' ∧ w'.ownsRow base e size v' (n + m) (xs ++ news) ∧ w.grownBy w' v.ownBlock ∧
      (∀ g, v'.ownBlock = some g → v.ownBlock = some g ∨ w.heap.size ≤ g) := by
  rcases hown.2 with ⟨rfl, rfl⟩ | ⟨g, cap, cur, rfl, hbg, hg, hnc, hcm, hcs, htake⟩
  · have hx : xs = [] := List.eq_nil_of_length_eq_zero (by simpa using hown.1)
    subst hx
    obtain ⟨v', w', h2, h3, h4, _⟩ := run_append_own (P := P) w w.heap.size t ty e i z size bytes ht hi hz hsize hby hzs hsz (.slice none 0 0) 0 [] (World.ownsRow_nil _ _ _ _) a m c news hl hnews h1 h63 hbytes (Nat.le_refl _)
    exact ⟨v', w', h2, h3.mono hbase, h4, fun g hg => .inr (h3.lt g hg).1⟩
  · by_cases hroom : n + m ≤ cap
    · subst hsize
      have hlen : (xs ++ news).length = (n + m) * i.size := by rw [List.length_append, hown.1, hl, Nat.add_mul]
      have hfit : n * i.size + news.length ≤ cur.size := by rw [hl, hcs, ← Nat.add_mul]; exact Nat.mul_le_mul_right _ hroom
      have hr := run_append_room (P := P) w t ty e i ht hi g n cap cur hg a m c news hl hnews h1 hroom hfit
      refine ⟨_, _, hr, ⟨hlen, .inr ⟨g, cap, _, rfl, hbg, setRow_heap w g cur _ e _ hg, hroom, hcm, ?_, ?_⟩⟩, ⟨rfl, rfl, rfl, by simp, fun k _ hk => setRow_other w g k _ (fun e => hk (by simp [Value.ownBlock, e]))⟩, fun g' hg' => .inl (by simpa [Value.ownBlock] using hg')⟩
      · simp only [List.size_toArray, List.length_append, List.length_take, List.length_drop, Array.length_toList]
        omega
      · rw [htake, ← hlen]
        exact List.take_left
    · obtain ⟨v', w', h2, h3, h4⟩ := run_append_arg_grows (P := P) w t ty e i z size bytes ht hi hz hsize hby hzs hsz ⟨g, 0, none⟩ n cap xs hown.1 (hown.cells (g := g) rfl) a m c news hl hnews (by omega) h63 hbytes
      exact ⟨v', w', h2, h3.mono hbase, ⟨h4.os, h4.tape, h4.output, h4.size, fun k hk _ => h4.block k hk (by simp)⟩, fun g hg => .inr (h3.lt g hg).1⟩

/-- append onto a row of the call's own, as one step of a region that draws. -/
theorem step_append_own {P : Program} {ops : Array Oper} {o : Oper} {a : Act} {w : World} {K : Act → World → Prop} {Q : Exit → Act → World → Prop} {E : Prop}
    (hg : o.guard = none) (s x : Operand) (t : TypeId) (hop : o.op = Op.call { callee := Callee.builtin Builtin.append, args := #[s, x], argTypes := #[t, t] })
    (base : Nat) (e : TypeId) (i : TypeInfo) (z : Value) (size bytes : Nat) (h1 : P.underlying t = some (.slice e)) (h2 : P.info? e = some i) (h3 : i.zero = some z) (h4 : i.size = size) (h5 : i.bytes = bytes) (h6 : z.cells.size = size) (h7 : 0 < size)
    (v : Value) (n : Nat) (xs : List Value) (hs : a.eval s = v) (hown : w.ownsRow base e size v n xs)
    (ad : Addr) (m c : Nat) (news : List Value) (hx : a.eval x = .slice (some ad) m c) (hn : news.length = m * size) (hc : ∀ j u, news[j]? = some u → w.cell? (ad.add j) = some u) (h1c : ∀ u ∈ news, u.oneCell' = true)
    (b1 : n + m ≤ maxLen) (b2 : (n + m) * bytes ≤ 140737488355328) (hbase : base ≤ w.heap.size)
    (hK : ∀ v' w', w'.ownsRow base e size v' (n + m) (xs ++ news) → w.grownBy w' v.ownBlock → (∀ g, v'.ownBlock = some g → v.ownBlock = some g ∨ w.heap.size ≤ g) → K (a.put o.dst v') w') :
    if Region.wanted o (yielded ops a.tmps) = true then Oper.wp P o a w K Q else E := by
  have hw : Region.wanted o (yielded ops a.tmps) = true := by simp [Region.wanted, hg]
  rw [if_pos hw]
  obtain ⟨v', w', hrun, r1, r2, r3⟩ := run_append_own2 (P := P) w base t o.type e i z size bytes h1 h2 h3 h4 h5 h6 h7 v n xs hown ad m c news hn hc h1c b1 b2 hbase
  unfold Oper.wp
  simp [execOp, hop, resolve, invoke, builtin, hs, hx, hrun, Result.andThen]
  exact hK v' w' r1 r2 r3

def encA (a : Al) : Value := .agg #[.int .i64 a.at_, .int .i64 a.num, .string a.key]

theorem infoAlarm : (Try.prog.info? 52).map (fun i => (i.zero, i.size, i.bytes)) = some (some (.agg #[.int .i64 0, .int .i64 0, .string ByteArray.empty]), 3, 32) := by kernel_rfl

theorem run_assert (v : Value) (w : World) : (Instr.typeAssert (.iface 52 v) 20 52 true).run Try.prog w = .ok (.tuple #[v, .bool true]) w := by kernel_rfl

theorem cell_three_new (w : World) (a b c : Value) (t : TypeId) : ∀ j u, [a, b, c][j]? = some u → (w.alloc (.cells #[a, b, c] t)).cell? ((⟨w.heap.size, 0, none⟩ : Addr).add j) = some u := by
  intro j u hj
  match j, hj with
  | 0, hj => simp at hj; subst hj; simp [Addr.add]
  | 1, hj => simp at hj; subst hj; simp [Addr.add]
  | 2, hj => simp at hj; subst hj; simp [Addr.add]
  | j + 3, hj => simp at hj

theorem row_kind {w : World} {B p : Nat} {hs : List Al} {last : Int} {v0 v : Value} (hp : w.heap[p]? = some (.cells #[v0, .int .i64 last] 48 (0, 0))) (hr : w.ownsRow B 52 3 v hs.length (cellsL hs)) : some p ≠ v.ownBlock := by
  intro hv
  rcases hr.2 with ⟨rfl, _⟩ | ⟨g', cap, cur, rfl, _, hg', _⟩
  · simp [Value.ownBlock] at hv
  · simp [Value.ownBlock] at hv
    subst hv
    rw [hp] at hg'
    simp at hg'

theorem row_form {w : World} {base size n : Nat} {e : TypeId} {v : Value} {xs : List Value} (h : w.ownsRow base e size v (n + 1) xs) : ∃ g cap, v = .slice (some ⟨g, 0, none⟩) (n + 1) cap := by
  rcases h.2 with ⟨_, h⟩ | ⟨g, cap, cur, hv, _⟩
  · omega
  · exact ⟨g, cap, hv⟩

theorem own_of {w : World} {p : Nat} {v : Value} {last : Int} (hp : w.heap[p]? = some (.cells #[v, .int .i64 last] 48 (0, 0))) : own w p = v.ownBlock := by simp [own, hp]

/-- The slice in a Timers, written anew. -/
theorem set_p0 {w : World} {p : Nat} {v v' : Value} {last : Int} (hp : w.heap[p]? = some (.cells #[v, .int .i64 last] 48 (0, 0))) : (w.setCell ⟨p, 0, none⟩ v').heap[p]? = some (.cells #[v', .int .i64 last] 48 (0, 0)) := by
  rw [heap_setCell_same w p 0 _ _ v' hp]
  simp

theorem push_end {w W X w' : World} {B p : Nat} {hs hs' : List Al} {last : Int} {v v' : Value} (hF : Fr p w W) (hB : B ≤ p) (hp : W.heap[p]? = some (.cells #[v, .int .i64 last] 48 (0, 0))) (hr : W.ownsRow B 52 3 v hs.length (cellsL hs)) (hX : Below W.heap.size W X)
    (hg : X.grownBy w' v.ownBlock) (hown : w'.ownsRow B 52 3 v' hs'.length (cellsL hs')) (hv : ∀ g, v'.ownBlock = some g → v.ownBlock = some g ∨ X.heap.size ≤ g) :
    TM (w'.setCell ⟨p, 0, none⟩ v') B p hs' last ∧ Fr p w (w'.setCell ⟨p, 0, none⟩ v') := by
  have hlt : p < W.heap.size := (Array.getElem?_eq_some_iff.1 hp).1
  have hne := row_kind hp hr
  have hp' : w'.heap[p]? = some (.cells #[v, .int .i64 last] 48 (0, 0)) := by
    rw [hg.block p (Nat.lt_of_lt_of_le hlt hX.size) hne, hX.block p hlt]; exact hp
  have hs := set_p0 (v' := v') hp'
  have hk := row_kind hp' hown
  have hF2 : Fr p W (w'.setCell ⟨p, 0, none⟩ v') := by
    refine ⟨hg.os.trans hX.os, hg.tape.trans hX.tape, hg.output.trans hX.output, ?_, fun k hk hkp ho => ?_, fun g hg' => ?_⟩
    · have := hX.size; have := hg.size; simp [World.setCell]; omega
    · rw [Below.heap_setCell _ _ _ _ (by simpa using hkp), hg.block k (Nat.lt_of_lt_of_le hk hX.size) (fun e => ho (by rw [own_of hp]; exact e.symm)), hX.block k hk]
    · rw [own_of hs] at hg'
      rw [own_of hp]
      rcases hv g hg' with h | h
      · exact .inl h
      · exact .inr (Nat.le_trans hX.size h)
  refine ⟨⟨v', hB, hs, ?_⟩, hF.trans hF2⟩
  refine hown.kept (row := some p) ⟨rfl, rfl, rfl, by simp [World.setCell], fun k _ hkp => Below.heap_setCell _ _ _ _ (by rintro rfl; exact hkp rfl)⟩ ?_
  cases hvb : v'.ownBlock with
  | none => exact .inl rfl
  | some g => exact .inr (fun e => hk (by rw [hvb]; exact e.symm))

set_option maxHeartbeats 2000000 in
theorem aPush_calls (B p : Nat) (hs : List Al) (last : Int) (a : Al) (w : World) (h : TM w B p hs last) (h1000 : hs.length ≤ 1000) (hB : B ≤ w.heap.size) :
    Calls Try.prog 50 #[.pointer (some ⟨p, 0, none⟩), .iface 52 (encA a)] w fun e w' => e = .returned (.tuple #[]) ∧ TM w' B p (hs ++ [a]) last ∧ Fr p w w' := by
  unfold encA
  obtain ⟨i0, hi, hz0, hz1, hz2⟩ := info_parts infoAlarm
  have HT := Lib.hid h
  obtain ⟨v, hpB, hp, hr⟩ := h
  obtain ⟨p0, p1, pf⟩ := cell_p0 hp
  have pf0 := pf 0
  have HP := Lib.hid hp
  have HR := Lib.hid hr
  clear hp hr pf
  have hta := run_assert (.agg #[.int .i64 a.at_, .int .i64 a.num, .string a.key]) w
  go_enter Try.func50, Try.ntmps50
  go_wp2
  have hb0 := (Below.refl w.heap.size w).alloc (Nat.le_refl _) (.cells #[.int .i64 a.at_, .int .i64 a.num, .string a.key] 52)
  obtain ⟨hT0, hF0⟩ := HT.out.below hb0
  have hr0 := HR.out.alloc (.cells #[.int .i64 a.at_, .int .i64 a.num, .string a.key] 52)
  have hp0 : (w.alloc (.cells #[.int .i64 a.at_, .int .i64 a.num, .string a.key] 52)).heap[p]? = _ := (hb0.block p HT.out.lt.2).trans HP.out
  have b0 := cell_three_new w (.int .i64 a.at_) (.int .i64 a.num) (.string a.key) 52 0 _ rfl
  have b1 := cell_three_new w (.int .i64 a.at_) (.int .i64 a.num) (.string a.key) 52 1 _ rfl
  have b2 := cell_three_new w (.int .i64 a.at_) (.int .i64 a.num) (.string a.key) 52 2 _ rfl
  simp only [Addr.add_lit] at b0 b1 b2
  have hB0 : B ≤ (w.alloc (.cells #[.int .i64 a.at_, .int .i64 a.num, .string a.key] 52)).heap.size := Nat.le_trans hB hb0.size
  have hlt0 := hT0.lt
  generalize w.alloc (.cells #[.int .i64 a.at_, .int .i64 a.num, .string a.key] 52) = W at *
  generalize w.heap.size = b at b0 b1 b2 ⊢
  obtain ⟨q0, q1, qf⟩ := cell_p0 hp0
  have qf0 := qf 0
  have HR0 := Lib.hid hr0
  have HP0 := Lib.hid hp0
  have HF0 := Lib.hid hF0
  clear hb0 hT0 hr0 hp0 hF0 qf p0 p1 pf0 HP HR HT hta
  go_region_law (refine step_append_own rfl (.tmp 15) (.tmp 17) 46 rfl B 52 i0 _ 3 32 Try.underlying46 hi hz0 hz1 hz2 rfl (by decide) v hs.length (cellsL hs) (by simp [Act.eval, Act.put]) (by first | exact HR0.out.alloc _ | exact (HR0.out.alloc _).drew) ⟨W.heap.size, 0, none⟩ 1 1 [.int .i64 a.at_, .int .i64 a.num, .string a.key] (by simp [Act.eval, Act.put]) rfl (fun j u hj => by first | exact cell_three_new W _ _ _ _ j u hj | exact (World.cell?_of_block (w := W.alloc _) rfl).trans (cell_three_new W _ _ _ _ j u hj)) (by intro u hu; simp at hu; rcases hu with rfl | rfl | rfl <;> rfl) (by unfold maxLen; omega) (by omega) (by simp; omega) ?_; intro v' w' hown' hgrow hvb; have hp' := (hgrow.block p (by simp; omega) (row_kind HP0.out HR0.out)).trans ((Below.heap_alloc W _ p hlt0.2).trans HP0.out); obtain ⟨c0, c1, cf⟩ := cell_p0 hp'; have cf0 := cf 0; obtain ⟨g', cap', rfl⟩ := row_form hown'; have HE := Lib.hid (push_end HF0.out hlt0.1 HP0.out HR0.out (X := W.alloc (.cells #[.int .i64 a.at_, .int .i64 a.num, .string a.key] 52)) ((Below.refl _ W).alloc (Nat.le_refl _) _) ⟨hgrow.os, hgrow.tape, hgrow.output, hgrow.size, hgrow.block⟩ (hs' := hs ++ [a]) (by rw [cellsL_append]; simpa [cellsL] using hown') hvb); clear hown' hgrow hvb hp' cf)
  all_goals (go_end0; exact ⟨rfl, HE.out⟩)

end Go.Proofs.Ytpofkfhpdokoeaa.Tm

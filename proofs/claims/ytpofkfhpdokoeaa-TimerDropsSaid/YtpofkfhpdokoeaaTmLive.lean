/- The statements' own functions: R.Texts at equal lists, live. -/
import Derived.Test.YtpofkfhpdokoeaaTmDue
import Derived.Deep.QuietTactic
import Derived.BigQuiet
set_option linter.unusedVariables false
set_option linter.unusedSimpArgs false
namespace Go.Proofs.Ytpofkfhpdokoeaa.Tm
open Go.RowKit

theorem str_cell {w : World} {B : Nat} {v : Value} {l : List ByteArray} (h : w.ownsRow B 9 1 v l.length (strs l)) (k : Nat) (hk : k < l.length) : ∃ g cap, v = .slice (some ⟨g, 0, none⟩) l.length cap ∧ w.cell? ⟨g, k, none⟩ = some (.string l[k]) := by
  have h' := h
  rcases h.2 with ⟨_, h0⟩ | ⟨g, cap, cur, rfl, _⟩
  · omega
  · refine ⟨g, cap, rfl, ?_⟩
    rw [h'.cellAt k (by omega)]
    simp [strs, hk]

theorem str_form {w : World} {B : Nat} {v : Value} {l : List ByteArray} (h : w.ownsRow B 9 1 v l.length (strs l)) : ∃ a cap, v = .slice a l.length cap := by
  rcases h.2 with ⟨rfl, h0⟩ | ⟨g, cap, cur, rfl, _⟩
  · exact ⟨none, 0, by rw [h0]⟩
  · exact ⟨_, cap, rfl⟩

theorem str_kept {w w' : World} {B : Nat} {v : Value} {n : Nat} {xs : List Value} {e : TypeId} (hr : w.ownsRow B e 1 v n xs) (hb : Below w.heap.size w w') : w'.ownsRow B e 1 v n xs :=
  hr.kept (row := none) ⟨hb.os, hb.tape, hb.output, hb.size, fun k hk _ => hb.block k hk⟩ (by cases v.ownBlock <;> simp)

set_option maxHeartbeats 1000000 in
theorem Texts_same (B B' : Nat) (v v' : Value) (l : List ByteArray) (w : World) (h : w.ownsRow B 9 1 v l.length (strs l)) (h' : w.ownsRow B' 9 1 v' l.length (strs l)) (hl : l.length ≤ 1000) :
    Calls Try.prog 16 #[v, v'] w fun e w' => e = .returned (.bool true) ∧ Below w.heap.size w w' := by
  obtain ⟨a, cap, rfl⟩ := str_form h
  obtain ⟨a', cap', rfl⟩ := str_form h'
  have H1 := Lib.hid h
  have H2 := Lib.hid h'
  clear h h'
  go_enter Try.func16, Try.ntmps16
  go_wp2
  go_loopw [5] (fun x wr => ∃ k : Nat, k ≤ l.length ∧ x = .int .i64 k ∧ Hid (Below w.heap.size w wr)) (fun x _ => l.length - (intOf x).toNat)
  case atStart => exact ⟨0, Nat.zero_le _, rfl, Below.refl _ _⟩
  case round =>
    obtain ⟨k, hk, rfl, hb⟩ := hrel
    by_cases hlt : k < l.length
    · obtain ⟨g, c, hv, c0⟩ := str_cell (str_kept H1.out hb.out) k hlt
      obtain ⟨g', c', hv', c0'⟩ := str_cell (str_kept H2.out hb.out) k hlt
      cases hv; cases hv'
      have hbq : (l[k].toList == l[k].toList) = true := beq_self_eq_true _
      go_wp2
      go_quiet (fail)
      go_wp2
      exact ⟨⟨k + 1, by omega, by go_num, hb.out.trans ⟨rfl, rfl, rfl, Nat.le_refl _, fun _ _ => rfl⟩⟩, by simp [intOf]; omega⟩
    · obtain rfl : k = l.length := by omega
      go_wp2
      go_ret
      exact ⟨rfl, hb.out⟩

def L1 : List Al := pushF [] ⟨5, 0 + 1, ⟨#[97]⟩⟩
def L2 : List Al := pushF L1 ⟨3, 1 + 1, ⟨#[98]⟩⟩
def L3 : List Al := pushF L2 ⟨5, 2 + 1, ⟨#[99]⟩⟩
def L4 : List Al := pushF L3 ⟨9, 3 + 1, ⟨#[100]⟩⟩
theorem L1_len : L1.length = 1 := by kernel_rfl
theorem L2_len : L2.length = 2 := by kernel_rfl
theorem L3_len : L3.length = 3 := by kernel_rfl
theorem L4_len : L4.length = 4 := by kernel_rfl
theorem L4_next : nextV L4 = .tuple #[.int .i64 3, .bool true] := by kernel_rfl
theorem L4_due : dueF L4.length 5 L4 = ([⟨#[98]⟩, ⟨#[97]⟩, ⟨#[99]⟩], [⟨9, 4, ⟨#[100]⟩⟩]) := by kernel_rfl

theorem L5_has : [(⟨9, 4, ⟨#[100]⟩⟩ : Al)].any (isKey ⟨#[100]⟩) = true := by kernel_rfl
theorem L5_drop : (([(⟨9, 4, ⟨#[100]⟩⟩ : Al)].length : Int) - ((keep ⟨#[100]⟩ [(⟨9, 4, ⟨#[100]⟩⟩ : Al)]).length : Int)) = 1 := by kernel_rfl

set_option maxHeartbeats 4000000 in
set_option maxRecDepth 100000 in
theorem live_calls (w : World) : Calls Try.prog 7 #[] w fun e w' => e = .returned (.bool true) ∧ Below w.heap.size w w' := by
  go_enter Try.func7, Try.ntmps7
  go_wp2_with first
    | (go_at_call 8; refine Calls.mono (New_calls _) ?_; unfold P; rintro e w1 ⟨rfl, h1, hb1⟩; generalize hp : w.heap.size = p at *; have HB1 := Lib.hid hb1; have HPP := Lib.hid hp; have ha1 := Add_calls 5 ⟨#[97]⟩ p p [] 0 w1 h1 (by decide) (by decide) (by decide) (by decide) (by decide); unfold P at ha1; have HA1 := Lib.hid ha1; have H1 := Lib.hid h1; clear ha1 h1 hb1 hp)
    | (go_at_call 9; (with_reducible refine Calls.mono HA1.out ?_); rintro e w2 ⟨rfl, h2, f2⟩; have ha2 := Add_calls 3 ⟨#[98]⟩ p p L1 1 w2 h2 (by decide) (by decide) (by rw [L1_len]; decide) (by decide) (by decide); unfold P at ha2; have HA2 := Lib.hid ha2; have H2 := Lib.hid (show TM w2 p p L1 1 from h2); have F2 := Lib.hid f2; clear ha2 h2 f2 HA1)
    | (go_at_call 9; (with_reducible refine Calls.mono HA2.out ?_); rintro e w3 ⟨rfl, h3, f3⟩; have ha3 := Add_calls 5 ⟨#[99]⟩ p p L2 2 w3 h3 (by decide) (by decide) (by rw [L2_len]; decide) (by decide) (by decide); unfold P at ha3; have HA3 := Lib.hid ha3; have H3 := Lib.hid (show TM w3 p p L2 2 from h3); have F3 := Lib.hid f3; clear ha3 h3 f3 HA2)
    | (go_at_call 9; (with_reducible refine Calls.mono HA3.out ?_); rintro e w4 ⟨rfl, h4, f4⟩; have ha4 := Add_calls 9 ⟨#[100]⟩ p p L3 3 w4 h4 (by decide) (by decide) (by rw [L3_len]; decide) (by decide) (by decide); unfold P at ha4; have HA4 := Lib.hid ha4; have H4 := Lib.hid (show TM w4 p p L3 3 from h4); have F4 := Lib.hid f4; clear ha4 h4 f4 HA3)
    | (go_at_call 9; (with_reducible refine Calls.mono HA4.out ?_); rintro e w5 ⟨rfl, h5, f5⟩; have hn5 := Next_calls p p L4 4 w5 h5 (by rw [L4_len]; decide); rw [L4_next] at hn5; have hd5 := Due_calls 5 p p L4 4 _ h5 (by rw [L4_len]; decide); rw [L4_due] at hd5; unfold P at hn5 hd5; have HN5 := Lib.hid hn5; have HD5 := Lib.hid hd5; have H5 := Lib.hid (show TM w5 p p L4 4 from h5); have F5 := Lib.hid f5; clear h5 f5 HA4 hn5 hd5)
    | (go_at_call 12; (with_reducible refine Calls.mono HN5.out ?_); rintro e w6 ⟨rfl, rfl⟩)
    | (go_at_call 11; (with_reducible refine Calls.mono HD5.out ?_); rintro e w7 ⟨v7, rfl, h7r, h7, f7⟩; have ha7 := Add_arg (-1) ⟨#[]⟩ p w7 (by decide) (by decide); unfold P at ha7; have HA7 := Lib.hid ha7; have H7 := Lib.hid h7; have H7R := Lib.hid h7r; have F7 := Lib.hid f7; clear h7 h7r f7 ha7)
    | (go_at_call 9; (with_reducible refine Calls.mono HA7.out ?_); rintro e w8 ⟨rfl, rfl⟩)
    | (go_at_call 10; refine Calls.mono (num_calls _ _) ?_; rintro e w8 ⟨rfl, rfl⟩)
    | (go_at_call 16; refine Calls.mono (Texts_same _ _ _ _ [⟨#[98]⟩, ⟨#[97]⟩, ⟨#[99]⟩] _ (H7R.out.alloc _) (World.ownsRow_lit (base := w8.heap.size) w8 #[.string ⟨#[98]⟩, .string ⟨#[97]⟩, .string ⟨#[99]⟩] 3 (Nat.le_refl _) (by decide) rfl) (by decide)) ?_; rintro e w9 ⟨rfl, hb9⟩; obtain ⟨h9, f9⟩ := H7.out.below (((Below.refl w8.heap.size w8).alloc (Nat.le_refl _) (.cells #[.string ⟨#[98]⟩, .string ⟨#[97]⟩, .string ⟨#[99]⟩] 9)).trans (hb9.mono (by simp))); have hl9 := Len_calls p p _ 4 w9 h9; have hh9 := Has_calls ⟨#[100]⟩ p p _ 4 w9 h9 (by decide); rw [L5_has] at hh9; unfold P at hl9 hh9; have HL9 := Lib.hid hl9; have HH9 := Lib.hid hh9; have H9 := Lib.hid h9; have F9 := Lib.hid f9; clear hb9 h9 f9 hl9 hh9)
    | (go_at_call 13; (with_reducible refine Calls.mono HL9.out ?_); rintro e w10 ⟨rfl, rfl⟩)
    | (go_at_call 15; (with_reducible refine Calls.mono HH9.out ?_); rintro e w11 ⟨rfl, hb11⟩; obtain ⟨h11, f11⟩ := H9.out.below hb11; have hd11 := Drop_calls ⟨#[100]⟩ p p _ 4 w11 h11 (by decide); rw [L5_drop] at hd11; unfold P at hd11; have HD11 := Lib.hid hd11; have H11 := Lib.hid h11; have F11 := Lib.hid f11; clear hb11 h11 f11 hd11)
    | (go_at_call 14; (with_reducible refine Calls.mono HD11.out ?_); rintro e w12 ⟨rfl, h12, f12⟩)
  go_ret
  refine ⟨rfl, ?_⟩
  rw [HPP.out]
  exact HB1.out.trans ((F2.out.below H1.out).trans ((F3.out.below H2.out).trans ((F4.out.below H3.out).trans ((F5.out.below H4.out).trans ((F7.out.below H5.out).trans ((F9.out.below H7.out).trans ((F11.out.below H9.out).trans (f12.below H11.out))))))))

end Go.Proofs.Ytpofkfhpdokoeaa.Tm

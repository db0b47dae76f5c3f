/- The lists that the statements take: what lies in memory of them; small. -/
import Derived.Test.YtpofkfhpdokoeaaTmFull
set_option linter.unusedVariables false
set_option linter.unusedSimpArgs false
namespace Go.Proofs.Ytpofkfhpdokoeaa.Tm
open Go.RowKit

structure Ac where
  kind : Int
  at_ : Int
  key : ByteArray

instance : Inhabited Ac := ⟨⟨0, 0, ByteArray.empty⟩⟩

/-- Of a list of acts: the value that stands for it, and its cells. -/
def Acts (w : World) (v : Value) (l : List Ac) : Prop :=
  ∃ a cap, v = .slice a l.length cap ∧ l.length ≤ 9223372036854775807 ∧ (∀ x ∈ l, x.at_ ≤ 9223372036854775807) ∧ (l ≠ [] → ∃ b off, a = some ⟨b, off, none⟩ ∧ b < w.heap.size ∧
    ∀ i (h : i < l.length), w.cell? ⟨b, off + i * 3, none⟩ = some (.int .i64 l[i].kind) ∧ w.cell? ⟨b, off + i * 3 + 1, none⟩ = some (.int .i64 l[i].at_) ∧ w.cell? ⟨b, off + i * 3 + 2, none⟩ = some (.string l[i].key))

def Nums (w : World) (v : Value) (l : List Int) : Prop :=
  ∃ a cap, v = .slice a l.length cap ∧ l.length ≤ 9223372036854775807 ∧ (l ≠ [] → ∃ b off, a = some ⟨b, off, none⟩ ∧ b < w.heap.size ∧
    ∀ i (h : i < l.length), w.cell? ⟨b, off + i, none⟩ = some (.int .i64 l[i]))

def SmallE (e : Ending) (n : Nat) : Prop := ∃ b, e = .returned (.bool b) ∧ (b = true → n ≤ 100)

theorem Add_arg2 (x : Int) (key : ByteArray) (p : Nat) (w : World) (h : x < 0 ∨ 256 < key.size) : Calls Try.prog 9 #[.pointer (some ⟨p, 0, none⟩), .int .i64 x, .string key] w fun e w' => e = .returned (.tuple #[.int .i64 0, .int .i64 2]) ∧ w' = w := by
  by_cases h1 : 256 < key.size
  · clear h
    go_enter Try.func9, Try.ntmps9
    go_wp2
    go_ret2
    exact ⟨rfl, rfl⟩
  · have hx : x < 0 := by omega
    clear h
    go_enter Try.func9, Try.ntmps9
    go_wp2
    go_ret2
    exact ⟨rfl, rfl⟩

set_option maxHeartbeats 1000000 in
theorem small_calls (v : Value) (l : List Ac) (w : World) (h : Acts w v l) : Calls Try.prog 6 #[v] w fun e w' => SmallE e l.length ∧ w' = w := by
  obtain ⟨a, cap, rfl, hl, _, hc⟩ := h
  have HC := Lib.hid hc
  clear hc
  go_enter Try.func6, Try.ntmps6
  go_wp2
  go_loopw [3, 4] (fun x y wr => ∃ (k : Nat) (n : Int), x = .int .i64 n ∧ y = .int .i64 k ∧ k ≤ l.length ∧ wr = w) (fun _ y _ => l.length - (intOf y).toNat)
  case atStart => exact ⟨0, 0, rfl, rfl, Nat.zero_le _, rfl⟩
  case round =>
    obtain ⟨k, n, rfl, rfl, hk, rfl⟩ := hrel
    by_cases hlt : k < l.length
    · obtain ⟨b, off, rfl, _, hcell⟩ := HC.out (by rintro rfl; simp at hlt)
      obtain ⟨c0, c1, c2⟩ := hcell k hlt
      clear hcell
      by_cases h1 : k ≤ 100
      · by_cases h2 : n ≤ 5000
        · go_wp2
          exact ⟨⟨k + 1, _, rfl, by go_num, by omega, trivial⟩, by simp [intOf]; omega⟩
        · go_wp2
          all_goals (go_ret; refine ⟨⟨_, rfl, fun h => ?_⟩, rfl⟩; first | omega | exact absurd h Bool.false_ne_true | (simp at h; omega))
      · go_wp2
        all_goals (go_ret; refine ⟨⟨_, rfl, fun h => ?_⟩, rfl⟩; first | omega | exact absurd h Bool.false_ne_true | (simp at h; omega))
    · obtain rfl : k = l.length := by omega
      go_wp2
      all_goals (go_ret; refine ⟨⟨_, rfl, fun h => ?_⟩, rfl⟩; first | omega | exact absurd h Bool.false_ne_true | (simp at h; omega))

end Go.Proofs.Ytpofkfhpdokoeaa.Tm

/- Proved here: what the inner functions of the package seal answer, over words that stand for whole numbers. -/
import Derived.Test.YtbiijcehgiibeaaProg
import Derived.Test.YtbiijcehgiibeaaKCBackFloat
import Derived.Test.YtbiijcehgiibeaaKCBackMath
import Derived.Test.YtbiijcehgiibeaaKCBackWWords
import Derived.WalkKit
import Derived.WalkSpells
import Derived.WalkLawsBesides
import Derived.Lib.Hide
namespace Go.Proofs.Ytbiijcehgiibeaa.S
open Go.RowKit
theorem w_calls (w : World) : Calls Try.prog 71 #[] w fun e w' => e = .returned (.complex .f64 4679482798749253632 4689970232712757248) ∧ w = w' := by
  go_enter Try.func71, Try.ntmps71
  go_wp2
  go_ret
  exact ⟨rfl, rfl⟩
theorem bcell {W w1 : World} (hb : Below W.heap.size W w1) : (∀ b o, b < W.heap.size → w1.cell? ⟨b, o, none⟩ = W.cell? ⟨b, o, none⟩) ∧ (∀ b o, b < W.heap.size → w1.frozen? ⟨b, o, none⟩ = W.frozen? ⟨b, o, none⟩) :=
  ⟨fun b o h => hb.cell (p := ⟨b, o, none⟩) h, fun b o h => hb.frozen (p := ⟨b, o, none⟩) h⟩
theorem tmod_P (n : Int) : n.tmod 16777199 = if 0 ≤ n then n % 16777199 else -((-n) % 16777199) := by
  split
  · exact Int.tmod_eq_emod_of_nonneg ‹_›
  · rename_i h
    have := Int.neg_tmod (a := -n) (b := 16777199)
    rw [Int.neg_neg] at this
    rw [this, Int.tmod_eq_emod_of_nonneg (by omega)]
theorem part_num (n : Int) : (wrap64 (n.tmod 16777199 + 16777199)).tmod 16777199 = n % 16777199 := by
  rw [tmod_P n]
  have h : ∀ m : Int, 0 ≤ m → m < 2 * 16777199 → (wrap64 m).tmod 16777199 = m % 16777199 := by
    intro m h1 h2
    have : wrap64 m = m := by unfold wrap64; omega
    rw [this, tmod_P, if_pos h1]
  split
  · rw [h _ (by omega) (by omega)]; omega
  · rw [h _ (by omega) (by omega)]; omega
set_option maxHeartbeats 400000 in
theorem part_calls (x : Nat) (n : Int) (hx : M.FI x n) (hn : n.natAbs < 2 ^ 53) (w : World) : Calls Try.prog 85 #[.float .f64 x] w fun e w' => e = .returned (.int .i64 (n % 16777199)) ∧ w = w' := by
  have hc := fun (w : World) => run_convert_float_int (P := Try.prog) w 88 3 .f64 .i64 x n (by kernel_rfl) (by kernel_rfl) (M.to_int hx hn)
  have h1 : -9007199254740992 < n ∧ n < 9007199254740992 := by omega
  clear hn hx
  go_enter Try.func85, Try.ntmps85
  go_wp2
  go_ret
  rw [part_num]
  exact ⟨rfl, rfl⟩
set_option maxHeartbeats 400000 in
theorem number_calls (a b : Int) (w : World) : Calls Try.prog 69 #[.agg #[.int .i64 a, .int .i64 b]] w fun e w' => e = .returned (.complex .f64 (M.fl a) (M.fl b)) ∧ Below w.heap.size w w' := by
  go_enter Try.func69, Try.ntmps69
  go_wp2
  go_ret
  exact ⟨rfl, (Below.refl _ _).alloc (Nat.le_refl _) _⟩
set_option maxHeartbeats 400000 in
theorem seal_calls (x y : Nat) (a b : Int) (hx : M.FI x a) (hy : M.FI y b) (ha : a.natAbs < 2 ^ 53) (hb : b.natAbs < 2 ^ 53) (w : World) :
    Calls Try.prog 70 #[.complex .f64 x y] w fun e w' => e = .returned (.agg #[.int .i64 (a % 16777199), .int .i64 (b % 16777199)]) ∧ Below w.heap.size w w' := by
  have c1 := fun w => part_calls x a hx ha w
  have c2 := fun w => part_calls y b hy hb w
  clear hx hy ha hb
  go_enter Try.func70, Try.ntmps70
  go_wp2_with (first | ((with_reducible refine (c1 _).mono ?_); rintro e w' ⟨rfl, rfl⟩) | ((with_reducible refine (c2 _).mono ?_); rintro e w' ⟨rfl, rfl⟩))
  exact bodyPost_ret (v := .agg #[.int .i64 (a % 16777199), .int .i64 (b % 16777199)]) (by simp [results, Try.results70, go_sem]) rfl ⟨rfl, (Below.refl _ _).alloc (Nat.le_refl _) _⟩
set_option maxHeartbeats 400000 in
theorem start_calls (w : World) : Calls Try.prog 31 #[] w fun e w' => e = .returned (.agg #[.int .i64 1, .int .i64 2]) ∧ Below w.heap.size w w' := by
  have c1 := fun w => seal_calls 4607182418800017408 4611686018427387904 1 2 M.fi_one M.fi_two (by decide) (by decide) w
  rw [show (1 : Int) % 16777199 = 1 from rfl, show (2 : Int) % 16777199 = 2 from rfl] at c1
  go_enter Try.func31, Try.ntmps31
  go_wp2_with (((with_reducible refine (c1 _).mono ?_); rintro e w1 ⟨rfl, hb⟩; obtain ⟨hc, hf⟩ := bcell hb))
  exact bodyPost_ret (v := .agg #[.int .i64 1, .int .i64 2]) (by simp [results, Try.results31, go_sem, hc]) rfl ⟨rfl, ((((Below.refl _ _).alloc (Nat.le_refl _) _).trans (hb.mono (by simp))).setCell (Nat.le_refl _) _).setCell (Nat.le_refl _) _⟩
set_option maxHeartbeats 400000 in
theorem right_yes (a b : Int) (h : M.right a b = true) (w : World) : Calls Try.prog 30 #[.agg #[.int .i64 a, .int .i64 b]] w fun e w' => e = .returned (.bool true) ∧ Below w.heap.size w w' := by
  obtain ⟨h1, h2, h3, h4⟩ := M.right_iff.1 h
  clear h
  go_enter Try.func30, Try.ntmps30
  go_wp2
  go_ret
  exact ⟨rfl, (Below.refl _ _).alloc (Nat.le_refl _) _⟩
set_option maxHeartbeats 400000 in
theorem right_no (a b : Int) (h : M.right a b = false) (w : World) : Calls Try.prog 30 #[.agg #[.int .i64 a, .int .i64 b]] w fun e w' => e = .returned (.bool false) ∧ Below w.heap.size w w' := by
  have h5 : ¬ (0 ≤ a ∧ a < 16777199 ∧ 0 ≤ b ∧ b < 16777199) := by unfold M.right at h; exact of_decide_eq_false h
  clear h
  by_cases h1 : 0 ≤ a
  · by_cases h2 : a < 16777199
    · by_cases h3 : 0 ≤ b
      · have h4 : ¬ b < 16777199 := fun h => h5 ⟨h1, h2, h3, h⟩
        clear h5
        go_enter Try.func30, Try.ntmps30
        go_wp2
        go_ret
        exact ⟨rfl, (Below.refl _ _).alloc (Nat.le_refl _) _⟩
      · clear h5
        go_enter Try.func30, Try.ntmps30
        go_wp2
        go_ret
        exact ⟨rfl, (Below.refl _ _).alloc (Nat.le_refl _) _⟩
    · clear h5
      go_enter Try.func30, Try.ntmps30
      go_wp2
      go_ret
      exact ⟨rfl, (Below.refl _ _).alloc (Nat.le_refl _) _⟩
  · clear h5
    go_enter Try.func30, Try.ntmps30
    go_wp2
    go_ret
    exact ⟨rfl, (Below.refl _ _).alloc (Nat.le_refl _) _⟩
def CI (v : Value) (x : Int × Int) : Prop := ∃ p q, v = .complex .f64 p q ∧ M.FI p x.1 ∧ M.FI q x.2
theorem number_fi (x : Int × Int) (hx : M.right x.1 x.2 = true) : CI (.complex .f64 (M.fl x.1) (M.fl x.2)) x := by
  obtain ⟨a1, a2, a3, a4⟩ := M.right_iff.1 hx
  exact ⟨_, _, rfl, M.fl_int _ (by omega), M.fl_int _ (by omega)⟩
theorem fl_pair (a b : Int) : CI (.complex .f64 (M.fl (a % 16777199)) (M.fl (b % 16777199))) (a % 16777199, b % 16777199) := number_fi (a % 16777199, b % 16777199) (by rw [M.right_iff]; simp only; omega)
end Go.Proofs.Ytbiijcehgiibeaa.S

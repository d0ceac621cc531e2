/- A text that a program of this session wrote (wip/qprint.py, over the kit's printer): Lean functions with the same answers as Go functions of the program, and proofs that the calls come to these answers; where a function is named in wip/ext, its definition and proof were written by hand. · Proved here, in whole numbers: adding bytes to a seal is injective in the seal and in each byte; it is linear in the seal; joined seals are seals of joined bytes. No program in sight. · Proved here: what the small printed functions of reevelaw02 come to (the wake, Fold, Of), and seal.Add where its seal is right. · Proved here: 16777199 is a prime; the pairs modulo it are a field; each pair but zero to the power P P - 1 is 1. No program in sight. · Proved here: what the document's answers of layer 2 (Right, Mul, Raise, Times, Power, Join) come to. · Proved here: what chain.Next, chain.Check, links, long and the document's answers of layer 3 come to. · Proved here: the plain law of ChainChecks. · Proved here: an argument that is a slice of slices of bytes, or a slice of links, is a row that is read. -/
import Derived.Test.YtbiijcehgiibeaaKCChecksJFloat
import Derived.Test.YtbiijcehgiibeaaKCChecksQg9
import Derived.Test.YtbiijcehgiibeaaKCChecksQf57
import Derived.Test.YtbiijcehgiibeaaKCChecksQf58
import Derived.Test.YtbiijcehgiibeaaKCChecksQg3
import Derived.Test.YtbiijcehgiibeaaKCChecksQg8
import Derived.Test.YtbiijcehgiibeaaKCChecksQg7
import Derived.WalkKit
import Derived.ProofKit
import Derived.Deep.Matrix
import Derived.Deep.Strs
import Derived.Deep.Slices
import Derived.OpenShut
namespace Go.Proofs.Ytbiijcehgiibeaa.Q
open Go.RowKit Go.Proofs.YtbiijcehgiibeaaW.PrintWords Go.Proofs.YtbiijcehgiibeaaW.PrintLast Go.Proofs.YtbiijcehgiibeaaW.PrintMore
attribute [local go_sem] max2_int min2_int max_two min_two max_three min_three max_four min_four   -- for this text's walks alone
set_option linter.unusedVariables false
set_option linter.unusedSimpArgs false
def reevelaw03_ChainChecks.f (k : Nat) (l0 : List (List Int)) (l1 : List (S60)) : Option (Bool) := (reevelaw03_awake.f k).bind fun t789 => ((chain_Check.f k l0 l1).bind fun t790 => (if t789 = true then ((reeveref03_Check.f k l0 l1).bind fun t791 => (some (t790 == t791))) else (none)))
set_option maxHeartbeats 8000000 in
set_option maxRecDepth 100000 in
theorem reevelaw03_ChainChecks.calls (k : Nat) (A0 : Option Addr) (c0 : Nat) (l0 : List (List Int)) (A1 : Option Addr) (c1 : Nat) (l1 : List (S60)) (r : Bool) (w : World) (hr0 : Kd.C (Kd.slice 5 (Kd.int .u8)) w A0 l0.length l0) (hc0 : l0.length ≤ c0) (hr1 : Kd.C k60 w A1 l1.length l1) (hc1 : l1.length ≤ c1) (h : reevelaw03_ChainChecks.f k l0 l1 = some r) :
    Calls Try.prog 16 #[.slice A0 l0.length c0, .slice A1 l1.length c1] w fun e w' => e = .returned (.bool r) ∧ Below w.heap.size w w' := by
  have HR0 := Aside0.mk hr0
  have HC0 := Aside0.mk hc0
  clear hr0 hc0
  have HR1 := Aside0.mk hr1
  have HC1 := Aside0.mk hc1
  clear hr1 hc1
  have HB := Aside0.mk (Below.refl w.heap.size w)
  have H : ((reevelaw03_awake.f k).bind fun t789 => ((chain_Check.f k l0 l1).bind fun t790 => (if t789 = true then ((reeveref03_Check.f k l0 l1).bind fun t791 => (some (t790 == t791))) else (none)))) = some r := h
  clear h
  replace H := Option.bind_eq_some_iff.mp H
  obtain ⟨t789, A30, H⟩ := H
  replace H : ((chain_Check.f k l0 l1).bind fun t790 => (if t789 = true then ((reeveref03_Check.f k l0 l1).bind fun t791 => (some (t790 == t791))) else (none))) = some r := H
  have A3 := Aside0.mk A30
  clear A30
  replace H := Option.bind_eq_some_iff.mp H
  obtain ⟨t790, A40, H⟩ := H
  replace H : (if t789 = true then ((reeveref03_Check.f k l0 l1).bind fun t791 => (some (t790 == t791))) else (none)) = some r := H
  have A4 := Aside0.mk A40
  clear A40
  by_cases c5 : t789 = true
  · subst c5
    have H1 : ((reeveref03_Check.f k l0 l1).bind fun t791 => (some (t790 == t791))) = some r := by rw [if_pos rfl] at H; exact H
    clear H
    have H := H1
    clear H1
    replace H := Option.bind_eq_some_iff.mp H
    obtain ⟨t791, A60, H⟩ := H
    replace H : (some (t790 == t791)) = some r := H
    have A6 := Aside0.mk A60
    clear A60
    obtain rfl := Option.some.inj H
    go_enter Try.func16, Try.ntmps16
    go_wp2_with (first | ((with_reducible refine gate_callee (f := 50) rfl ?_); refine goesL_ (some 7) rfl rfl Try.func50 (by kernel_rfl) rfl #[] rfl (by (try simp only [List.map_toArray, List.map_cons, List.map_nil]); first | done | rfl | (simp only [List.length_drop, List.length_take]; rfl)) ?_; (with_reducible refine (reevelaw03_awake.calls k  true _ A3.out).mono ?_); rintro e w7 ⟨rfl, hb⟩; refine ⟨_, rfl, ?_⟩; have n0_ := Aside0.mk (below_step (by repeat (first | (with_reducible first | exact HB.out | apply below_alloc | apply pw_below_drewN | apply below_drew1) | exact HB.out)) hb); clear HB; have HB := n0_; clear n0_; (try clear hb); (try clear hb2); (try clear hk); (try clear hi)) | ((with_reducible refine gate_callee (f := 57) rfl ?_); refine goesL_ (some 10) rfl rfl Try.func57 (by kernel_rfl) rfl #[.slice A0 l0.length c0, .slice A1 l1.length c1] rfl (by (try simp only [List.map_toArray, List.map_cons, List.map_nil]); first | done | rfl | (simp only [List.length_drop, List.length_take]; rfl)) ?_; (with_reducible refine (chain_Check.calls k _ _ l0 _ _ l1 t790 _ ?side1 ?side2 ?side3 ?side4 A4.out).mono ?_); (case side1 => repeat (first | exact (Kd.C_below HR0.out HB.out) | (with_reducible refine Kd.C_alloc ?_ _) | (with_reducible refine Kd.C_drewN ?_ _) | (with_reducible refine Kd.C_drew ?_))); (case side2 => exact HC0.out); (case side3 => repeat (first | exact (Kd.C_below HR1.out HB.out) | (with_reducible refine Kd.C_alloc ?_ _) | (with_reducible refine Kd.C_drewN ?_ _) | (with_reducible refine Kd.C_drew ?_))); (case side4 => exact HC1.out); rintro e w8 ⟨rfl, hb⟩; refine ⟨_, rfl, ?_⟩; have n0_ := Aside0.mk (below_step (by repeat (first | (with_reducible first | exact HB.out | apply below_alloc | apply pw_below_drewN | apply below_drew1) | exact HB.out)) hb); clear HB; have HB := n0_; clear n0_; (try clear hb); (try clear hb2); (try clear hk); (try clear hi)) | (go_at_call 58; (with_reducible refine (reeveref03_Check.calls k _ _ l0 _ _ l1 t791 _ ?side1 ?side2 ?side3 ?side4 A6.out).mono ?_); (case side1 => repeat (first | exact (Kd.C_below HR0.out HB.out) | (with_reducible refine Kd.C_alloc ?_ _) | (with_reducible refine Kd.C_drewN ?_ _) | (with_reducible refine Kd.C_drew ?_))); (case side2 => exact HC0.out); (case side3 => repeat (first | exact (Kd.C_below HR1.out HB.out) | (with_reducible refine Kd.C_alloc ?_ _) | (with_reducible refine Kd.C_drewN ?_ _) | (with_reducible refine Kd.C_drew ?_))); (case side4 => exact HC1.out); rintro e w9 ⟨rfl, hb⟩; have n0_ := Aside0.mk (below_step (by repeat (first | (with_reducible first | exact HB.out | apply below_alloc | apply pw_below_drewN | apply below_drew1) | exact HB.out)) hb); clear HB; have HB := n0_; clear n0_; (try clear hb); (try clear hb2); (try clear hk); (try clear hi)))
    go_ret
    exact ⟨by first | rfl | (simp [errW_none, errW_some] <;> rfl) | (simp [*, errW_none, errW_some] <;> rfl), by repeat (first | (with_reducible first | exact HB.out | apply below_alloc | apply pw_below_drewN | apply below_drew1) | exact HB.out)⟩
  · replace c5 := Bool.eq_false_iff.mpr c5
    subst c5
    have H1 : (none) = some r := by rw [if_neg (show ¬ (false = true) by decide)] at H; exact H
    clear H
    have H := H1
    clear H1
    exact absurd H (by simp)
end Go.Proofs.Ytbiijcehgiibeaa.Q
namespace Go.Proofs.Ytbiijcehgiibeaa.M
def plus (x y : Int × Int) : Int × Int := ((x.1 + y.1) % 16777199, (x.2 + y.2) % 16777199)
end Go.Proofs.Ytbiijcehgiibeaa.M
namespace Go.Proofs.Ytbiijcehgiibeaa.Pure
open Go.RowKit Go.Proofs.Ytbiijcehgiibeaa.Q Go.Proofs.YtbiijcehgiibeaaW.PrintWords
theorem tmod_P (n : Int) : n.tmod 16777199 = if 0 ≤ n then n % 16777199 else -((-n) % 16777199) := by
  split
  · exact Int.tmod_eq_emod_of_nonneg ‹_›
  · have := Int.neg_tmod (a := -n) (b := 16777199)
    rw [Int.neg_neg] at this
    rw [this, Int.tmod_eq_emod_of_nonneg (by omega)]
theorem fold_mod (n : Int) : (if (n.tmod 16777199) < 0 then some (wrap64 ((n.tmod 16777199) + 16777199)) else some (n.tmod 16777199)) = some (n % 16777199) := by
  rw [tmod_P]
  by_cases h : 0 ≤ n
  · rw [if_pos h, if_neg (by omega)]
  · rw [if_neg h]
    by_cases h2 : -(-n % 16777199) < 0
    · rw [if_pos h2]
      have : wrap64 (-(-n % 16777199) + 16777199) = n % 16777199 := by unfold wrap64; omega
      rw [this]
    · rw [if_neg h2]
      congr 1
      omega
theorem bytes_of {l : List Int} (h : ∀ x ∈ l, (Lit.int .u8 x).wf = true) : M.bytes l = true := by
  unfold M.bytes
  rw [List.all_eq_true]
  intro x hx
  have := h x hx
  simp only [Lit.wf, Bool.and_eq_true, decide_eq_true_eq] at this
  have h1 : (0 : Int) ≤ x := this.1
  have h2 : x ≤ 255 := this.2
  exact decide_eq_true (by omega)
theorem add_ok {a b : Int} {l : List Int} (h : M.right a b = true) (hb : M.bytes l = true) (hl : (l.length : Int) ≤ 9223372036854775807) : seal_Add.f a b l = some ((M.add (a, b) l).1, (M.add (a, b) l).2, 0) := by
  unfold seal_Add.f
  rw [if_pos h, if_pos hb, if_pos hl]
end Go.Proofs.Ytbiijcehgiibeaa.Pure
namespace Go.Proofs.Ytbiijcehgiibeaa.M
def sum : Nat → (Nat → Int × Int) → Int × Int
  | 0, _ => (0, 0)
  | n + 1, f => plus (sum n f) (f n)
theorem zero_mul (x : Int × Int) : mul (0, 0) x = (0, 0) := by unfold mul; refine Prod.ext ?_ ?_ <;> simp only <;> omega
end Go.Proofs.Ytbiijcehgiibeaa.M
namespace Go.Proofs.Ytbiijcehgiibeaa.Pure
open Go.RowKit Go.Proofs.Ytbiijcehgiibeaa.Q Go.Proofs.YtbiijcehgiibeaaW.PrintWords
set_option linter.unusedVariables false
set_option linter.unusedSimpArgs false
theorem rright (a b : Int) : reeveref02_Right.f a b = some (M.right a b) := by
  unfold reeveref02_Right.f M.right
  by_cases h1 : 0 ≤ a
  · rw [if_pos h1]
    by_cases h2 : a < 16777199
    · rw [if_pos h2]
      by_cases h3 : 0 ≤ b
      · rw [if_pos h3]; congr 1; simp [h1, h2, h3]
      · rw [if_neg h3]; congr 1; simp [h3]
    · rw [if_neg h2]; congr 1; simp [h2]
  · rw [if_neg h1]; congr 1; simp [h1]
theorem rrest (n : Int) : reeveref02_rest.f n = some (n % 16777199) := fold_mod n
theorem small {a b : Int} (h1 : 0 ≤ a) (h2 : a < 16777199) (h3 : 0 ≤ b) (h4 : b < 16777199) : 0 ≤ a * b ∧ a * b ≤ 281474372731204 := by
  have := Int.mul_nonneg h1 h3
  have h5 : a * b ≤ 16777198 * 16777198 := Int.mul_le_mul (by omega) (by omega) h3 (by omega)
  omega
theorem w64 {n : Int} (h1 : -9223372036854775808 ≤ n) (h2 : n ≤ 9223372036854775807) : wrap64 n = n := by unfold wrap64; omega
theorem rmul {x y : Int × Int} (hx : M.right x.1 x.2 = true) (hy : M.right y.1 y.2 = true) : reeveref02_Mul.f x.1 x.2 y.1 y.2 = some (M.mul x y) := by
  obtain ⟨a1, a2, a3, a4⟩ := M.right_iff.1 hx
  obtain ⟨b1, b2, b3, b4⟩ := M.right_iff.1 hy
  have e1 := small a1 a2 b1 b2
  have e2 := small a3 a4 b3 b4
  have e3 := small a1 a2 b3 b4
  have e4 := small a3 a4 b1 b2
  unfold reeveref02_Mul.f M.mul
  rw [w64 (n := x.1 * y.1) (by omega) (by omega), w64 (n := x.2 * y.2) (by omega) (by omega), w64 (n := x.1 * y.2) (by omega) (by omega), w64 (n := x.2 * y.1) (by omega) (by omega), w64 (n := x.1 * y.1 - x.2 * y.2) (by omega) (by omega), w64 (n := x.1 * y.2 + x.2 * y.1) (by omega) (by omega), rrest, rrest]
  rfl
end Go.Proofs.Ytbiijcehgiibeaa.Pure
namespace Go.Proofs.Ytbiijcehgiibeaa.Pure
open Go.RowKit Go.Proofs.Ytbiijcehgiibeaa.Q Go.Proofs.YtbiijcehgiibeaaW.PrintWords
set_option linter.unusedVariables false
set_option linter.unusedSimpArgs false
theorem awake03 (k : Nat) : reevelaw03_awake.f (k + 10) = some true := by kernel_rfl
def may (x : S60) : Bool := decide (0 ≤ x.f0 ∧ x.f0 ≤ 10000 ∧ 0 ≤ x.f1 ∧ x.f1 ≤ 4194304) && M.right x.f2.f0 x.f2.f1
def next (x : S60) (b : List Int) : S60 × Int :=
  if may x = true then if (b.length : Int) > 4194304 then (z60, 2) else if x.f0 = 10000 then (z60, 3) else (⟨x.f0 + 1, b.length, ⟨(M.add (x.f2.f0, x.f2.f1) b).1, (M.add (x.f2.f0, x.f2.f1) b).2⟩⟩, 0) else (z60, 30)
theorem may_iff {x : S60} : may x = true ↔ (0 ≤ x.f0 ∧ x.f0 ≤ 10000 ∧ 0 ≤ x.f1 ∧ x.f1 ≤ 4194304) ∧ M.right x.f2.f0 x.f2.f1 = true := by
  unfold may
  rw [Bool.and_eq_true, decide_eq_true_iff]
theorem cmay (x : S60) : chain_may.f x.f0 x.f1 x.f2.f0 x.f2.f1 = some (may x) := by
  unfold chain_may.f may
  rw [show seal_Right.f x.f2.f0 x.f2.f1 = some (M.right x.f2.f0 x.f2.f1) from rright _ _]
  simp only [Option.bind_some]
  by_cases h1 : x.f0 ≥ 0
  · rw [if_pos h1]
    by_cases h2 : x.f0 ≤ 10000
    · rw [if_pos h2]
      by_cases h3 : x.f1 ≥ 0
      · rw [if_pos h3]
        by_cases h4 : x.f1 ≤ 4194304
        · rw [if_pos h4, decide_eq_true (show 0 ≤ x.f0 ∧ x.f0 ≤ 10000 ∧ 0 ≤ x.f1 ∧ x.f1 ≤ 4194304 by omega), Bool.true_and]
        · rw [if_neg h4, decide_eq_false (by omega), Bool.false_and]
      · rw [if_neg h3, decide_eq_false (by omega), Bool.false_and]
    · rw [if_neg h2, decide_eq_false (by omega), Bool.false_and]
  · rw [if_neg h1, decide_eq_false (by omega), Bool.false_and]
theorem rmay (x : S60) : reeveref03_May.f x.f0 x.f1 x.f2.f0 x.f2.f1 = some (may x) := by
  rw [← cmay]
  unfold reeveref03_May.f chain_may.f
  rw [rright, show seal_Right.f x.f2.f0 x.f2.f1 = some (M.right x.f2.f0 x.f2.f1) from rright _ _]
  simp only [Option.bind_some]
  cases M.right x.f2.f0 x.f2.f1 with
  | true =>
    rw [if_pos rfl]
    by_cases h4 : x.f1 ≤ 4194304
    · rw [if_pos h4, decide_eq_true h4]
    · rw [if_neg h4, decide_eq_false h4]
  | false =>
    rw [if_neg (by decide)]
    simp
theorem cnext (x : S60) {b : List Int} (hb : M.bytes b = true) (hl : (b.length : Int) ≤ 9223372036854775807) :
    chain_Next.f x.f0 x.f1 x.f2.f0 x.f2.f1 b = some ((next x b).1.f0, (next x b).1.f1, (next x b).1.f2.f0, (next x b).1.f2.f1, (next x b).2) := by
  unfold chain_Next.f next
  rw [cmay]
  simp only [Option.bind_some]
  by_cases h : may x = true
  · have h' := may_iff.1 h
    rw [if_pos h, if_pos h]
    by_cases h1 : (b.length : Int) > 4194304
    · rw [if_pos h1, if_pos h1]; rfl
    · rw [if_neg h1, if_neg h1]
      by_cases h2 : x.f0 = 10000
      · rw [if_pos h2, if_pos h2]; rfl
      · rw [if_neg h2, if_neg h2, add_ok h'.2 hb hl, w64 (n := x.f0 + 1) (by omega) (by omega)]
        rfl
  · rw [if_neg h, if_neg h]; rfl
theorem radd0 : ∀ (k : Nat) (l : List Int) (i : Nat) (z : Int × Int), M.bytes l = true → M.right z.1 z.2 = true → (l.length : Int) ≤ 9223372036854775807 → i ≤ l.length → l.length - i < k →
    reeveref02_Add.l0 k l (i : Int) z.1 z.2 69069 362437 = some ((M.add z (l.drop i)).1, (M.add z (l.drop i)).2, 0) := by
  intro k
  induction k with
  | zero => intro l i z _ _ _ _ h; omega
  | succ k ih =>
    intro l i z hb hz hm hi hk
    simp only [reeveref02_Add.l0]
    by_cases h : i < l.length
    · have ea : l.drop i = l.getD i 0 :: l.drop (i + 1) := by
        rw [List.getD_eq_getElem?_getD, List.getElem?_eq_getElem h, List.drop_eq_getElem_cons h]; rfl
      have ra : rd l (i : Int) = l.getD i 0 := by unfold rd; rw [Int.toNat_natCast]
      have hc := M.bytes_getD hb i
      have hmr := M.right_iff.1 (M.mul_right z (69069, 362437))
      rw [if_pos (by omega), rmul (x := z) (y := (69069, 362437)) hz (by decide)]
      simp only [Option.bind_some]
      rw [if_pos (by omega), ra, w64 (n := l.getD i 0) (by omega) (by omega), w64 (n := (M.mul z (69069, 362437)).1 + l.getD i 0) (by omega) (by omega), w64 (n := (M.mul z (69069, 362437)).1 + l.getD i 0 + 1) (by omega) (by omega), rrest]
      simp only [Option.bind_some]
      rw [w64 (n := (i : Int) + 1) (by omega) (by omega), show ((i : Int) + 1) = ((i + 1 : Nat) : Int) by omega]
      have es : (((M.mul z (69069, 362437)).1 + l.getD i 0 + 1) % 16777199, (M.mul z (69069, 362437)).2) = M.step z (l.getD i 0) := by
        unfold M.mul M.step
        simp only
        generalize z.1 * 69069 - z.2 * 362437 = A
        congr 1
        omega
      have := ih l (i + 1) (M.step z (l.getD i 0)) hb (M.step_right _ _) hm (by omega) (by omega)
      rw [← es] at this
      rw [this, es, ea]
      rfl
    · rw [if_neg (by omega), List.drop_of_length_le (by omega)]
      rfl
theorem radd {k : Nat} {z : Int × Int} {l : List Int} (hz : M.right z.1 z.2 = true) (hb : M.bytes l = true) (hm : (l.length : Int) ≤ 9223372036854775807) (hk : l.length < k) :
    reeveref02_Add.f k z.1 z.2 l = some ((M.add z l).1, (M.add z l).2, 0) := by
  unfold reeveref02_Add.f
  rw [rright, hz]
  have := radd0 k l 0 z hb hz hm (by omega) (by omega)
  simpa using this
theorem rnext (x : S60) {b : List Int} {k : Nat} (hb : M.bytes b = true) (hl : (b.length : Int) ≤ 9223372036854775807) (hk : b.length < k) :
    reeveref03_Next.f k x.f0 x.f1 x.f2.f0 x.f2.f1 b = some ((next x b).1.f0, (next x b).1.f1, (next x b).1.f2.f0, (next x b).1.f2.f1, (next x b).2) := by
  unfold reeveref03_Next.f next
  rw [rmay]
  simp only [Option.bind_some]
  by_cases h : may x = true
  · have h' := may_iff.1 h
    rw [if_pos h, if_pos h]
    by_cases h1 : (b.length : Int) > 4194304
    · rw [if_pos h1, if_pos h1]; rfl
    · rw [if_neg h1, if_neg h1]
      by_cases h2 : x.f0 = 10000
      · rw [if_pos h2, if_pos h2]; rfl
      · rw [if_neg h2, if_neg h2, radd (z := (x.f2.f0, x.f2.f1)) h'.2 hb hl hk, w64 (n := x.f0 + 1) (by omega) (by omega)]
        rfl
  · rw [if_neg h, if_neg h]; rfl
def eqv (x y : S60) : Bool := (x.f0 == y.f0) && ((x.f1 == y.f1) && ((x.f2.f0 == y.f2.f0) && (x.f2.f1 == y.f2.f1)))
theorem eqv_not (x y : S60) : (!(x.f0 == y.f0) || (!(x.f1 == y.f1) || ((!(x.f2.f0 == y.f2.f0) || (!(x.f2.f1 == y.f2.f1)))))) = !eqv x y := by
  unfold eqv
  simp only [Bool.not_and]
def good : S60 → List (List Int) → List S60 → Nat
  | _, [], _ => 0
  | _, _ :: _, [] => 0
  | x, b :: ps, l :: ls => if (next x b).2 = 0 ∧ eqv (next x b).1 l = true then 1 + good (next x b).1 ps ls else 0
theorem good_nil (x : S60) (ps : List (List Int)) : good x ps [] = 0 := by cases ps <;> rfl
def tell (ps : List (List Int)) (ls : List S60) (g : Nat) : Int := if g = ps.length ∧ ls.length ≤ ps.length then -1 else (g : Int)
def first : S60 := ⟨0, 0, ⟨1, 2⟩⟩
def check (ps : List (List Int)) (ls : List S60) : Int := tell ps ls (good first ps ls)
def rows (ps : List (List Int)) : Prop := ps.length ≤ 9223372036854775807 ∧ ∀ x ∈ ps, x.length ≤ 9223372036854775807 ∧ M.bytes x = true
theorem rows_of {ps : List (List Int)} (h : ps.length ≤ 9223372036854775807 ∧ ∀ x ∈ ps, x.length ≤ 9223372036854775807 ∧ ∀ y ∈ x, (Lit.int .u8 y).wf = true) : rows ps :=
  ⟨h.1, fun x hx => ⟨(h.2 x hx).1, bytes_of (h.2 x hx).2⟩⟩
theorem ccheck0 {ps : List (List Int)} {ls : List S60} (hr : rows ps) : ∀ (k i : Nat) (x : S60), i ≤ ps.length → ps.length - i < k →
    chain_Check.l0 k ps ls (i : Int) ps (ps.length : Int) (i : Int) x.f0 x.f1 x.f2.f0 x.f2.f1 = some (tell ps ls (i + good x (ps.drop i) (ls.drop i))) := by
  intro k
  have hm := hr.1
  induction k with
  | zero => intro i x _ h; omega
  | succ k ih =>
    intro i x hi hk
    simp only [chain_Check.l0]
    have tail : ∀ g : Nat, (if (g : Int) = (ps.length : Int) then (if (ls.length : Int) ≤ (ps.length : Int) then some (-1) else some (g : Int)) else some (g : Int)) = some (tell ps ls g) := by
      intro g
      unfold tell
      by_cases h1 : g = ps.length
      · rw [if_pos (by omega)]
        by_cases h2 : ls.length ≤ ps.length
        · rw [if_pos (by omega), if_pos ⟨h1, h2⟩]
        · rw [if_neg (by omega), if_neg (fun e => h2 e.2)]
      · rw [if_neg (by omega), if_neg (fun e => h1 e.1)]
    by_cases h : i < ps.length
    · have ep : ps.drop i = ps.getD i [] :: ps.drop (i + 1) := by
        rw [List.getD_eq_getElem?_getD, List.getElem?_eq_getElem h, List.drop_eq_getElem_cons h]; rfl
      have hmem : ps.getD i [] ∈ ps := by
        rw [List.getD_eq_getElem?_getD, List.getElem?_eq_getElem h]; exact List.getElem_mem h
      have er : rd_L2 ps (i : Int) = ps.getD i [] := by unfold rd_L2; rw [Int.toNat_natCast]
      rw [if_pos (by omega), if_pos (by omega), if_pos (by omega), er, cnext x (hr.2 _ hmem).2 (by have := (hr.2 _ hmem).1; omega)]
      simp only [Option.bind_some]
      rw [ep]
      by_cases h2 : i < ls.length
      · have el : ls.drop i = ls.getD i z60 :: ls.drop (i + 1) := by
          rw [List.getD_eq_getElem?_getD, List.getElem?_eq_getElem h2, List.drop_eq_getElem_cons h2]; rfl
        have et : rd_T60 ls (i : Int) = ls.getD i z60 := by unfold rd_T60; rw [Int.toNat_natCast]
        rw [if_neg (by omega), el, et]
        generalize ls.getD i z60 = l
        have eg : ∀ r s, good x (ps.getD i [] :: r) (l :: s) = if (next x (ps.getD i [])).2 = 0 ∧ eqv (next x (ps.getD i [])).1 l = true then 1 + good (next x (ps.getD i [])).1 r s else 0 := fun _ _ => rfl
        rw [eg]
        generalize next x (ps.getD i []) = y
        rw [eqv_not]
        by_cases h3 : y.2 = 0
        · rw [if_pos h3, if_pos (by omega), if_pos (by omega)]
          by_cases h4 : eqv y.1 l = true
          · rw [h4, if_neg (by decide), if_pos ⟨h3, rfl⟩, w64 (n := (i : Int) + 1) (by omega) (by omega), show ((i : Int) + 1) = ((i + 1 : Nat) : Int) by omega, ih (i + 1) y.1 (by omega) (by omega), Nat.add_assoc]
          · rw [if_pos (by simp [h4]), if_neg (c := y.2 = 0 ∧ eqv y.1 l = true) (fun e => h4 e.2)]
            exact tail i
        · rw [if_neg h3, if_neg (c := y.2 = 0 ∧ eqv y.1 l = true) (fun e => h3 e.1)]
          exact tail i
      · rw [if_pos (by omega), List.drop_of_length_le (l := ls) (by omega), good_nil, Nat.add_zero]
        exact tail i
    · rw [if_neg (by omega), List.drop_of_length_le (by omega)]
      exact tail i
theorem ccheck {ps : List (List Int)} {ls : List S60} (hr : rows ps) {k : Nat} (hk : ps.length < k) : chain_Check.f k ps ls = some (check ps ls) := by
  unfold chain_Check.f
  rw [show chain_First.f = some (first.f0, first.f1, first.f2.f0, first.f2.f1) from rfl]
  simp only [Option.bind_some]
  have := ccheck0 (ls := ls) hr k 0 first (by omega) (by omega)
  simpa [check] using this
theorem rcheck0 {ps : List (List Int)} {ls : List S60} {m : Nat} (hr : rows ps) (hm : ∀ x ∈ ps, x.length ≤ m) : ∀ (k i : Nat) (x : S60), i ≤ ps.length → ps.length - i + m < k →
    reeveref03_Check.l0 k ps ls (i : Int) x.f0 x.f1 x.f2.f0 x.f2.f1 = some (tell ps ls (i + good x (ps.drop i) (ls.drop i))) := by
  intro k
  have hm0 := hr.1
  induction k with
  | zero => intro i x _ h; omega
  | succ k ih =>
    intro i x hi hk
    simp only [reeveref03_Check.l0]
    by_cases h : i < ps.length
    · have tail : some (i : Int) = some (tell ps ls i) := by
        unfold tell
        rw [if_neg (fun e => by omega)]
      have ep : ps.drop i = ps.getD i [] :: ps.drop (i + 1) := by
        rw [List.getD_eq_getElem?_getD, List.getElem?_eq_getElem h, List.drop_eq_getElem_cons h]; rfl
      have hmem : ps.getD i [] ∈ ps := by
        rw [List.getD_eq_getElem?_getD, List.getElem?_eq_getElem h]; exact List.getElem_mem h
      have er : rd_L2 ps (i : Int) = ps.getD i [] := by unfold rd_L2; rw [Int.toNat_natCast]
      rw [if_pos (by omega), if_pos (by omega), er, rnext x (hr.2 _ hmem).2 (by have := (hr.2 _ hmem).1; omega) (by have := hm _ hmem; omega)]
      simp only [Option.bind_some]
      rw [ep]
      by_cases h2 : i < ls.length
      · have el : ls.drop i = ls.getD i z60 :: ls.drop (i + 1) := by
          rw [List.getD_eq_getElem?_getD, List.getElem?_eq_getElem h2, List.drop_eq_getElem_cons h2]; rfl
        have et : rd_T60 ls (i : Int) = ls.getD i z60 := by unfold rd_T60; rw [Int.toNat_natCast]
        rw [if_neg (by omega), el, et]
        generalize ls.getD i z60 = l
        have eg : ∀ r s, good x (ps.getD i [] :: r) (l :: s) = if (next x (ps.getD i [])).2 = 0 ∧ eqv (next x (ps.getD i [])).1 l = true then 1 + good (next x (ps.getD i [])).1 r s else 0 := fun _ _ => rfl
        rw [eg]
        generalize next x (ps.getD i []) = y
        rw [eqv_not]
        by_cases h3 : y.2 = 0
        · rw [if_pos h3, if_pos (by omega)]
          by_cases h4 : eqv y.1 l = true
          · rw [h4, if_neg (by decide), if_pos ⟨h3, rfl⟩, w64 (n := (i : Int) + 1) (by omega) (by omega), show ((i : Int) + 1) = ((i + 1 : Nat) : Int) by omega, ih (i + 1) y.1 (by omega) (by omega), Nat.add_assoc]
          · rw [if_pos (by simp [h4]), if_neg (c := y.2 = 0 ∧ eqv y.1 l = true) (fun e => h4 e.2)]
            exact tail
        · rw [if_neg h3, if_neg (c := y.2 = 0 ∧ eqv y.1 l = true) (fun e => h3 e.1)]
          exact tail
      · rw [if_pos (by omega), List.drop_of_length_le (l := ls) (by omega), good_nil, Nat.add_zero]
        exact tail
    · rw [if_neg (by omega), List.drop_of_length_le (l := ps) (by omega)]
      have hi' : i = ps.length := by omega
      subst hi'
      show _ = some (tell ps ls ps.length)
      unfold tell
      by_cases h2 : ls.length ≤ ps.length
      · rw [if_neg (by omega), if_pos ⟨rfl, h2⟩]
      · rw [if_pos (by omega), if_neg (fun e => h2 e.2)]
theorem rcheck {ps : List (List Int)} {ls : List S60} {m : Nat} (hr : rows ps) (hm : ∀ x ∈ ps, x.length ≤ m) {k : Nat} (hk : ps.length + m < k) : reeveref03_Check.f k ps ls = some (check ps ls) := by
  unfold reeveref03_Check.f
  rw [show reeveref03_First.f = some (first.f0, first.f1, first.f2.f0, first.f2.f1) from rfl]
  simp only [Option.bind_some]
  have := rcheck0 (ls := ls) hr hm k 0 first (by omega) (by omega)
  simpa [check] using this
theorem exists_max : ∀ (ps : List (List Int)), ∃ m, ∀ x ∈ ps, x.length ≤ m
  | [] => ⟨0, fun x hx => absurd hx (by simp)⟩
  | p :: ps => by
    obtain ⟨m, hm⟩ := exists_max ps
    refine ⟨max p.length m, fun x hx => ?_⟩
    rcases List.mem_cons.1 hx with rfl | hx
    · omega
    · have := hm x hx; omega
def mk : S60 → List (List Int) → Option (List S60)
  | _, [] => some []
  | x, b :: ps => if (next x b).2 = 0 then (mk (next x b).1 ps).map ((next x b).1 :: ·) else none
end Go.Proofs.Ytbiijcehgiibeaa.Pure
namespace Go.Proofs.Ytbiijcehgiibeaa.Pure
open Go.RowKit Go.Proofs.Ytbiijcehgiibeaa.Q Go.Proofs.YtbiijcehgiibeaaW.PrintWords
theorem ChainChecks (ps : List (List Int)) (ls : List S60) (h : ps.length ≤ 9223372036854775807 ∧ ∀ x ∈ ps, x.length ≤ 9223372036854775807 ∧ ∀ y ∈ x, (Lit.int .u8 y).wf = true) (_ : ls.length ≤ 9223372036854775807) :
    ∃ k, reevelaw03_ChainChecks.f k ps ls = some true := by
  obtain ⟨m, hm⟩ := exists_max ps
  refine ⟨ps.length + m + 10, ?_⟩
  unfold reevelaw03_ChainChecks.f
  rw [awake03, ccheck (rows_of h) (by omega), rcheck (rows_of h) hm (by omega)]
  simp
end Go.Proofs.Ytbiijcehgiibeaa.Pure
namespace Go.Proofs.Ytbiijcehgiibeaa.O
open Go.ChangeShapes Go.WideShapes Go.ChangeAt Go.RowKit Go.Deep Go.Proofs.YtbiijcehgiibeaaW.PrintWords Go.Proofs.Ytbiijcehgiibeaa.Q
set_option linter.unusedVariables false
theorem rows_read {H : Type} {enc : TypeId × Value → H} {P : Program} {W : World} {held : Bool} {t e q : TypeId} {a : Option Addr} {len cap : Nat} {d : DataW H} {ps : List MemPlace} {ts : List TypeId} {ds : List (DataW H)} {j : Nat}
    (hsz : (DataW.weightsEach P ts ds).all (· ≤ reachBytes) = true) (ht : ts[j]? = some t) (hd : ds[j]? = some d) (hu : P.underlying t = some (.slice e)) (he : P.underlying e = some (.slice q)) (hq : P.underlying q = some (.int .u8))
    (ce : P.cellsOf e = 1) (cq : P.cellsOf q = 1) (be : P.bytesOf e = 24) (bq : P.bytesOf q = 1)
    (h : DataW.Trod enc P W 0 (fun _ => true) held t (.slice a len cap) d ps) :
    ∃ l : List (List Int), len = l.length ∧ Kd.C (Kd.slice 5 (Kd.int .u8)) W a l.length l ∧ l.length ≤ cap ∧ (l.length ≤ 9223372036854775807 ∧ ∀ x ∈ l, x.length ≤ 9223372036854775807 ∧ ∀ y ∈ x, (Lit.int .u8 y).wf = true) := by
  obtain ⟨fuel, hf⟩ := h
  rcases open_int_rows hu he hq ce cq hf with ⟨hcs, _⟩ | ⟨ad, n, c, A, L, C, Z, hcs, _, hl, hm, hx, hr⟩
  · simp [Value.cells] at hcs
    obtain ⟨rfl, rfl, rfl⟩ := hcs
    exact ⟨[], rfl, ⟨rfl, by decide, fun h => absurd h (by decide)⟩, Nat.le_refl _, by decide, fun x hx => absurd hx (by simp)⟩
  · simp [Value.cells] at hcs
    obtain ⟨rfl, rfl, rfl⟩ := hcs
    have hm' : cap ≤ 9223372036854775807 := hm
    refine ⟨(List.range len).map fun r => (Z r).take (L r), by simp, ?_, by simpa using hl, by simp; omega, ?_⟩
    · refine ⟨rfl, by simp; omega, fun _ => ⟨ad, rfl, fun j p hj => ?_⟩⟩
      rw [List.getElem?_map] at hj
      by_cases hjl : j < len
      · rw [List.getElem?_range hjl] at hj
        simp only [Option.map_some] at hj
        injection hj with hj
        subst hj
        obtain ⟨h1, h2, h3, h4, h5, h6, h7⟩ := hr j (by omega)
        have hlen : ((Z j).take (L j)).length = L j := by rw [List.length_take]; omega
        have h3' : C j ≤ 9223372036854775807 := h3
        refine ⟨[.slice (A j) (L j) (C j)], rfl, ⟨A j, C j, by rw [hlen], by omega, ?_⟩, fun i u hi => ?_⟩
        · rw [hlen]
          refine ⟨hlen, by omega, fun hp => ?_⟩
          cases hA : A j with
          | none => exact absurd (h6 hA) (by omega)
          | some a' =>
            refine ⟨a', rfl, fun i p hi => ⟨[.int .u8 p], rfl, rfl, fun i' u hu => ?_⟩⟩
            cases i' with
            | succ i' => simp at hu
            | zero =>
              have hu' : Value.int .u8 p = u := by simpa using hu
              subst hu'
              have hiL : i < L j := by
                have := (List.getElem?_eq_some_iff.1 hi).1
                omega
              have h8 := (h7 a' hA).2 i (by omega)
              rw [List.getElem?_take_of_lt hiL] at hi
              rw [List.getD_eq_getElem?_getD, hi] at h8
              simpa [Kd.int, Kd.scalar] using h8
        · cases i with
          | succ i => simp at hi
          | zero =>
            have hi' : Value.slice (A j) (L j) (C j) = u := by simpa using hi
            subst hi'
            simpa [Kd.slice] using h1
      · rw [List.getElem?_eq_none (by simpa using hjl)] at hj
        simp at hj
    · intro x hx2
      obtain ⟨r, hr1, rfl⟩ := List.mem_map.1 hx2
      have hrl : r < len := by simpa using hr1
      obtain ⟨h1, h2, h3, h4, h5, h6, h7⟩ := hr r (by omega)
      have h3' : C r ≤ 9223372036854775807 := h3
      exact ⟨by rw [List.length_take]; omega, fun y hy => h5 y (List.mem_of_mem_take hy)⟩
theorem add_add (a : Addr) (n m : Nat) : (a.add n).add m = a.add (n + m) := by
  unfold Addr.add
  by_cases h : n = 0
  · subst h; simp
  · by_cases h2 : m = 0
    · subst h2; simp [h]
    · rw [if_neg h2, if_neg h, if_neg (show ¬ n + m = 0 by omega), Nat.add_assoc]
theorem four {α : Type} {l : List α} (h : l.length = 4) : ∃ a b c d, l = [a, b, c, d] := by
  match l, h with
  | [a, b, c, d], _ => exact ⟨a, b, c, d, rfl⟩
set_option maxRecDepth 100000 in
theorem links_read {H : Type} {enc : TypeId × Value → H} {W : World} {held : Bool} {a : Option Addr} {len cap : Nat} {d : DataW H} {ps : List MemPlace} {ts : List TypeId} {ds : List (DataW H)} {j : Nat}
    (hsz : (DataW.weightsEach Try.prog ts ds).all (· ≤ reachBytes) = true) (ht : ts[j]? = some 66) (hd : ds[j]? = some d)
    (h : DataW.Trod enc Try.prog W 0 (fun _ => true) held 66 (.slice a len cap) d ps) :
    ∃ l : List S60, len = l.length ∧ Kd.C k60 W a l.length l ∧ l.length ≤ cap ∧ l.length ≤ 9223372036854775807 := by
  obtain ⟨fuel, hf⟩ := h
  have c60 : Try.prog.cellsOf 60 = 4 := by kernel_rfl
  have c23 : Try.prog.cellsOf 23 = 2 := by kernel_rfl
  have c3 : Try.prog.cellsOf 3 = 1 := by kernel_rfl
  rcases open_slice Try.underlying66 hf with ⟨hcs, _⟩ | ⟨ad, n, c, m, f2, D, Pl, hcs, _, hl, hm, hmm, hx, hr⟩
  · simp [Value.cells] at hcs
    obtain ⟨rfl, rfl, rfl⟩ := hcs
    exact ⟨[], rfl, ⟨rfl, by decide, fun h => absurd h (by decide)⟩, Nat.le_refl _, by decide⟩
  · simp [Value.cells] at hcs
    obtain ⟨rfl, rfl, rfl⟩ := hcs
    have hm' : cap ≤ 9223372036854775807 := hm
    rw [if_pos rfl] at hmm
    subst hmm
    have each : ∀ i, i < m → ∃ x : S60, ∀ k u, [Value.int .i64 x.f0, .int .i64 x.f1, .int .i64 x.f2.f0, .int .i64 x.f2.f1][k]? = some u → W.cell? (ad.add (i * 4 + k)) = some u := by
      intro i hi
      obtain ⟨cs', h1, h2⟩ := hr i hi
      rw [c60] at h1
      obtain ⟨_, hlen, hcell⟩ := World.cells?_some h1
      obtain ⟨y0, y1, y2, n', _, _, t0, t1, t2⟩ := trod_struct3 Try.underlying60 h2
      obtain ⟨z0, z1, n'', _, _, s0, s1⟩ := trod_struct2 Try.underlying23 t2
      obtain ⟨v0, e0, _, _⟩ := DataW.trod_int Try.underlying3 t0
      obtain ⟨v1, e1, _, _⟩ := DataW.trod_int Try.underlying3 t1
      obtain ⟨v2, e2, _, _⟩ := DataW.trod_int Try.underlying3 s0
      obtain ⟨v3, e3, _, _⟩ := DataW.trod_int Try.underlying3 s1
      simp only [c3, c23] at e0 e1 e2 e3
      refine ⟨⟨v0, v1, ⟨v2, v3⟩⟩, fun k u hk => ?_⟩
      obtain ⟨b0, b1, b2, b3, rfl⟩ := four hlen
      obtain rfl : b0 = .int .i64 v0 := (List.cons.inj e0).1
      obtain rfl : b1 = .int .i64 v1 := (List.cons.inj e1).1
      obtain rfl : b2 = .int .i64 v2 := (List.cons.inj e2).1
      obtain rfl : b3 = .int .i64 v3 := (List.cons.inj e3).1
      have hk4 : k < 4 := by have := (List.getElem?_eq_some_iff.1 hk).1; simpa using this
      have ea : (ad.add (i * 4)).add k = ad.add (i * 4 + k) := by
        exact add_add _ _ _
      rw [← ea, hcell k hk4]
      exact hk
    have : Inhabited S60 := ⟨z60⟩
    obtain ⟨X, hX⟩ := choose_lt each
    refine ⟨(List.range len).map X, by simp, ?_, by simpa using hl, by simp; omega⟩
    refine ⟨rfl, by simp; omega, fun _ => ⟨ad, rfl, fun j p hj => ?_⟩⟩
    rw [List.getElem?_map] at hj
    by_cases hjl : j < len
    · rw [List.getElem?_range hjl] at hj
      simp only [Option.map_some] at hj
      injection hj with hj
      subst hj
      exact ⟨_, rfl, k60_mk W (X j), fun i u hu => hX j (by omega) i u hu⟩
    · rw [List.getElem?_eq_none (by simpa using hjl)] at hj
      simp at hj
end Go.Proofs.Ytbiijcehgiibeaa.O

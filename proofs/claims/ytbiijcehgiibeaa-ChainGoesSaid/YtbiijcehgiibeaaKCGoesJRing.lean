/- Proved here, in whole numbers: adding bytes to a seal is injective in the seal and in each byte; it is linear in the seal; joined seals are seals of joined bytes. No program in sight. · Proved here: what the small printed functions of reevelaw02 come to (the wake, Fold, Of), and seal.Add where its seal is right. · Proved here: 16777199 is a prime; the pairs modulo it are a field; each pair but zero to the power P P - 1 is 1. No program in sight. · Proved here: what seal.Read, seal.Bytes and Same come to. · Proved here: what the document's answers of layer 2 (Right, Mul, Raise, Times, Power, Join) come to. · Proved here: what chain.Next, chain.Check, links, long and the document's answers of layer 3 come to. · Proved here: what Lent and Kept come to. · Proved here: the plain law of ChainGoes. · Proved here: an argument that is a struct of whole numbers is an aggregate of whole numbers that fit. No program in sight. -/
import Derived.Test.YtbiijcehgiibeaaKCGoesJFloat
import Derived.Test.YtbiijcehgiibeaaKCGoesQg3
import Derived.Test.YtbiijcehgiibeaaKCGoesQg7
import Derived.Test.YtbiijcehgiibeaaKCGoesQg8
import Derived.Test.YtbiijcehgiibeaaKCGoesQg9
import Derived.Test.YtbiijcehgiibeaaKCGoesQf14
import Derived.WalkKit
import Derived.ProofKit
import Derived.OpenShut
namespace Go.Proofs.Ytbiijcehgiibeaa.M
def plus (x y : Int × Int) : Int × Int := ((x.1 + y.1) % 16777199, (x.2 + y.2) % 16777199)
end Go.Proofs.Ytbiijcehgiibeaa.M
namespace Go.Proofs.Ytbiijcehgiibeaa.Pure
open Go.RowKit Go.Proofs.Ytbiijcehgiibeaa.Q Go.Proofs.YtbiijcehgiibeaaW.PrintWords
theorem tmod_P (n : Int) : n.tmod 16777199 = if 0 ≤ n then n % 16777199 else -((-n) % 16777199) := by
  split
  · exact Int.tmod_eq_emod_of_nonneg ‹_›
  · have := Int.neg_tmod (a := -n) (b := 16777199)
    rw [Int.neg_neg] at this
    rw [this, Int.tmod_eq_emod_of_nonneg (by omega)]
theorem fold_mod (n : Int) : (if (n.tmod 16777199) < 0 then some (wrap64 ((n.tmod 16777199) + 16777199)) else some (n.tmod 16777199)) = some (n % 16777199) := by
  rw [tmod_P]
  by_cases h : 0 ≤ n
  · rw [if_pos h, if_neg (by omega)]
  · rw [if_neg h]
    by_cases h2 : -(-n % 16777199) < 0
    · rw [if_pos h2]
      have : wrap64 (-(-n % 16777199) + 16777199) = n % 16777199 := by unfold wrap64; omega
      rw [this]
    · rw [if_neg h2]
      congr 1
      omega
theorem bytes_of {l : List Int} (h : ∀ x ∈ l, (Lit.int .u8 x).wf = true) : M.bytes l = true := by
  unfold M.bytes
  rw [List.all_eq_true]
  intro x hx
  have := h x hx
  simp only [Lit.wf, Bool.and_eq_true, decide_eq_true_eq] at this
  have h1 : (0 : Int) ≤ x := this.1
  have h2 : x ≤ 255 := this.2
  exact decide_eq_true (by omega)
theorem add_ok {a b : Int} {l : List Int} (h : M.right a b = true) (hb : M.bytes l = true) (hl : (l.length : Int) ≤ 9223372036854775807) : seal_Add.f a b l = some ((M.add (a, b) l).1, (M.add (a, b) l).2, 0) := by
  unfold seal_Add.f
  rw [if_pos h, if_pos hb, if_pos hl]
end Go.Proofs.Ytbiijcehgiibeaa.Pure
namespace Go.Proofs.Ytbiijcehgiibeaa.M
def sum : Nat → (Nat → Int × Int) → Int × Int
  | 0, _ => (0, 0)
  | n + 1, f => plus (sum n f) (f n)
theorem zero_mul (x : Int × Int) : mul (0, 0) x = (0, 0) := by unfold mul; refine Prod.ext ?_ ?_ <;> simp only <;> omega
end Go.Proofs.Ytbiijcehgiibeaa.M
namespace Go.Proofs.Ytbiijcehgiibeaa.Pure
open Go.RowKit Go.Proofs.Ytbiijcehgiibeaa.Q Go.Proofs.YtbiijcehgiibeaaW.PrintWords
set_option linter.unusedVariables false
set_option linter.unusedSimpArgs false
theorem w64b {n : Int} (h1 : -9223372036854775808 ≤ n) (h2 : n ≤ 9223372036854775807) : wrap64 n = n := by unfold wrap64; omega
theorem same0 : ∀ (k : Nat) (a b : List Int) (i : Nat), a.length = b.length → (a.length : Int) ≤ 9223372036854775806 → i ≤ a.length → a.length - i < k → reevelaw02_Same.l0 k a b (i : Int) = some (decide (a.drop i = b.drop i)) := by
  intro k
  induction k with
  | zero => intro a b i _ _ _ h; omega
  | succ k ih =>
    intro a b i hab hm hi hk
    simp only [reevelaw02_Same.l0]
    by_cases h : i < a.length
    · rw [if_pos (by omega), if_pos (by omega), if_pos (by omega)]
      have ea : a.drop i = a.getD i 0 :: a.drop (i + 1) := by
        rw [List.getD_eq_getElem?_getD, List.getElem?_eq_getElem h, List.drop_eq_getElem_cons h]; rfl
      have eb : b.drop i = b.getD i 0 :: b.drop (i + 1) := by
        rw [List.getD_eq_getElem?_getD, List.getElem?_eq_getElem (by omega), List.drop_eq_getElem_cons (by omega)]; rfl
      have ra : rd a (i : Int) = a.getD i 0 := by unfold rd; rw [Int.toNat_natCast]
      have rb : rd b (i : Int) = b.getD i 0 := by unfold rd; rw [Int.toNat_natCast]
      rw [ra, rb]
      by_cases c : a.getD i 0 = b.getD i 0
      · rw [if_pos c, w64b (n := (i : Int) + 1) (by omega) (by omega), show ((i : Int) + 1) = ((i + 1 : Nat) : Int) by omega, ih a b (i + 1) hab hm (by omega) (by omega)]
        congr 1
        rw [ea, eb, c]
        simp
      · rw [if_neg c]
        congr 1
        symm
        rw [decide_eq_false_iff_not, ea, eb]
        intro e
        exact c (List.cons.inj e).1
    · rw [if_neg (by omega), List.drop_of_length_le (by omega), List.drop_of_length_le (by omega)]
      simp
theorem same_ok {a b : List Int} {k : Nat} (hm : (a.length : Int) ≤ 9223372036854775806) (hk : a.length < k) : reevelaw02_Same.f k a b = some (decide (a = b)) := by
  unfold reevelaw02_Same.f
  by_cases h : a.length = b.length
  · rw [if_pos (by omega)]
    have := same0 k a b 0 h hm (by omega) (by omega)
    simpa using this
  · rw [if_neg (by omega)]
    congr 1
    have : a ≠ b := fun e => h (by rw [e])
    simp [this]
end Go.Proofs.Ytbiijcehgiibeaa.Pure
namespace Go.Proofs.Ytbiijcehgiibeaa.Pure
open Go.RowKit Go.Proofs.Ytbiijcehgiibeaa.Q Go.Proofs.YtbiijcehgiibeaaW.PrintWords
set_option linter.unusedVariables false
set_option linter.unusedSimpArgs false
theorem rright (a b : Int) : reeveref02_Right.f a b = some (M.right a b) := by
  unfold reeveref02_Right.f M.right
  by_cases h1 : 0 ≤ a
  · rw [if_pos h1]
    by_cases h2 : a < 16777199
    · rw [if_pos h2]
      by_cases h3 : 0 ≤ b
      · rw [if_pos h3]; congr 1; simp [h1, h2, h3]
      · rw [if_neg h3]; congr 1; simp [h3]
    · rw [if_neg h2]; congr 1; simp [h2]
  · rw [if_neg h1]; congr 1; simp [h1]
theorem rrest (n : Int) : reeveref02_rest.f n = some (n % 16777199) := fold_mod n
theorem small {a b : Int} (h1 : 0 ≤ a) (h2 : a < 16777199) (h3 : 0 ≤ b) (h4 : b < 16777199) : 0 ≤ a * b ∧ a * b ≤ 281474372731204 := by
  have := Int.mul_nonneg h1 h3
  have h5 : a * b ≤ 16777198 * 16777198 := Int.mul_le_mul (by omega) (by omega) h3 (by omega)
  omega
theorem w64 {n : Int} (h1 : -9223372036854775808 ≤ n) (h2 : n ≤ 9223372036854775807) : wrap64 n = n := by unfold wrap64; omega
theorem rmul {x y : Int × Int} (hx : M.right x.1 x.2 = true) (hy : M.right y.1 y.2 = true) : reeveref02_Mul.f x.1 x.2 y.1 y.2 = some (M.mul x y) := by
  obtain ⟨a1, a2, a3, a4⟩ := M.right_iff.1 hx
  obtain ⟨b1, b2, b3, b4⟩ := M.right_iff.1 hy
  have e1 := small a1 a2 b1 b2
  have e2 := small a3 a4 b3 b4
  have e3 := small a1 a2 b3 b4
  have e4 := small a3 a4 b1 b2
  unfold reeveref02_Mul.f M.mul
  rw [w64 (n := x.1 * y.1) (by omega) (by omega), w64 (n := x.2 * y.2) (by omega) (by omega), w64 (n := x.1 * y.2) (by omega) (by omega), w64 (n := x.2 * y.1) (by omega) (by omega), w64 (n := x.1 * y.1 - x.2 * y.2) (by omega) (by omega), w64 (n := x.1 * y.2 + x.2 * y.1) (by omega) (by omega), rrest, rrest]
  rfl
end Go.Proofs.Ytbiijcehgiibeaa.Pure
namespace Go.Proofs.Ytbiijcehgiibeaa.Pure
open Go.RowKit Go.Proofs.Ytbiijcehgiibeaa.Q Go.Proofs.YtbiijcehgiibeaaW.PrintWords
set_option linter.unusedVariables false
set_option linter.unusedSimpArgs false
theorem awake03 (k : Nat) : reevelaw03_awake.f (k + 10) = some true := by kernel_rfl
def may (x : S60) : Bool := decide (0 ≤ x.f0 ∧ x.f0 ≤ 10000 ∧ 0 ≤ x.f1 ∧ x.f1 ≤ 4194304) && M.right x.f2.f0 x.f2.f1
def next (x : S60) (b : List Int) : S60 × Int :=
  if may x = true then if (b.length : Int) > 4194304 then (z60, 2) else if x.f0 = 10000 then (z60, 3) else (⟨x.f0 + 1, b.length, ⟨(M.add (x.f2.f0, x.f2.f1) b).1, (M.add (x.f2.f0, x.f2.f1) b).2⟩⟩, 0) else (z60, 30)
theorem may_iff {x : S60} : may x = true ↔ (0 ≤ x.f0 ∧ x.f0 ≤ 10000 ∧ 0 ≤ x.f1 ∧ x.f1 ≤ 4194304) ∧ M.right x.f2.f0 x.f2.f1 = true := by
  unfold may
  rw [Bool.and_eq_true, decide_eq_true_iff]
theorem cmay (x : S60) : chain_may.f x.f0 x.f1 x.f2.f0 x.f2.f1 = some (may x) := by
  unfold chain_may.f may
  rw [show seal_Right.f x.f2.f0 x.f2.f1 = some (M.right x.f2.f0 x.f2.f1) from rright _ _]
  simp only [Option.bind_some]
  by_cases h1 : x.f0 ≥ 0
  · rw [if_pos h1]
    by_cases h2 : x.f0 ≤ 10000
    · rw [if_pos h2]
      by_cases h3 : x.f1 ≥ 0
      · rw [if_pos h3]
        by_cases h4 : x.f1 ≤ 4194304
        · rw [if_pos h4, decide_eq_true (show 0 ≤ x.f0 ∧ x.f0 ≤ 10000 ∧ 0 ≤ x.f1 ∧ x.f1 ≤ 4194304 by omega), Bool.true_and]
        · rw [if_neg h4, decide_eq_false (by omega), Bool.false_and]
      · rw [if_neg h3, decide_eq_false (by omega), Bool.false_and]
    · rw [if_neg h2, decide_eq_false (by omega), Bool.false_and]
  · rw [if_neg h1, decide_eq_false (by omega), Bool.false_and]
theorem rmay (x : S60) : reeveref03_May.f x.f0 x.f1 x.f2.f0 x.f2.f1 = some (may x) := by
  rw [← cmay]
  unfold reeveref03_May.f chain_may.f
  rw [rright, show seal_Right.f x.f2.f0 x.f2.f1 = some (M.right x.f2.f0 x.f2.f1) from rright _ _]
  simp only [Option.bind_some]
  cases M.right x.f2.f0 x.f2.f1 with
  | true =>
    rw [if_pos rfl]
    by_cases h4 : x.f1 ≤ 4194304
    · rw [if_pos h4, decide_eq_true h4]
    · rw [if_neg h4, decide_eq_false h4]
  | false =>
    rw [if_neg (by decide)]
    simp
theorem cnext (x : S60) {b : List Int} (hb : M.bytes b = true) (hl : (b.length : Int) ≤ 9223372036854775807) :
    chain_Next.f x.f0 x.f1 x.f2.f0 x.f2.f1 b = some ((next x b).1.f0, (next x b).1.f1, (next x b).1.f2.f0, (next x b).1.f2.f1, (next x b).2) := by
  unfold chain_Next.f next
  rw [cmay]
  simp only [Option.bind_some]
  by_cases h : may x = true
  · have h' := may_iff.1 h
    rw [if_pos h, if_pos h]
    by_cases h1 : (b.length : Int) > 4194304
    · rw [if_pos h1, if_pos h1]; rfl
    · rw [if_neg h1, if_neg h1]
      by_cases h2 : x.f0 = 10000
      · rw [if_pos h2, if_pos h2]; rfl
      · rw [if_neg h2, if_neg h2, add_ok h'.2 hb hl, w64 (n := x.f0 + 1) (by omega) (by omega)]
        rfl
  · rw [if_neg h, if_neg h]; rfl
theorem radd0 : ∀ (k : Nat) (l : List Int) (i : Nat) (z : Int × Int), M.bytes l = true → M.right z.1 z.2 = true → (l.length : Int) ≤ 9223372036854775807 → i ≤ l.length → l.length - i < k →
    reeveref02_Add.l0 k l (i : Int) z.1 z.2 69069 362437 = some ((M.add z (l.drop i)).1, (M.add z (l.drop i)).2, 0) := by
  intro k
  induction k with
  | zero => intro l i z _ _ _ _ h; omega
  | succ k ih =>
    intro l i z hb hz hm hi hk
    simp only [reeveref02_Add.l0]
    by_cases h : i < l.length
    · have ea : l.drop i = l.getD i 0 :: l.drop (i + 1) := by
        rw [List.getD_eq_getElem?_getD, List.getElem?_eq_getElem h, List.drop_eq_getElem_cons h]; rfl
      have ra : rd l (i : Int) = l.getD i 0 := by unfold rd; rw [Int.toNat_natCast]
      have hc := M.bytes_getD hb i
      have hmr := M.right_iff.1 (M.mul_right z (69069, 362437))
      rw [if_pos (by omega), rmul (x := z) (y := (69069, 362437)) hz (by decide)]
      simp only [Option.bind_some]
      rw [if_pos (by omega), ra, w64 (n := l.getD i 0) (by omega) (by omega), w64 (n := (M.mul z (69069, 362437)).1 + l.getD i 0) (by omega) (by omega), w64 (n := (M.mul z (69069, 362437)).1 + l.getD i 0 + 1) (by omega) (by omega), rrest]
      simp only [Option.bind_some]
      rw [w64 (n := (i : Int) + 1) (by omega) (by omega), show ((i : Int) + 1) = ((i + 1 : Nat) : Int) by omega]
      have es : (((M.mul z (69069, 362437)).1 + l.getD i 0 + 1) % 16777199, (M.mul z (69069, 362437)).2) = M.step z (l.getD i 0) := by
        unfold M.mul M.step
        simp only
        generalize z.1 * 69069 - z.2 * 362437 = A
        congr 1
        omega
      have := ih l (i + 1) (M.step z (l.getD i 0)) hb (M.step_right _ _) hm (by omega) (by omega)
      rw [← es] at this
      rw [this, es, ea]
      rfl
    · rw [if_neg (by omega), List.drop_of_length_le (by omega)]
      rfl
theorem radd {k : Nat} {z : Int × Int} {l : List Int} (hz : M.right z.1 z.2 = true) (hb : M.bytes l = true) (hm : (l.length : Int) ≤ 9223372036854775807) (hk : l.length < k) :
    reeveref02_Add.f k z.1 z.2 l = some ((M.add z l).1, (M.add z l).2, 0) := by
  unfold reeveref02_Add.f
  rw [rright, hz]
  have := radd0 k l 0 z hb hz hm (by omega) (by omega)
  simpa using this
theorem rnext (x : S60) {b : List Int} {k : Nat} (hb : M.bytes b = true) (hl : (b.length : Int) ≤ 9223372036854775807) (hk : b.length < k) :
    reeveref03_Next.f k x.f0 x.f1 x.f2.f0 x.f2.f1 b = some ((next x b).1.f0, (next x b).1.f1, (next x b).1.f2.f0, (next x b).1.f2.f1, (next x b).2) := by
  unfold reeveref03_Next.f next
  rw [rmay]
  simp only [Option.bind_some]
  by_cases h : may x = true
  · have h' := may_iff.1 h
    rw [if_pos h, if_pos h]
    by_cases h1 : (b.length : Int) > 4194304
    · rw [if_pos h1, if_pos h1]; rfl
    · rw [if_neg h1, if_neg h1]
      by_cases h2 : x.f0 = 10000
      · rw [if_pos h2, if_pos h2]; rfl
      · rw [if_neg h2, if_neg h2, radd (z := (x.f2.f0, x.f2.f1)) h'.2 hb hl hk, w64 (n := x.f0 + 1) (by omega) (by omega)]
        rfl
  · rw [if_neg h, if_neg h]; rfl
def first : S60 := ⟨0, 0, ⟨1, 2⟩⟩
def rows (ps : List (List Int)) : Prop := ps.length ≤ 9223372036854775807 ∧ ∀ x ∈ ps, x.length ≤ 9223372036854775807 ∧ M.bytes x = true
def mk : S60 → List (List Int) → Option (List S60)
  | _, [] => some []
  | x, b :: ps => if (next x b).2 = 0 then (mk (next x b).1 ps).map ((next x b).1 :: ·) else none
end Go.Proofs.Ytbiijcehgiibeaa.Pure
namespace Go.Proofs.Ytbiijcehgiibeaa.Pure
open Go.RowKit Go.Proofs.Ytbiijcehgiibeaa.Q Go.Proofs.YtbiijcehgiibeaaW.PrintWords
theorem lent {l : List Int} (h : l.length ≤ 140737488351232) : reevelaw02_Lent.f l = some l := by
  unfold reevelaw02_Lent.f
  rw [if_pos h]
theorem kept {l : List Int} {k : Nat} (h : l.length ≤ 140737488351232) (hk : l.length < k) : reevelaw02_Kept.f k l l = some true := by
  unfold reevelaw02_Kept.f
  rw [if_pos rfl, if_pos h, same_ok (by omega) hk]
  simp
end Go.Proofs.Ytbiijcehgiibeaa.Pure
namespace Go.Proofs.Ytbiijcehgiibeaa.Pure
open Go.RowKit Go.Proofs.Ytbiijcehgiibeaa.Q Go.Proofs.YtbiijcehgiibeaaW.PrintWords
theorem ChainGoes (a0 a1 a2 a3 : Int) (l : List Int) (_ : (Lit.int .i64 a0).wf = true) (_ : (Lit.int .i64 a1).wf = true) (_ : (Lit.int .i64 a2).wf = true) (_ : (Lit.int .i64 a3).wf = true) (y : l.length * 1 ≤ 140737488351232) (hw : ∀ x ∈ l, (Lit.int .u8 x).wf = true) : ∃ k, reevelaw03_ChainGoes.f k a0 a1 a2 a3 l = some true := by
  refine ⟨l.length + 10, ?_⟩
  have hb := bytes_of hw
  have hc := cnext (⟨a0, a1, ⟨a2, a3⟩⟩ : S60) hb (by omega)
  have hr := rnext (⟨a0, a1, ⟨a2, a3⟩⟩ : S60) (k := l.length + 10) hb (by omega) (by omega)
  unfold reevelaw03_ChainGoes.f
  rw [awake03, hr, lent (by omega)]
  simp only [Option.bind_some]
  rw [hc, kept (by omega) (by omega), show chain_First.f = some (0, 0, 1, 2) from rfl, show reeveref03_First.f = some (0, 0, 1, 2) from rfl]
  simp
end Go.Proofs.Ytbiijcehgiibeaa.Pure
namespace Go.Proofs.Ytbiijcehgiibeaa.O
open Go.ChangeShapes Go.WideShapes Go.ChangeAt Go.RowKit
theorem agg_ints {P : Program} {w : World} {r : Reach} {b : Nat} {t e : TypeId} {v : Value} {n : Nat} {fs : Array Field} (hs : P.underlying t = some (.struct fs)) (hC : P.cellsOf t = n)
    (ht : P.cellTypes P.depth t = some (List.replicate n e)) (he : P.underlying e = some (.int .i64)) (hv : Value.okWide P w r b t v) :
    ∃ cs : Array Value, v = .agg cs ∧ cs.size = n ∧ ∀ i, i < n → ∃ x, cs[i]? = some (.int .i64 x) ∧ (Lit.int .i64 x).wf = true := by
  unfold Value.okWide at hv
  rw [hs] at hv
  obtain ⟨cs, rfl, hsz, hr⟩ := hv
  rw [hC] at hsz
  refine ⟨cs, rfl, hsz, fun i hi => ?_⟩
  obtain ⟨ts, h1, _, h2⟩ := hr
  rw [ht] at h1
  cases h1
  obtain ⟨u, h3, h4⟩ := h2 i (cs[i]'(by omega)) (Array.getElem?_eq_getElem (by omega))
  have hu : u = e := by
    have := List.mem_of_getElem? h3
    exact (List.mem_replicate.1 this).2
  subst hu
  generalize hc : cs[i]'(by omega) = c at h4
  unfold Cell.okWide Cell.ok at h4
  rw [he] at h4
  cases c <;> simp only at h4 <;> try exact h4.elim
  rename_i k x
  obtain ⟨rfl, hk⟩ := h4
  refine ⟨x, by rw [Array.getElem?_eq_getElem (by omega), hc], ?_⟩
  unfold IntKind.has at hk
  have h9 : x ≤ 9223372036854775807 := hk.2
  simp [Lit.wf, hk.1, h9]
theorem arr4 {cs : Array Value} {x0 x1 x2 x3 : Value} (hsz : cs.size = 4) (h0 : cs[0]? = some x0) (h1 : cs[1]? = some x1) (h2 : cs[2]? = some x2) (h3 : cs[3]? = some x3) : cs = #[x0, x1, x2, x3] := by
  obtain ⟨l⟩ := cs
  match l, hsz with
  | [a, b, c, d], _ => simp_all
theorem agg4 {P : Program} {w : World} {r : Reach} {b : Nat} {t e : TypeId} {v : Value} {fs : Array Field} (hs : P.underlying t = some (.struct fs)) (hC : P.cellsOf t = 4)
    (ht : P.cellTypes P.depth t = some [e, e, e, e]) (he : P.underlying e = some (.int .i64)) (hv : Value.okWide P w r b t v) :
    ∃ x0 x1 x2 x3 : Int, v = .agg #[.int .i64 x0, .int .i64 x1, .int .i64 x2, .int .i64 x3] ∧ (Lit.int .i64 x0).wf = true ∧ (Lit.int .i64 x1).wf = true ∧ (Lit.int .i64 x2).wf = true ∧ (Lit.int .i64 x3).wf = true := by
  obtain ⟨cs, rfl, hsz, h⟩ := agg_ints hs hC ht he hv
  obtain ⟨x0, e0, w0⟩ := h 0 (by omega)
  obtain ⟨x1, e1, w1⟩ := h 1 (by omega)
  obtain ⟨x2, e2, w2⟩ := h 2 (by omega)
  obtain ⟨x3, e3, w3⟩ := h 3 (by omega)
  exact ⟨x0, x1, x2, x3, by rw [arr4 hsz e0 e1 e2 e3], w0, w1, w2, w3⟩
end Go.Proofs.Ytbiijcehgiibeaa.O

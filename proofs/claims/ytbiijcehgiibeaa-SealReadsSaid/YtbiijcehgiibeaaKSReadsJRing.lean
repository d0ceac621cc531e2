/- Proved here, in whole numbers: adding bytes to a seal is injective in the seal and in each byte; it is linear in the seal; joined seals are seals of joined bytes. No program in sight. · Proved here: what the small printed functions of reevelaw02 come to (the wake, Fold, Of), and seal.Add where its seal is right. · Proved here: 16777199 is a prime; the pairs modulo it are a field; each pair but zero to the power P P - 1 is 1. No program in sight. · Proved here, in whole numbers: a seal's six bytes and what is read of six bytes: one the way back of the other. No program in sight. · Proved here: what seal.Read, seal.Bytes and Same come to. · Proved here: what the document's answers of layer 2 (Right, Mul, Raise, Times, Power, Join) come to. · A text that a program of this session wrote (wip/qprint.py, over the kit's printer): Lean functions with the same answers as Go functions of the program, and proofs that the calls come to these answers; where a function is named in wip/ext, its definition and proof were written by hand. · Steps of a walk, used in the texts of chain and policy: a slice is made; within a region that draws its order a block is made, a value is stored. · Proved here: what chain.Next, chain.Check, links, long and the document's answers of layer 3 come to. · Proved here: what Lent and Kept come to. · Proved here: what the document's Read and Bytes of layer 2, and Owned, come to. · Proved here: the plain law of SealReads. · Proved here: an argument that is a struct of whole numbers is an aggregate of whole numbers that fit. No program in sight. -/
import Derived.Test.YtbiijcehgiibeaaKSReadsJFloat
import Derived.Test.YtbiijcehgiibeaaKSReadsQg4
import Derived.Test.YtbiijcehgiibeaaKSReadsQf37
import Derived.Test.YtbiijcehgiibeaaKSReadsJQg3
import Derived.Test.YtbiijcehgiibeaaKSReadsWMore
import Derived.Deep.MidRow
import Derived.LoopN
import Derived.Test.YtbiijcehgiibeaaKSReadsQf36
import Derived.Test.YtbiijcehgiibeaaKSReadsQf39
import Derived.Test.YtbiijcehgiibeaaKSReadsQf5
import Derived.WalkKit
import Derived.ProofKit
import Derived.OpenShut
namespace Go.Proofs.Ytbiijcehgiibeaa.M
def plus (x y : Int × Int) : Int × Int := ((x.1 + y.1) % 16777199, (x.2 + y.2) % 16777199)
end Go.Proofs.Ytbiijcehgiibeaa.M
namespace Go.Proofs.Ytbiijcehgiibeaa.Pure
open Go.RowKit Go.Proofs.Ytbiijcehgiibeaa.Q Go.Proofs.YtbiijcehgiibeaaW.PrintWords
theorem awake02 : reevelaw02_awake.f = some true := by decide +kernel
theorem tmod_P (n : Int) : n.tmod 16777199 = if 0 ≤ n then n % 16777199 else -((-n) % 16777199) := by
  split
  · exact Int.tmod_eq_emod_of_nonneg ‹_›
  · have := Int.neg_tmod (a := -n) (b := 16777199)
    rw [Int.neg_neg] at this
    rw [this, Int.tmod_eq_emod_of_nonneg (by omega)]
theorem bytes_of {l : List Int} (h : ∀ x ∈ l, (Lit.int .u8 x).wf = true) : M.bytes l = true := by
  unfold M.bytes
  rw [List.all_eq_true]
  intro x hx
  have := h x hx
  simp only [Lit.wf, Bool.and_eq_true, decide_eq_true_eq] at this
  have h1 : (0 : Int) ≤ x := this.1
  have h2 : x ≤ 255 := this.2
  exact decide_eq_true (by omega)
theorem i64_of {x : Int} (h : (Lit.int .i64 x).wf = true) : -9223372036854775808 ≤ x ∧ x ≤ 9223372036854775807 := by
  simp only [Lit.wf, Bool.and_eq_true, decide_eq_true_eq] at h
  exact h
end Go.Proofs.Ytbiijcehgiibeaa.Pure
namespace Go.Proofs.Ytbiijcehgiibeaa.M
def sum : Nat → (Nat → Int × Int) → Int × Int
  | 0, _ => (0, 0)
  | n + 1, f => plus (sum n f) (f n)
theorem zero_mul (x : Int × Int) : mul (0, 0) x = (0, 0) := by unfold mul; refine Prod.ext ?_ ?_ <;> simp only <;> omega
end Go.Proofs.Ytbiijcehgiibeaa.M
namespace Go.Proofs.Ytbiijcehgiibeaa.M
def six (l : List Int) (i : Nat) : Int × Int := (l.getD i 0 + 256 * l.getD (i + 1) 0 + 65536 * l.getD (i + 2) 0, l.getD (i + 3) 0 + 256 * l.getD (i + 4) 0 + 65536 * l.getD (i + 5) 0)
def wr6 (x : Int × Int) : List Int := [x.1 % 256, x.1 / 256 % 256, x.1 / 65536 % 256, x.2 % 256, x.2 / 256 % 256, x.2 / 65536 % 256]
def rd6 (l : List Int) (i : Int) : Int × Int × Int × Int :=
  if i < 0 ∨ i > (l.length : Int) then (0, 0, 0, 1) else if (l.length : Int) - i < 6 then (0, 0, 0, 10) else
    if right (six l i.toNat).1 (six l i.toNat).2 = true then ((six l i.toNat).1, (six l i.toNat).2, i + 6, 0) else (0, 0, 0, 20)
end Go.Proofs.Ytbiijcehgiibeaa.M
namespace Go.Proofs.Ytbiijcehgiibeaa.Pure
open Go.RowKit Go.Proofs.Ytbiijcehgiibeaa.Q Go.Proofs.YtbiijcehgiibeaaW.PrintWords
set_option linter.unusedVariables false
set_option linter.unusedSimpArgs false
theorem or_comm (k : IntKind) (x y : Int) : Go.bits .or k x y = Go.bits .or k y x := by
  simp only [Go.bits, BitVec.or_comm]
theorem or_sum (i : Nat) {x y : Int} (h0 : 0 ≤ x) (h1 : x < 2 ^ i) (h2 : 0 ≤ y) (h3 : y < 2 ^ 62) (hi : i ≤ 62) (h4 : y % 2 ^ i = 0) : Go.bits .or .i64 x y = x + y := by
  rw [or_comm, Int.add_comm]
  have hp : (2 : Int) ^ i ≤ 2 ^ 62 := by exact_mod_cast Nat.pow_le_pow_right (n := 2) (by decide) hi
  exact Go.bits_join .i64 62 (by decide) (fun n a b => by rw [Go.IntKind.wrap_i64]; omega) i y x h2 h4 h3 h0 h1 (by omega)
theorem w64b {n : Int} (h1 : -9223372036854775808 ≤ n) (h2 : n ≤ 9223372036854775807) : wrap64 n = n := by unfold wrap64; omega
theorem three {a b c : Int} (h0 : 0 ≤ a) (h1 : a < 256) (h2 : 0 ≤ b) (h3 : b < 256) (h4 : 0 ≤ c) (h5 : c < 256) :
    Go.bits .or .i64 (Go.bits .or .i64 (wrap64 a) (wrap64 ((wrap64 b) * 256))) (wrap64 ((wrap64 c) * 65536)) = a + 256 * b + 65536 * c := by
  rw [w64b (n := a) (by omega) (by omega), w64b (n := b) (by omega) (by omega), w64b (n := c) (by omega) (by omega), w64b (n := b * 256) (by omega) (by omega), w64b (n := c * 65536) (by omega) (by omega)]
  rw [or_sum 8 h0 (by omega) (by omega) (by omega) (by decide) (by omega), or_sum 16 (by omega) (by omega) (by omega) (by omega) (by decide) (by omega)]
  omega
theorem sright (a b : Int) : seal_Right.f a b = some (M.right a b) := by
  unfold seal_Right.f M.right
  by_cases h1 : 0 ≤ a
  · rw [if_pos h1]
    by_cases h2 : a < 16777199
    · rw [if_pos h2]
      by_cases h3 : 0 ≤ b
      · rw [if_pos h3]; congr 1; simp [h1, h2, h3]
      · rw [if_neg h3]; congr 1; simp [h3]
    · rw [if_neg h2]; congr 1; simp [h2]
  · rw [if_neg h1]; congr 1; simp [h1]
theorem rd_cut {l : List Int} {i : Nat} (j : Nat) (hj : j < 6) : rd ((l.take (i + 6)).drop i) (j : Int) = l.getD (i + j) 0 := by
  unfold rd
  rw [Int.toNat_natCast, List.getD_eq_getElem?_getD, List.getD_eq_getElem?_getD, List.getElem?_drop, List.getElem?_take_of_lt (by omega)]
theorem read6 {l : List Int} {i : Int} (k : Nat) (hl : M.bytes l = true) (hn : (l.length : Int) ≤ 4611686018427387904) (h1 : -9223372036854775808 ≤ i) (h2 : i ≤ 9223372036854775807) : seal_Read.f (k + 1) l i = some (M.rd6 l i) := by
  unfold seal_Read.f M.rd6
  simp only [seal_Read.j0]
  by_cases c1 : i < 0
  · rw [if_pos c1, if_pos trivial, if_pos (.inl c1)]
  · rw [if_neg c1]
    by_cases c2 : i > (l.length : Int)
    · rw [if_pos (by simpa using c2), if_pos (.inr c2)]
    · rw [if_neg (by simpa using c2), w64b (n := (l.length : Int) - i) (by omega) (by omega), if_neg (show ¬ (i < 0 ∨ i > (l.length : Int)) by omega)]
      by_cases c3 : (l.length : Int) - i < 6
      · rw [if_pos c3, if_pos c3]
      · rw [if_neg c3, if_neg c3, w64b (n := i + 6) (by omega) (by omega), if_pos (by omega), if_pos (by omega), if_pos (by omega)]
        obtain ⟨m, rfl⟩ := Int.eq_ofNat_of_zero_le (show 0 ≤ i by omega)
        rw [show ((m : Int) + 6).toNat = m + 6 by omega, Int.toNat_natCast]
        have hlen : ((l.take (m + 6)).drop m).length = 6 := by simp; omega
        rw [hlen]
        rw [if_pos (by decide), if_pos (by decide), if_pos (by decide), if_pos (by decide), if_pos (by decide), if_pos (by decide)]
        have r0 : rd ((l.take (m + 6)).drop m) 0 = l.getD m 0 := rd_cut 0 (by decide)
        have r1 : rd ((l.take (m + 6)).drop m) 1 = l.getD (m + 1) 0 := rd_cut 1 (by decide)
        have r2 : rd ((l.take (m + 6)).drop m) 2 = l.getD (m + 2) 0 := rd_cut 2 (by decide)
        have r3 : rd ((l.take (m + 6)).drop m) 3 = l.getD (m + 3) 0 := rd_cut 3 (by decide)
        have r4 : rd ((l.take (m + 6)).drop m) 4 = l.getD (m + 4) 0 := rd_cut 4 (by decide)
        have r5 : rd ((l.take (m + 6)).drop m) 5 = l.getD (m + 5) 0 := rd_cut 5 (by decide)
        have b := fun j => M.bytes_getD hl j
        rw [r0, r1, r2, r3, r4, r5, three (b _).1 (b _).2 (b _).1 (b _).2 (b _).1 (b _).2, three (b _).1 (b _).2 (b _).1 (b _).2 (b _).1 (b _).2, sright]
        simp only [Option.bind_some]
        rw [show (l.getD m 0 + 256 * l.getD (m + 1) 0 + 65536 * l.getD (m + 2) 0) = (M.six l m).1 from rfl, show (l.getD (m + 3) 0 + 256 * l.getD (m + 4) 0 + 65536 * l.getD (m + 5) 0) = (M.six l m).2 from rfl]
        by_cases c4 : M.right (M.six l m).1 (M.six l m).2 = true
        · rw [if_pos c4, if_pos c4]
        · rw [if_neg c4, if_neg c4]
theorem bytes6 {x : Int × Int} (h : M.right x.1 x.2 = true) : seal_Bytes.f x.1 x.2 = some (M.wr6 x, 0) := by
  unfold seal_Bytes.f
  rw [sright, h]
  rfl
theorem bytes6_no {a b : Int} (h : M.right a b = false) : seal_Bytes.f a b = some ([], 20) := by
  unfold seal_Bytes.f
  rw [sright, h]
  rfl
theorem same0 : ∀ (k : Nat) (a b : List Int) (i : Nat), a.length = b.length → (a.length : Int) ≤ 9223372036854775806 → i ≤ a.length → a.length - i < k → reevelaw02_Same.l0 k a b (i : Int) = some (decide (a.drop i = b.drop i)) := by
  intro k
  induction k with
  | zero => intro a b i _ _ _ h; omega
  | succ k ih =>
    intro a b i hab hm hi hk
    simp only [reevelaw02_Same.l0]
    by_cases h : i < a.length
    · rw [if_pos (by omega), if_pos (by omega), if_pos (by omega)]
      have ea : a.drop i = a.getD i 0 :: a.drop (i + 1) := by
        rw [List.getD_eq_getElem?_getD, List.getElem?_eq_getElem h, List.drop_eq_getElem_cons h]; rfl
      have eb : b.drop i = b.getD i 0 :: b.drop (i + 1) := by
        rw [List.getD_eq_getElem?_getD, List.getElem?_eq_getElem (by omega), List.drop_eq_getElem_cons (by omega)]; rfl
      have ra : rd a (i : Int) = a.getD i 0 := by unfold rd; rw [Int.toNat_natCast]
      have rb : rd b (i : Int) = b.getD i 0 := by unfold rd; rw [Int.toNat_natCast]
      rw [ra, rb]
      by_cases c : a.getD i 0 = b.getD i 0
      · rw [if_pos c, w64b (n := (i : Int) + 1) (by omega) (by omega), show ((i : Int) + 1) = ((i + 1 : Nat) : Int) by omega, ih a b (i + 1) hab hm (by omega) (by omega)]
        congr 1
        rw [ea, eb, c]
        simp
      · rw [if_neg c]
        congr 1
        symm
        rw [decide_eq_false_iff_not, ea, eb]
        intro e
        exact c (List.cons.inj e).1
    · rw [if_neg (by omega), List.drop_of_length_le (by omega), List.drop_of_length_le (by omega)]
      simp
theorem same_ok {a b : List Int} {k : Nat} (hm : (a.length : Int) ≤ 9223372036854775806) (hk : a.length < k) : reevelaw02_Same.f k a b = some (decide (a = b)) := by
  unfold reevelaw02_Same.f
  by_cases h : a.length = b.length
  · rw [if_pos (by omega)]
    have := same0 k a b 0 h hm (by omega) (by omega)
    simpa using this
  · rw [if_neg (by omega)]
    congr 1
    have : a ≠ b := fun e => h (by rw [e])
    simp [this]
end Go.Proofs.Ytbiijcehgiibeaa.Pure
namespace Go.Proofs.Ytbiijcehgiibeaa.Pure
open Go.RowKit Go.Proofs.Ytbiijcehgiibeaa.Q Go.Proofs.YtbiijcehgiibeaaW.PrintWords
set_option linter.unusedVariables false
set_option linter.unusedSimpArgs false
theorem rright (a b : Int) : reeveref02_Right.f a b = some (M.right a b) := by
  unfold reeveref02_Right.f M.right
  by_cases h1 : 0 ≤ a
  · rw [if_pos h1]
    by_cases h2 : a < 16777199
    · rw [if_pos h2]
      by_cases h3 : 0 ≤ b
      · rw [if_pos h3]; congr 1; simp [h1, h2, h3]
      · rw [if_neg h3]; congr 1; simp [h3]
    · rw [if_neg h2]; congr 1; simp [h2]
  · rw [if_neg h1]; congr 1; simp [h1]
end Go.Proofs.Ytbiijcehgiibeaa.Pure
namespace Go.Proofs.Ytbiijcehgiibeaa.Q
open Go.RowKit Go.Proofs.YtbiijcehgiibeaaW.PrintWords Go.Proofs.YtbiijcehgiibeaaW.PrintLast Go.Proofs.YtbiijcehgiibeaaW.PrintMore
attribute [local go_sem] max2_int min2_int max_two min_two max_three min_three max_four min_four   -- for this text's walks alone
set_option linter.unusedVariables false
set_option linter.unusedSimpArgs false
theorem eqA60 (d : Nat) (w : World) (x0 y0 : Int) (x1 y1 : Int) (x2 y2 : Int) (x3 y3 : Int) :
    (Op.equalIn (d + 3) 60 (.agg #[.int .i64 x0, .int .i64 x1, .int .i64 x2, .int .i64 x3]) (.agg #[.int .i64 y0, .int .i64 y1, .int .i64 y2, .int .i64 y3])).run Try.prog w = .ok (x0 == y0 && (x1 == y1 && ((x2 == y2 && (x3 == y3))))) w := by
  refine eqA_of Try.underlying60 (by kernel_rfl) ?_
  refine eqf_cons (by rfl) (by go_simp; rfl) (by go_simp; rfl) (by go_simp) ?_
  refine eqf_cons (by rfl) (by go_simp; rfl) (by go_simp; rfl) (by go_simp) ?_
  exact eqf_last (by rfl) (by go_simp) (by go_simp) (eqA23 (d + 0) w _ _ _ _)
end Go.Proofs.Ytbiijcehgiibeaa.Q
namespace Go.Proofs.Ytbiijcehgiibeaa.H
open Go.RowKit Go.Proofs.YtbiijcehgiibeaaW.PrintWords Go.Proofs.YtbiijcehgiibeaaW.PrintLast Go.Proofs.YtbiijcehgiibeaaW.PrintMore
set_option linter.unusedVariables false
section
variable {P : Program} {ops : Array Oper} {rest : List Oper} {o : Oper} {a : Act} {Q : Exit → Act → World → Prop} {Kc : Act → World → Prop}
theorem box_step {W : World} (hw : Region.wanted o (yielded ops a.tmps) = true) {N : Option Tmp} (hN : o.dst = N) {cs : Array Value} {t : TypeId}
    (hrun : (execOp a.eval o).run P W = .ok (.value (.pointer (some ⟨W.heap.size, 0, none⟩))) (W.alloc (.cells cs t (0, 0))))
    (h : ∀ g, g = W.heap.size → ∀ w1, w1.heap[g]? = some (.cells cs t (0, 0)) → Below W.heap.size W w1 → Kc (a.put N (.pointer (some ⟨g, 0, none⟩))) w1) :
    if Region.wanted o (yielded ops a.tmps) = true then Oper.wp P o a W Kc Q else Kc (a.put N undef) W := by
  subst hN
  exact event_step hw hrun (h _ rfl _ (blk_new W _) (below_alloc (Below.refl _ _) _))
end
end Go.Proofs.Ytbiijcehgiibeaa.H
namespace Go.Proofs.Ytbiijcehgiibeaa.Pure
open Go.RowKit Go.Proofs.Ytbiijcehgiibeaa.Q Go.Proofs.YtbiijcehgiibeaaW.PrintWords
set_option linter.unusedVariables false
set_option linter.unusedSimpArgs false
def may (x : S60) : Bool := decide (0 ≤ x.f0 ∧ x.f0 ≤ 10000 ∧ 0 ≤ x.f1 ∧ x.f1 ≤ 4194304) && M.right x.f2.f0 x.f2.f1
def next (x : S60) (b : List Int) : S60 × Int :=
  if may x = true then if (b.length : Int) > 4194304 then (z60, 2) else if x.f0 = 10000 then (z60, 3) else (⟨x.f0 + 1, b.length, ⟨(M.add (x.f2.f0, x.f2.f1) b).1, (M.add (x.f2.f0, x.f2.f1) b).2⟩⟩, 0) else (z60, 30)
def first : S60 := ⟨0, 0, ⟨1, 2⟩⟩
def rows (ps : List (List Int)) : Prop := ps.length ≤ 9223372036854775807 ∧ ∀ x ∈ ps, x.length ≤ 9223372036854775807 ∧ M.bytes x = true
def mk : S60 → List (List Int) → Option (List S60)
  | _, [] => some []
  | x, b :: ps => if (next x b).2 = 0 then (mk (next x b).1 ps).map ((next x b).1 :: ·) else none
end Go.Proofs.Ytbiijcehgiibeaa.Pure
namespace Go.Proofs.Ytbiijcehgiibeaa.Pure
open Go.RowKit Go.Proofs.Ytbiijcehgiibeaa.Q Go.Proofs.YtbiijcehgiibeaaW.PrintWords
theorem lent {l : List Int} (h : l.length ≤ 140737488351232) : reevelaw02_Lent.f l = some l := by
  unfold reevelaw02_Lent.f
  rw [if_pos h]
theorem kept {l : List Int} {k : Nat} (h : l.length ≤ 140737488351232) (hk : l.length < k) : reevelaw02_Kept.f k l l = some true := by
  unfold reevelaw02_Kept.f
  rw [if_pos rfl, if_pos h, same_ok (by omega) hk]
  simp
end Go.Proofs.Ytbiijcehgiibeaa.Pure
namespace Go.Proofs.Ytbiijcehgiibeaa.Pure
open Go.RowKit Go.Proofs.Ytbiijcehgiibeaa.Q Go.Proofs.YtbiijcehgiibeaaW.PrintWords
set_option linter.unusedVariables false
set_option linter.unusedSimpArgs false
theorem rthree {a b c : Int} (h0 : 0 ≤ a) (h1 : a < 256) (h2 : 0 ≤ b) (h3 : b < 256) (h4 : 0 ≤ c) (h5 : c < 256) :
    wrap64 ((wrap64 ((wrap64 a) + (wrap64 (256 * (wrap64 b))))) + (wrap64 (65536 * (wrap64 c)))) = a + 256 * b + 65536 * c := by
  rw [w64b (n := a) (by omega) (by omega), w64b (n := b) (by omega) (by omega), w64b (n := c) (by omega) (by omega), w64b (n := 256 * b) (by omega) (by omega), w64b (n := 65536 * c) (by omega) (by omega), w64b (n := a + 256 * b) (by omega) (by omega), w64b (n := a + 256 * b + 65536 * c) (by omega) (by omega)]
theorem rread6 {l : List Int} {i : Int} (k : Nat) (hl : M.bytes l = true) (hn : (l.length : Int) ≤ 4611686018427387904) (h1 : -9223372036854775808 ≤ i) (h2 : i ≤ 9223372036854775807) : reeveref02_Read.f (k + 1) l i = some (M.rd6 l i) := by
  unfold reeveref02_Read.f M.rd6
  simp only [reeveref02_Read.j0]
  by_cases c1 : i < 0
  · rw [if_pos c1, if_pos trivial, if_pos (.inl c1)]
  · rw [if_neg c1]
    by_cases c2 : i > (l.length : Int)
    · rw [if_pos (by simpa using c2), if_pos (.inr c2)]
    · rw [if_neg (by simpa using c2), w64b (n := (l.length : Int) - i) (by omega) (by omega), if_neg (show ¬ (i < 0 ∨ i > (l.length : Int)) by omega)]
      by_cases c3 : (l.length : Int) - i < 6
      · rw [if_pos c3, if_pos c3]
      · rw [if_neg c3, if_neg c3, w64b (n := i + 6) (by omega) (by omega), if_pos (by omega), if_pos (by omega), if_pos (by omega)]
        obtain ⟨m, rfl⟩ := Int.eq_ofNat_of_zero_le (show 0 ≤ i by omega)
        rw [show ((m : Int) + 6).toNat = m + 6 by omega, Int.toNat_natCast]
        have hlen : ((l.take (m + 6)).drop m).length = 6 := by simp; omega
        rw [hlen]
        rw [if_pos (by decide), if_pos (by decide), if_pos (by decide), if_pos (by decide), if_pos (by decide), if_pos (by decide)]
        have r0 : rd ((l.take (m + 6)).drop m) 0 = l.getD m 0 := rd_cut 0 (by decide)
        have r1 : rd ((l.take (m + 6)).drop m) 1 = l.getD (m + 1) 0 := rd_cut 1 (by decide)
        have r2 : rd ((l.take (m + 6)).drop m) 2 = l.getD (m + 2) 0 := rd_cut 2 (by decide)
        have r3 : rd ((l.take (m + 6)).drop m) 3 = l.getD (m + 3) 0 := rd_cut 3 (by decide)
        have r4 : rd ((l.take (m + 6)).drop m) 4 = l.getD (m + 4) 0 := rd_cut 4 (by decide)
        have r5 : rd ((l.take (m + 6)).drop m) 5 = l.getD (m + 5) 0 := rd_cut 5 (by decide)
        have b := fun j => M.bytes_getD hl j
        rw [r0, r1, r2, r3, r4, r5, rthree (b _).1 (b _).2 (b _).1 (b _).2 (b _).1 (b _).2, rthree (b _).1 (b _).2 (b _).1 (b _).2 (b _).1 (b _).2, rright]
        simp only [Option.bind_some]
        rw [show (l.getD m 0 + 256 * l.getD (m + 1) 0 + 65536 * l.getD (m + 2) 0) = (M.six l m).1 from rfl, show (l.getD (m + 3) 0 + 256 * l.getD (m + 4) 0 + 65536 * l.getD (m + 5) 0) = (M.six l m).2 from rfl]
        by_cases c4 : M.right (M.six l m).1 (M.six l m).2 = true
        · rw [if_pos c4, if_pos c4]
        · rw [if_neg c4, if_neg c4]
theorem rbyte {a : Int} (h0 : 0 ≤ a) (h1 : a < 16777199) : (Int.tmod a 256) % 256 = a % 256 ∧ (Int.tmod (wrap64 (Int.tdiv a 256)) 256) % 256 = a / 256 % 256 ∧ (wrap64 (Int.tdiv a 65536)) % 256 = a / 65536 % 256 := by
  rw [Int.tdiv_eq_ediv_of_nonneg h0, Int.tdiv_eq_ediv_of_nonneg h0, Int.tmod_eq_emod_of_nonneg h0, w64b (n := a / 256) (by omega) (by omega), w64b (n := a / 65536) (by omega) (by omega), Int.tmod_eq_emod_of_nonneg (by omega)]
  omega
theorem rbytes6 {x : Int × Int} (h : M.right x.1 x.2 = true) : reeveref02_Bytes.f x.1 x.2 = some (M.wr6 x, 0) := by
  obtain ⟨a1, a2, a3, a4⟩ := M.right_iff.1 h
  unfold reeveref02_Bytes.f M.wr6
  rw [rright, h]
  simp only [Option.bind_some]
  rw [if_pos trivial, (rbyte a1 a2).1, (rbyte a1 a2).2.1, (rbyte a1 a2).2.2, (rbyte a3 a4).1, (rbyte a3 a4).2.1, (rbyte a3 a4).2.2]
theorem rbytes6_no {a b : Int} (h : M.right a b = false) : reeveref02_Bytes.f a b = some ([], 20) := by
  unfold reeveref02_Bytes.f
  rw [rright, h]
  rfl
theorem owned6 (k : Nat) (x0 x1 x2 x3 x4 x5 y0 y1 y2 y3 y4 y5 : Int) : reevelaw02_Owned.f (k + 40) [x0, x1, x2, x3, x4, x5] [y0, y1, y2, y3, y4, y5] = some true := by kernel_rfl
theorem owned0 (k : Nat) : reevelaw02_Owned.f (k + 40) [] [] = some true := by kernel_rfl
end Go.Proofs.Ytbiijcehgiibeaa.Pure
namespace Go.Proofs.Ytbiijcehgiibeaa.Pure
open Go.RowKit Go.Proofs.Ytbiijcehgiibeaa.Q Go.Proofs.YtbiijcehgiibeaaW.PrintWords
theorem both_bytes (a b : Int) (k : Nat) : ∃ t n, seal_Bytes.f a b = some (t, n) ∧ reeveref02_Bytes.f a b = some (t, n) ∧ t.length ≤ 6 ∧ reevelaw02_Owned.f (k + 40) t t = some true := by
  by_cases h : M.right a b = true
  · exact ⟨_, _, bytes6 (x := (a, b)) h, rbytes6 (x := (a, b)) h, by simp [M.wr6], owned6 k _ _ _ _ _ _ _ _ _ _ _ _⟩
  · have h' : M.right a b = false := by simpa using h
    exact ⟨_, _, bytes6_no h', rbytes6_no h', by simp, owned0 k⟩
theorem SealReads (a0 a1 : Int) (l : List Int) (a2 : Int) (_ : (Lit.int .i64 a0).wf = true) (_ : (Lit.int .i64 a1).wf = true) (y : l.length * 1 ≤ 140737488351232) (hw : ∀ x ∈ l, (Lit.int .u8 x).wf = true) (w2 : (Lit.int .i64 a2).wf = true) : ∃ k, reevelaw02_SealReads.f k a0 a1 l a2 = some true := by
  refine ⟨l.length + 40, ?_⟩
  have hb := bytes_of hw
  obtain ⟨i1, i2⟩ := i64_of w2
  obtain ⟨t, n, h1, h2, h3, h4⟩ := both_bytes a0 a1 l.length
  unfold reevelaw02_SealReads.f
  rw [awake02, h1, h2]
  simp only [Option.bind_some]
  rw [show l.length + 40 = (l.length + 39) + 1 from rfl, rread6 _ hb (by omega) i1 i2, lent (by omega)]
  simp only [Option.bind_some]
  rw [read6 _ hb (by omega) i1 i2, kept (by omega) (by omega), same_ok (a := t) (b := t) (by omega) (by omega), show (l.length + 39) + 1 = l.length + 40 from rfl, h4]
  simp
end Go.Proofs.Ytbiijcehgiibeaa.Pure
namespace Go.Proofs.Ytbiijcehgiibeaa.O
open Go.ChangeShapes Go.WideShapes Go.ChangeAt Go.RowKit
theorem agg_ints {P : Program} {w : World} {r : Reach} {b : Nat} {t e : TypeId} {v : Value} {n : Nat} {fs : Array Field} (hs : P.underlying t = some (.struct fs)) (hC : P.cellsOf t = n)
    (ht : P.cellTypes P.depth t = some (List.replicate n e)) (he : P.underlying e = some (.int .i64)) (hv : Value.okWide P w r b t v) :
    ∃ cs : Array Value, v = .agg cs ∧ cs.size = n ∧ ∀ i, i < n → ∃ x, cs[i]? = some (.int .i64 x) ∧ (Lit.int .i64 x).wf = true := by
  unfold Value.okWide at hv
  rw [hs] at hv
  obtain ⟨cs, rfl, hsz, hr⟩ := hv
  rw [hC] at hsz
  refine ⟨cs, rfl, hsz, fun i hi => ?_⟩
  obtain ⟨ts, h1, _, h2⟩ := hr
  rw [ht] at h1
  cases h1
  obtain ⟨u, h3, h4⟩ := h2 i (cs[i]'(by omega)) (Array.getElem?_eq_getElem (by omega))
  have hu : u = e := by
    have := List.mem_of_getElem? h3
    exact (List.mem_replicate.1 this).2
  subst hu
  generalize hc : cs[i]'(by omega) = c at h4
  unfold Cell.okWide Cell.ok at h4
  rw [he] at h4
  cases c <;> simp only at h4 <;> try exact h4.elim
  rename_i k x
  obtain ⟨rfl, hk⟩ := h4
  refine ⟨x, by rw [Array.getElem?_eq_getElem (by omega), hc], ?_⟩
  unfold IntKind.has at hk
  have h9 : x ≤ 9223372036854775807 := hk.2
  simp [Lit.wf, hk.1, h9]
theorem arr2 {cs : Array Value} {x0 x1 : Value} (hsz : cs.size = 2) (h0 : cs[0]? = some x0) (h1 : cs[1]? = some x1) : cs = #[x0, x1] := by
  obtain ⟨l⟩ := cs
  match l, hsz with
  | [a, b], _ => simp_all
theorem agg2 {P : Program} {w : World} {r : Reach} {b : Nat} {t e : TypeId} {v : Value} {fs : Array Field} (hs : P.underlying t = some (.struct fs)) (hC : P.cellsOf t = 2)
    (ht : P.cellTypes P.depth t = some [e, e]) (he : P.underlying e = some (.int .i64)) (hv : Value.okWide P w r b t v) :
    ∃ x0 x1 : Int, v = .agg #[.int .i64 x0, .int .i64 x1] ∧ (Lit.int .i64 x0).wf = true ∧ (Lit.int .i64 x1).wf = true := by
  obtain ⟨cs, rfl, hsz, h⟩ := agg_ints hs hC ht he hv
  obtain ⟨x0, e0, w0⟩ := h 0 (by omega)
  obtain ⟨x1, e1, w1⟩ := h 1 (by omega)
  exact ⟨x0, x1, by rw [arr2 hsz e0 e1], w0, w1⟩
end Go.Proofs.Ytbiijcehgiibeaa.O

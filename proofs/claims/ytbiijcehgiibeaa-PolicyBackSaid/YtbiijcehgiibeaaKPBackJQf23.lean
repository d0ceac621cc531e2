/- A text that a program of this session wrote (wip/qprint.py, over the kit's printer): Lean functions with the same answers as Go functions of the program, and proofs that the calls come to these answers; where a function is named in wip/ext, its definition and proof were written by hand. · Proved here: the plain law of PolicyBack: its inputs' bounds are those of the contract. · Proved here: an argument that is a struct of whole numbers is an aggregate of whole numbers that fit. No program in sight. -/
import Derived.Test.YtbiijcehgiibeaaKPBackHp6
import Derived.Test.YtbiijcehgiibeaaKPBackJHw
import Derived.WalkKit
import Derived.ProofKit
import Derived.OpenShut
namespace Go.Proofs.Ytbiijcehgiibeaa.Q
open Go.RowKit Go.Proofs.YtbiijcehgiibeaaW.PrintWords Go.Proofs.YtbiijcehgiibeaaW.PrintLast Go.Proofs.YtbiijcehgiibeaaW.PrintMore
attribute [local go_sem] max2_int min2_int max_two min_two max_three min_three max_four min_four   -- for this text's walks alone
set_option linter.unusedVariables false
set_option linter.unusedSimpArgs false
def reevelaw04_PolicyBack.f (a0_0 : Int) (a0_1 : Int) (a0_2 : Int) (a0_3 : Int) (a0_4 : Int) (a0_5 : Int) (a0_6 : Int) (a0_7 : Int) (a0_8 : Int) (a0_9 : Int) (l1 : List Int) (a2 : Int) (a3 : Int) (a4 : Int) : Option (Bool) := if M.bytes l1 = true ∧ l1.length ≤ 140737488351232 ∧ (-9223372036854775808 ≤ a2 ∧ a2 ≤ 9223372036854775807) ∧ (-9223372036854775808 ≤ a3 ∧ a3 ≤ 9223372036854775807) ∧ (0 ≤ a4 ∧ a4 < 256) then some true else none
theorem reevelaw04_PolicyBack.calls (a0_0 : Int) (a0_1 : Int) (a0_2 : Int) (a0_3 : Int) (a0_4 : Int) (a0_5 : Int) (a0_6 : Int) (a0_7 : Int) (a0_8 : Int) (a0_9 : Int) (A1 : Option Addr) (c1 : Nat) (l1 : List Int) (a2 : Int) (a3 : Int) (a4 : Int) (r : Bool) (w : World) (hr1 : Kd.C (Kd.int .u8) w A1 l1.length l1) (hc1 : l1.length ≤ c1) (h : reevelaw04_PolicyBack.f a0_0 a0_1 a0_2 a0_3 a0_4 a0_5 a0_6 a0_7 a0_8 a0_9 l1 a2 a3 a4 = some r) :
    Calls Try.prog 23 #[.agg #[.int .i64 a0_0, .int .i64 a0_1, .int .i64 a0_2, .int .i64 a0_3, .int .i64 a0_4, .int .i64 a0_5, .int .i64 a0_6, .int .i64 a0_7, .int .i64 a0_8, .int .i64 a0_9], .slice A1 l1.length c1, .int .i64 a2, .int .i64 a3, .int .u8 a4] w fun e w' => e = .returned (.bool r) ∧ Below w.heap.size w w' := by
  unfold reevelaw04_PolicyBack.f at h
  by_cases c : M.bytes l1 = true ∧ l1.length ≤ 140737488351232 ∧ (-9223372036854775808 ≤ a2 ∧ a2 ≤ 9223372036854775807) ∧ (-9223372036854775808 ≤ a3 ∧ a3 ≤ 9223372036854775807) ∧ (0 ≤ a4 ∧ a4 < 256)
  · rw [if_pos c] at h
    obtain rfl := Option.some.inj h
    exact H.back_ext ⟨a0_0, a0_1, a0_2, a0_3, a0_4, a0_5, a0_6, a0_7, a0_8, a0_9⟩ A1 c1 l1 a2 a3 a4 w hr1 hc1 c.1 c.2.1 c.2.2.1 c.2.2.2.1 c.2.2.2.2
  · rw [if_neg c] at h
    cases h
end Go.Proofs.Ytbiijcehgiibeaa.Q
namespace Go.Proofs.Ytbiijcehgiibeaa.Pure
open Go.RowKit Go.Proofs.Ytbiijcehgiibeaa.Q Go.Proofs.YtbiijcehgiibeaaW.PrintWords
theorem PolicyBack (a0 a1 a2 a3 a4 a5 a6 a7 a8 a9 : Int) (l : List Int) (cut at_ to_ : Int) (_ : (Lit.int .i64 a0).wf = true) (_ : (Lit.int .i64 a1).wf = true) (_ : (Lit.int .i64 a2).wf = true) (_ : (Lit.int .i64 a3).wf = true) (_ : (Lit.int .i64 a4).wf = true) (_ : (Lit.int .i64 a5).wf = true) (_ : (Lit.int .i64 a6).wf = true) (_ : (Lit.int .i64 a7).wf = true) (_ : (Lit.int .i64 a8).wf = true) (_ : (Lit.int .i64 a9).wf = true)
    (y : l.length * 1 ≤ 140737488351232) (hw : ∀ x ∈ l, (Lit.int .u8 x).wf = true) (w2 : (Lit.int .i64 cut).wf = true) (w3 : (Lit.int .i64 at_).wf = true) (w4 : (Lit.int .u8 to_).wf = true) : reevelaw04_PolicyBack.f a0 a1 a2 a3 a4 a5 a6 a7 a8 a9 l cut at_ to_ = some true := by
  unfold reevelaw04_PolicyBack.f
  rw [if_pos ⟨bytes_of hw, by omega, i64_of w2, i64_of w3, u8_of w4⟩]
end Go.Proofs.Ytbiijcehgiibeaa.Pure
namespace Go.Proofs.Ytbiijcehgiibeaa.O
open Go.ChangeShapes Go.WideShapes Go.ChangeAt Go.RowKit
theorem agg_ints {P : Program} {w : World} {r : Reach} {b : Nat} {t e : TypeId} {v : Value} {n : Nat} {fs : Array Field} (hs : P.underlying t = some (.struct fs)) (hC : P.cellsOf t = n)
    (ht : P.cellTypes P.depth t = some (List.replicate n e)) (he : P.underlying e = some (.int .i64)) (hv : Value.okWide P w r b t v) :
    ∃ cs : Array Value, v = .agg cs ∧ cs.size = n ∧ ∀ i, i < n → ∃ x, cs[i]? = some (.int .i64 x) ∧ (Lit.int .i64 x).wf = true := by
  unfold Value.okWide at hv
  rw [hs] at hv
  obtain ⟨cs, rfl, hsz, hr⟩ := hv
  rw [hC] at hsz
  refine ⟨cs, rfl, hsz, fun i hi => ?_⟩
  obtain ⟨ts, h1, _, h2⟩ := hr
  rw [ht] at h1
  cases h1
  obtain ⟨u, h3, h4⟩ := h2 i (cs[i]'(by omega)) (Array.getElem?_eq_getElem (by omega))
  have hu : u = e := by
    have := List.mem_of_getElem? h3
    exact (List.mem_replicate.1 this).2
  subst hu
  generalize hc : cs[i]'(by omega) = c at h4
  unfold Cell.okWide Cell.ok at h4
  rw [he] at h4
  cases c <;> simp only at h4 <;> try exact h4.elim
  rename_i k x
  obtain ⟨rfl, hk⟩ := h4
  refine ⟨x, by rw [Array.getElem?_eq_getElem (by omega), hc], ?_⟩
  unfold IntKind.has at hk
  have h9 : x ≤ 9223372036854775807 := hk.2
  simp [Lit.wf, hk.1, h9]
theorem arr10 {cs : Array Value} {x0 x1 x2 x3 x4 x5 x6 x7 x8 x9 : Value} (hsz : cs.size = 10) (h0 : cs[0]? = some x0) (h1 : cs[1]? = some x1) (h2 : cs[2]? = some x2) (h3 : cs[3]? = some x3) (h4 : cs[4]? = some x4) (h5 : cs[5]? = some x5) (h6 : cs[6]? = some x6) (h7 : cs[7]? = some x7) (h8 : cs[8]? = some x8) (h9 : cs[9]? = some x9) : cs = #[x0, x1, x2, x3, x4, x5, x6, x7, x8, x9] := by
  obtain ⟨l⟩ := cs
  match l, hsz with
  | [a, b, c, d, e, f, g, h, i, j], _ => simp_all
theorem agg10 {P : Program} {w : World} {r : Reach} {b : Nat} {t e : TypeId} {v : Value} {fs : Array Field} (hs : P.underlying t = some (.struct fs)) (hC : P.cellsOf t = 10)
    (ht : P.cellTypes P.depth t = some [e, e, e, e, e, e, e, e, e, e]) (he : P.underlying e = some (.int .i64)) (hv : Value.okWide P w r b t v) :
    ∃ x0 x1 x2 x3 x4 x5 x6 x7 x8 x9 : Int, v = .agg #[.int .i64 x0, .int .i64 x1, .int .i64 x2, .int .i64 x3, .int .i64 x4, .int .i64 x5, .int .i64 x6, .int .i64 x7, .int .i64 x8, .int .i64 x9] ∧ (Lit.int .i64 x0).wf = true ∧ (Lit.int .i64 x1).wf = true ∧ (Lit.int .i64 x2).wf = true ∧ (Lit.int .i64 x3).wf = true ∧ (Lit.int .i64 x4).wf = true ∧ (Lit.int .i64 x5).wf = true ∧ (Lit.int .i64 x6).wf = true ∧ (Lit.int .i64 x7).wf = true ∧ (Lit.int .i64 x8).wf = true ∧ (Lit.int .i64 x9).wf = true := by
  obtain ⟨cs, rfl, hsz, h⟩ := agg_ints hs hC ht he hv
  obtain ⟨x0, e0, w0⟩ := h 0 (by omega)
  obtain ⟨x1, e1, w1⟩ := h 1 (by omega)
  obtain ⟨x2, e2, w2⟩ := h 2 (by omega)
  obtain ⟨x3, e3, w3⟩ := h 3 (by omega)
  obtain ⟨x4, e4, w4⟩ := h 4 (by omega)
  obtain ⟨x5, e5, w5⟩ := h 5 (by omega)
  obtain ⟨x6, e6, w6⟩ := h 6 (by omega)
  obtain ⟨x7, e7, w7⟩ := h 7 (by omega)
  obtain ⟨x8, e8, w8⟩ := h 8 (by omega)
  obtain ⟨x9, e9, w9⟩ := h 9 (by omega)
  exact ⟨x0, x1, x2, x3, x4, x5, x6, x7, x8, x9, by rw [arr10 hsz e0 e1 e2 e3 e4 e5 e6 e7 e8 e9], w0, w1, w2, w3, w4, w5, w6, w7, w8, w9⟩
end Go.Proofs.Ytbiijcehgiibeaa.O

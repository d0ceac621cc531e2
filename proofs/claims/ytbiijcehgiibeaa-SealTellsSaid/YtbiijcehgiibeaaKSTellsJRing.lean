/- Proved here, in whole numbers: adding bytes to a seal is injective in the seal and in each byte; it is linear in the seal; joined seals are seals of joined bytes. No program in sight. · Proved here: what the small printed functions of reevelaw02 come to (the wake, Fold, Of), and seal.Add where its seal is right. · Proved here: of two rows of bytes of one length that differ in one byte the seals are unlike: the plain statement of SealTells, over the printed function. Conditions: its hypotheses. · Proved here: an argument that is a struct of whole numbers is an aggregate of whole numbers that fit. No program in sight. -/
import Derived.Test.YtbiijcehgiibeaaKSTellsJFloat
import Derived.Test.YtbiijcehgiibeaaKSTellsQg4
import Derived.Test.YtbiijcehgiibeaaKSTellsQf4
import Derived.WalkKit
import Derived.ProofKit
import Derived.OpenShut
namespace Go.Proofs.Ytbiijcehgiibeaa.M
theorem emod_eq {a b : Int} (h : a % 16777199 = b % 16777199) : ∃ k, a - b = 16777199 * k := ⟨a / 16777199 - b / 16777199, by omega⟩
theorem step_inj {x y : Int × Int} {c : Int} (hx : right x.1 x.2 = true) (hy : right y.1 y.2 = true) (h : step x c = step y c) : x = y := by
  obtain ⟨x1, x2⟩ := x
  obtain ⟨y1, y2⟩ := y
  obtain ⟨a1, a2, a3, a4⟩ := right_iff.1 hx
  obtain ⟨b1, b2, b3, b4⟩ := right_iff.1 hy
  have h1 := congrArg Prod.fst h
  have h2 := congrArg Prod.snd h
  unfold step at h1 h2
  simp only at h1 h2 a1 a2 a3 a4 b1 b2 b3 b4
  obtain ⟨k1, e1⟩ := emod_eq h1
  obtain ⟨k2, e2⟩ := emod_eq h2
  clear h h1 h2 hx hy
  have f1 : 13583419 * (x1 * 69069 - x2 * 362437 + (c + 1) - (y1 * 69069 - y2 * 362437 + (c + 1))) - 4082763 * (x1 * 362437 + x2 * 69069 - (y1 * 362437 + y2 * 69069)) = 13583419 * (16777199 * k1) - 4082763 * (16777199 * k2) := by rw [e1, e2]
  have f2 : 4082763 * (x1 * 69069 - x2 * 362437 + (c + 1) - (y1 * 69069 - y2 * 362437 + (c + 1))) + 13583419 * (x1 * 362437 + x2 * 69069 - (y1 * 362437 + y2 * 69069)) = 4082763 * (16777199 * k1) + 13583419 * (16777199 * k2) := by rw [e1, e2]
  clear e1 e2
  have hu : x1 - y1 = 16777199 * (13583419 * k1 - 4082763 * k2 - (-32279) * (x1 - y1) + 310250 * (x2 - y2)) := by grind
  have hv : x2 - y2 = 16777199 * (4082763 * k1 + 13583419 * k2 - 310250 * (x1 - y1) - (-32279) * (x2 - y2)) := by grind
  generalize 13583419 * k1 - 4082763 * k2 - (-32279) * (x1 - y1) + 310250 * (x2 - y2) = m1 at hu
  generalize 4082763 * k1 + 13583419 * k2 - 310250 * (x1 - y1) - (-32279) * (x2 - y2) = m2 at hv
  clear f1 f2
  have e3 : x1 = y1 := by omega
  have e4 : x2 = y2 := by omega
  rw [e3, e4]
theorem add_inj (l : List Int) : ∀ {x y : Int × Int}, right x.1 x.2 = true → right y.1 y.2 = true → add x l = add y l → x = y := by
  induction l with
  | nil => exact fun _ _ h => h
  | cons c l ih => exact fun hx hy h => step_inj hx hy (ih (step_right _ _) (step_right _ _) h)
theorem step_byte {x : Int × Int} {c d : Int} (h0 : 0 ≤ c) (h1 : c < 256) (h2 : 0 ≤ d) (h3 : d < 256) : step x c = step x d ↔ c = d := by
  constructor
  · intro h
    have h1 := congrArg Prod.fst h
    unfold step at h1
    simp only at h1
    obtain ⟨k, e⟩ := emod_eq h1
    omega
  · rintro rfl; rfl
theorem add_append (x : Int × Int) (a b : List Int) : add x (a ++ b) = add (add x a) b := List.foldl_append
theorem add_set {x : Int × Int} {l : List Int} {i : Nat} {d : Int} (hl : bytes l = true) (hi : i < l.length) (h0 : 0 ≤ d) (h1 : d < 256) : add x l = add x (l.set i d) ↔ l.getD i 0 = d := by
  have hs : l = l.take i ++ l.getD i 0 :: l.drop (i + 1) := by
    rw [List.getD_eq_getElem?_getD, List.getElem?_eq_getElem hi]
    simp
  have ht : l.set i d = l.take i ++ d :: l.drop (i + 1) := by
    rw [List.set_eq_take_append_cons_drop, if_pos hi]
  have hb := bytes_getD hl i
  have e1 : add x l = add (step (add x (l.take i)) (l.getD i 0)) (l.drop (i + 1)) := by
    conv => lhs; rw [hs]
    rw [add_append]; rfl
  have e2 : add x (l.set i d) = add (step (add x (l.take i)) d) (l.drop (i + 1)) := by
    rw [ht, add_append]; rfl
  rw [e1, e2]
  constructor
  · intro h
    exact (step_byte hb.1 hb.2 h0 h1).1 (add_inj _ (step_right _ _) (step_right _ _) h)
  · intro h; rw [h]
end Go.Proofs.Ytbiijcehgiibeaa.M
namespace Go.Proofs.Ytbiijcehgiibeaa.Pure
open Go.RowKit Go.Proofs.Ytbiijcehgiibeaa.Q Go.Proofs.YtbiijcehgiibeaaW.PrintWords
theorem awake02 : reevelaw02_awake.f = some true := by decide +kernel
theorem tmod_P (n : Int) : n.tmod 16777199 = if 0 ≤ n then n % 16777199 else -((-n) % 16777199) := by
  split
  · exact Int.tmod_eq_emod_of_nonneg ‹_›
  · have := Int.neg_tmod (a := -n) (b := 16777199)
    rw [Int.neg_neg] at this
    rw [this, Int.tmod_eq_emod_of_nonneg (by omega)]
theorem fold_mod (n : Int) : (if (n.tmod 16777199) < 0 then some (wrap64 ((n.tmod 16777199) + 16777199)) else some (n.tmod 16777199)) = some (n % 16777199) := by
  rw [tmod_P]
  by_cases h : 0 ≤ n
  · rw [if_pos h, if_neg (by omega)]
  · rw [if_neg h]
    by_cases h2 : -(-n % 16777199) < 0
    · rw [if_pos h2]
      have : wrap64 (-(-n % 16777199) + 16777199) = n % 16777199 := by unfold wrap64; omega
      rw [this]
    · rw [if_neg h2]
      congr 1
      omega
theorem fold (n : Int) : reevelaw02_Fold.f n = some (n % 16777199) := fold_mod n
theorem of (a b : Int) : reevelaw02_Of.f a b = some (a % 16777199, b % 16777199) := by
  unfold reevelaw02_Of.f
  rw [fold, fold]
  rfl
theorem of_right (a b : Int) : M.right (a % 16777199) (b % 16777199) = true := by rw [M.right_iff]; omega
theorem bytes_of {l : List Int} (h : ∀ x ∈ l, (Lit.int .u8 x).wf = true) : M.bytes l = true := by
  unfold M.bytes
  rw [List.all_eq_true]
  intro x hx
  have := h x hx
  simp only [Lit.wf, Bool.and_eq_true, decide_eq_true_eq] at this
  have h1 : (0 : Int) ≤ x := this.1
  have h2 : x ≤ 255 := this.2
  exact decide_eq_true (by omega)
theorem u8_of {x : Int} (h : (Lit.int .u8 x).wf = true) : 0 ≤ x ∧ x < 256 := by
  simp only [Lit.wf, Bool.and_eq_true, decide_eq_true_eq] at h
  have h1 : (0 : Int) ≤ x := h.1
  have h2 : x ≤ 255 := h.2
  omega
theorem add_ok {a b : Int} {l : List Int} (h : M.right a b = true) (hb : M.bytes l = true) (hl : (l.length : Int) ≤ 9223372036854775807) : seal_Add.f a b l = some ((M.add (a, b) l).1, (M.add (a, b) l).2, 0) := by
  unfold seal_Add.f
  rw [if_pos h, if_pos hb, if_pos hl]
end Go.Proofs.Ytbiijcehgiibeaa.Pure
namespace Go.Proofs.Ytbiijcehgiibeaa.Pure
open Go.RowKit Go.Proofs.Ytbiijcehgiibeaa.Q Go.Proofs.YtbiijcehgiibeaaW.PrintWords
set_option linter.unusedVariables false
set_option linter.unusedSimpArgs false
theorem place_in {a n : Int} (hn : 0 < n) (ha : n ≤ 140737488351232) : (if a.tmod n < 0 then 0 ≤ wrap64 (a.tmod n + n) ∧ wrap64 (a.tmod n + n) < n else 0 ≤ a.tmod n ∧ a.tmod n < n) := by
  have h1 : a.tmod n < n := Int.tmod_lt_of_pos a hn
  have h2 : -n < a.tmod n := Int.lt_tmod_of_pos a hn
  split
  · have : wrap64 (a.tmod n + n) = a.tmod n + n := by unfold wrap64; omega
    omega
  · omega
theorem set_bytes {l : List Int} {i : Nat} {d : Int} (hl : M.bytes l = true) (h0 : 0 ≤ d) (h1 : d < 256) : M.bytes (l.set i d) = true := by
  unfold M.bytes
  rw [List.all_eq_true]
  intro x hx
  rcases List.mem_or_eq_of_mem_set hx with h | h
  · exact decide_eq_true (M.bytes_mem hl x h)
  · subst h; exact decide_eq_true ⟨h0, h1⟩
theorem tells {a b : Int} {l : List Int} {d : Int} {i : Int} (h : M.right a b = true) (hl : M.bytes l = true) (h0 : 0 ≤ d) (h1 : d < 256) (hi : 0 ≤ i) (hn : i < l.length) (hlen : (l.length : Int) ≤ 140737488351232) :
    ((seal_Add.f a b l).bind fun x => (seal_Add.f a b (l.set i.toNat d)).bind fun y => if x.2.2 = 0 then if y.2.2 = 0 then if i < (l.length : Int) then some ((x.1 == y.1 && (x.2.1 == y.2.1)) == (rd l i == d)) else none else none else none) = some true := by
  rw [add_ok h hl (by omega), add_ok h (set_bytes hl h0 h1) (by rw [List.length_set]; omega)]
  simp only [Option.bind_some, if_true]
  rw [if_pos hn]
  congr 1
  have e := M.add_set (x := (a, b)) hl (show i.toNat < l.length by omega) h0 h1
  generalize M.add (a, b) l = x at e
  generalize M.add (a, b) (l.set i.toNat d) = y at e
  obtain ⟨x1, x2⟩ := x
  obtain ⟨y1, y2⟩ := y
  unfold rd
  generalize l.getD i.toNat 0 = c at e
  have e' : (x1 = y1 ∧ x2 = y2) ↔ c = d := by rw [← e]; simp
  by_cases hc : c = d
  · obtain ⟨rfl, rfl⟩ := e'.2 hc
    subst hc
    simp
  · have hc2 : (c == d) = false := by simpa using hc
    have : (x1 == y1 && (x2 == y2)) = false := by
      cases hxy : (x1 == y1 && (x2 == y2)) with
      | false => rfl
      | true =>
        simp at hxy
        exact absurd (e'.1 hxy) hc
    simp only [this, hc2]
    rfl
theorem SealTells (l0 : List Int) (a1 a2 a3_0 a3_1 : Int) (y : l0.length * 1 ≤ 140737488351232) (hw : ∀ x ∈ l0, (Lit.int .u8 x).wf = true) (w1 : (Lit.int .i64 a1).wf = true) (w2 : (Lit.int .u8 a2).wf = true) (w3 : (Lit.int .i64 a3_0).wf = true) (w4 : (Lit.int .i64 a3_1).wf = true) :
    ∃ k, reevelaw02_SealTells.f k l0 a1 a2 a3_0 a3_1 = some true := by
  refine ⟨1, ?_⟩
  have hb := bytes_of hw
  obtain ⟨d0, d1⟩ := u8_of w2
  unfold reevelaw02_SealTells.f
  rw [awake02]
  simp only [Option.bind_some, if_true, reevelaw02_SealTells.j0]
  by_cases h0 : l0.length = 0
  · rw [if_pos (by simp [h0])]
  · have hz : ((l0.length : Int) == 0) = false := by simpa using h0
    rw [hz, if_neg (by simp), of]
    simp only [Option.bind_some]
    rw [if_neg (by omega)]
    have hp := place_in (a := a1) (n := l0.length) (by omega) (by omega)
    have hl : ([] : List Int).length + l0.length < 140737488355328 := by simp only [List.length_nil]; omega
    by_cases hneg : a1.tmod (l0.length : Int) < 0
    · rw [if_pos hneg] at hp ⊢
      rw [if_pos hl]
      simp only [List.nil_append, Option.bind_some]
      rw [if_pos hp.1, if_pos hp.2]
      exact tells (of_right _ _) hb d0 d1 hp.1 hp.2 (by omega)
    · rw [if_neg hneg] at hp ⊢
      rw [if_pos hl]
      simp only [List.nil_append, Option.bind_some]
      rw [if_pos hp.1, if_pos hp.2]
      exact tells (of_right _ _) hb d0 d1 hp.1 hp.2 (by omega)
end Go.Proofs.Ytbiijcehgiibeaa.Pure
namespace Go.Proofs.Ytbiijcehgiibeaa.O
open Go.ChangeShapes Go.WideShapes Go.ChangeAt Go.RowKit
theorem agg_ints {P : Program} {w : World} {r : Reach} {b : Nat} {t e : TypeId} {v : Value} {n : Nat} {fs : Array Field} (hs : P.underlying t = some (.struct fs)) (hC : P.cellsOf t = n)
    (ht : P.cellTypes P.depth t = some (List.replicate n e)) (he : P.underlying e = some (.int .i64)) (hv : Value.okWide P w r b t v) :
    ∃ cs : Array Value, v = .agg cs ∧ cs.size = n ∧ ∀ i, i < n → ∃ x, cs[i]? = some (.int .i64 x) ∧ (Lit.int .i64 x).wf = true := by
  unfold Value.okWide at hv
  rw [hs] at hv
  obtain ⟨cs, rfl, hsz, hr⟩ := hv
  rw [hC] at hsz
  refine ⟨cs, rfl, hsz, fun i hi => ?_⟩
  obtain ⟨ts, h1, _, h2⟩ := hr
  rw [ht] at h1
  cases h1
  obtain ⟨u, h3, h4⟩ := h2 i (cs[i]'(by omega)) (Array.getElem?_eq_getElem (by omega))
  have hu : u = e := by
    have := List.mem_of_getElem? h3
    exact (List.mem_replicate.1 this).2
  subst hu
  generalize hc : cs[i]'(by omega) = c at h4
  unfold Cell.okWide Cell.ok at h4
  rw [he] at h4
  cases c <;> simp only at h4 <;> try exact h4.elim
  rename_i k x
  obtain ⟨rfl, hk⟩ := h4
  refine ⟨x, by rw [Array.getElem?_eq_getElem (by omega), hc], ?_⟩
  unfold IntKind.has at hk
  have h9 : x ≤ 9223372036854775807 := hk.2
  simp [Lit.wf, hk.1, h9]
theorem arr2 {cs : Array Value} {x0 x1 : Value} (hsz : cs.size = 2) (h0 : cs[0]? = some x0) (h1 : cs[1]? = some x1) : cs = #[x0, x1] := by
  obtain ⟨l⟩ := cs
  match l, hsz with
  | [a, b], _ => simp_all
theorem agg2 {P : Program} {w : World} {r : Reach} {b : Nat} {t e : TypeId} {v : Value} {fs : Array Field} (hs : P.underlying t = some (.struct fs)) (hC : P.cellsOf t = 2)
    (ht : P.cellTypes P.depth t = some [e, e]) (he : P.underlying e = some (.int .i64)) (hv : Value.okWide P w r b t v) :
    ∃ x0 x1 : Int, v = .agg #[.int .i64 x0, .int .i64 x1] ∧ (Lit.int .i64 x0).wf = true ∧ (Lit.int .i64 x1).wf = true := by
  obtain ⟨cs, rfl, hsz, h⟩ := agg_ints hs hC ht he hv
  obtain ⟨x0, e0, w0⟩ := h 0 (by omega)
  obtain ⟨x1, e1, w1⟩ := h 1 (by omega)
  exact ⟨x0, x1, by rw [arr2 hsz e0 e1], w0, w1⟩
end Go.Proofs.Ytbiijcehgiibeaa.O

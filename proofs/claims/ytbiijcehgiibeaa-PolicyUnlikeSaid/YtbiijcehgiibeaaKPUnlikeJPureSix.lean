/- Proved here, in whole numbers: six bytes read at any place where a seal's bytes stand; and the way back. · Proved here, in whole numbers: a policy's header is read as the policy, whatever stands behind it; what is read is written as what was read; what is read hangs on the bytes up to its end; a beginning of a header is at fault, and so is a header with one of its last six bytes turned. · Proved here: the small case that each statement of layer 4 begins with comes out right. · Proved here: the plain law of PolicyUnlike: unlike policies have unlike headers, none a beginning of the other. · Proved here: an argument that is a struct of whole numbers is an aggregate of whole numbers that fit. No program in sight. -/
import Derived.Test.YtbiijcehgiibeaaKPUnlikeJSix
import Derived.Test.YtbiijcehgiibeaaKPUnlikeJPolg
import Derived.Test.YtbiijcehgiibeaaKPUnlikeJHap
import Derived.Test.YtbiijcehgiibeaaKPUnlikeHp2
import Derived.Test.YtbiijcehgiibeaaKPUnlikeJQg10
import Derived.Test.YtbiijcehgiibeaaKPUnlikeQf8
import Derived.WalkKit
import Derived.ProofKit
import Derived.OpenShut
namespace Go.Proofs.Ytbiijcehgiibeaa.M
theorem rd6_at {l : List Int} {x : Int × Int} (h : right x.1 x.2 = true) {a : Nat} {post : List Int} (hl : l.drop a = wr6 x ++ post) : rd6 l (a : Int) = (x.1, x.2, (a : Int) + 6, 0) := by
  have hlen := congrArg List.length hl
  simp only [List.length_drop, List.length_append, wr6_length] at hlen
  have h1 : (l.take a).length = a := by rw [List.length_take]; omega
  have h2 : l = l.take a ++ (wr6 x ++ post) := by rw [← hl, List.take_append_drop]
  have := rd6_wr6 h (l.take a) post
  rw [h1, ← h2] at this
  exact this
end Go.Proofs.Ytbiijcehgiibeaa.M
namespace Go.Proofs.Ytbiijcehgiibeaa.Pol
open Go.Proofs.Ytbiijcehgiibeaa
set_option linter.unusedVariables false
set_option linter.unusedSimpArgs false
theorem drop_behind {l a post : List Int} {i : Nat} (h : l.drop i = a ++ post) : l.drop (i + a.length) = post := by
  rw [← List.drop_drop, h, List.drop_left]
theorem rds_wr : ∀ (xs : List Int) (l : List Int) (a : Nat) (post : List Int), (∀ x ∈ xs, 0 ≤ x ∧ x ≤ 1048576) → l.drop a = xs.flatMap (Pure.wr 8) ++ post → rds l xs.length (a : Int) = (xs, (a : Int) + (xs.flatMap (Pure.wr 8)).length, 0) := by
  intro xs
  induction xs with
  | nil => intro l a post hx hl; simp [rds]
  | cons x xs ih =>
    intro l a post hx hl
    rw [List.flatMap_cons, List.append_assoc] at hl
    have h0 := hx x (by simp)
    have r := Pure.readn_wr l a x _ h0.1 (by omega) hl
    have r2 := ih l (a + (Pure.wr 8 x).length) post (fun y hy => hx y (by simp [hy])) (drop_behind hl)
    rw [show ((a + (Pure.wr 8 x).length : Nat) : Int) = (a : Int) + (Pure.wr 8 x).length by omega] at r2
    rw [List.length_cons, rds, r]
    simp only
    rw [if_pos trivial, r2, List.flatMap_cons, List.length_append]
    refine Prod.ext rfl (Prod.ext ?_ rfl)
    simp only
    omega
def hdr (p : Py) : List Int := body p ++ M.wr6 (M.add (1, 2) (body p))
theorem header_hdr {p : Py} (h : ok p = true) : header p = (hdr p, 0) := by unfold header hdr; rw [if_pos h]
theorem header_not {p : Py} (h : ok p = false) : header p = ([], 40) := by unfold header; rw [if_neg (by rw [h]; decide)]
theorem due_right (p : Py) : M.right (M.add (1, 2) (body p)).1 (M.add (1, 2) (body p)).2 = true := M.add_right _ _ (by decide)
theorem hdr_length (p : Py) : (hdr p).length = (body p).length + 6 := by unfold hdr; rw [List.length_append, M.wr6_length]
theorem eight_len (p : Py) : (eight p).length = 8 := by unfold eight; split <;> rfl
theorem ok_kind {p : Py} (h : ok p = true) : p.kind = 1 ∨ p.kind = 2 := by
  refine Decidable.byContradiction fun hn => ?_
  rw [ok_no (fun e => hn (.inl e)) (fun e => hn (.inr e))] at h
  cases h
theorem make_eight {p : Py} (h : ok p = true) : eight p = p.kind :: (eight p).drop 1 ∧ make p.kind ((eight p).drop 1) = p := by
  rcases ok_kind h with k | k
  · have hw : p.width = 0 ∧ p.count = 0 := by
      refine Decidable.byContradiction fun hn => ?_
      have : p.width ≠ 0 ∨ p.count ≠ 0 := by omega
      rw [ok_no1 k this] at h
      cases h
    unfold eight make
    rw [if_neg (by omega), if_pos k]
    refine ⟨rfl, ?_⟩
    obtain ⟨a0, a1, a2, a3, a4, a5, a6, a7, a8, a9⟩ := p
    simp only at hw
    obtain ⟨rfl, rfl⟩ := hw
    rfl
  · have hw : p.num = 0 ∧ p.den = 0 := by
      refine Decidable.byContradiction fun hn => ?_
      have : p.num ≠ 0 ∨ p.den ≠ 0 := by omega
      rw [ok_no2 k this] at h
      cases h
    unfold eight make
    rw [if_pos k, if_neg (by omega)]
    refine ⟨rfl, ?_⟩
    obtain ⟨a0, a1, a2, a3, a4, a5, a6, a7, a8, a9⟩ := p
    simp only at hw
    obtain ⟨rfl, rfl⟩ := hw
    rfl
theorem read_body {p : Py} (h : ok p = true) (rest : List Int) : read (body p ++ rest) = tail (body p ++ rest) p ((body p).length : Int) := by
  obtain ⟨h1, h2⟩ := make_eight h
  have hin := H.eight_in h
  have hb : body p ++ rest = reel ++ (Pure.wr 8 p.kind ++ (((eight p).drop 1).flatMap (Pure.wr 8) ++ rest)) := by
    unfold body
    rw [h1, List.flatMap_cons]
    simp only [List.append_assoc, List.drop_one, List.tail_cons]
  have hk : 0 ≤ p.kind ∧ p.kind ≤ 1048576 := hin _ (by rw [h1]; simp)
  have e4 : (body p ++ rest).take 4 = reel := by rw [hb]; rfl
  have d4 : (body p ++ rest).drop 4 = Pure.wr 8 p.kind ++ (((eight p).drop 1).flatMap (Pure.wr 8) ++ rest) := by rw [hb]; rfl
  have r1 := Pure.readn_wr _ 4 p.kind _ hk.1 (by omega) d4
  have r2 := rds_wr ((eight p).drop 1) _ (4 + (Pure.wr 8 p.kind).length) rest (fun x hx => hin x (List.mem_of_mem_drop hx)) (drop_behind d4)
  have hl7 : ((eight p).drop 1).length = 7 := by rw [List.length_drop, eight_len]
  rw [hl7, show ((4 + (Pure.wr 8 p.kind).length : Nat) : Int) = ((4 : Nat) : Int) + (Pure.wr 8 p.kind).length by omega] at r2
  unfold read
  rw [if_pos e4]
  rw [show ((4 : Nat) : Int) = 4 from rfl] at r1 r2
  rw [r1]
  simp only
  rw [if_pos trivial, if_pos (ok_kind h), r2]
  simp only
  rw [if_pos trivial, h2]
  congr 1
  have : (body p).length = 4 + ((Pure.wr 8 p.kind).length + (((eight p).drop 1).flatMap (Pure.wr 8)).length) := by
    unfold body
    rw [h1, List.flatMap_cons, List.length_append, List.length_append, show reel.length = 4 from rfl]
    rfl
  omega
theorem take_body (p : Py) (rest : List Int) : (body p ++ rest).take ((body p).length : Int).toNat = body p := by rw [Int.toNat_natCast, List.take_left]
theorem read_hdr {p : Py} (h : ok p = true) (rest : List Int) : read (hdr p ++ rest) = (p, ((hdr p).length : Int), 0, 0) := by
  have e : hdr p ++ rest = body p ++ (M.wr6 (M.add (1, 2) (body p)) ++ rest) := by unfold hdr; rw [List.append_assoc]
  rw [e, read_body h]
  have r := M.rd6_at (due_right p) (a := (body p).length) (l := body p ++ (M.wr6 (M.add (1, 2) (body p)) ++ rest)) (post := rest) (by rw [List.drop_left])
  unfold tail
  rw [if_pos h, r]
  simp only
  rw [if_pos trivial, take_body, if_pos rfl, hdr_length]
  rfl
theorem hdr_inj {p q : Py} (hp : ok p = true) (hq : ok q = true) {x y : List Int} (h : hdr p ++ x = hdr q ++ y) : p = q := by
  have h1 := read_hdr hp x
  have h2 := read_hdr hq y
  rw [h, h2] at h1
  injection h1 with h1
  exact h1.symm
end Go.Proofs.Ytbiijcehgiibeaa.Pol
namespace Go.Proofs.Ytbiijcehgiibeaa.Pure
open Go.Proofs.Ytbiijcehgiibeaa.Q
theorem awake04 : reevelaw04_awake.f = some true := rfl
end Go.Proofs.Ytbiijcehgiibeaa.Pure
namespace Go.Proofs.Ytbiijcehgiibeaa.Pure
open Go.RowKit Go.Proofs.Ytbiijcehgiibeaa.Q Go.Proofs.YtbiijcehgiibeaaW.PrintWords
set_option linter.unusedVariables false
set_option linter.unusedSimpArgs false
theorem py_eq (p q : Pol.Py) : (p.kind == q.kind && (p.cap == q.cap && (p.num == q.num && (p.den == q.den && (p.width == q.width && (p.count == q.count && (p.keys == q.keys && (p.slots == q.slots && (p.every == q.every && (p.seg == q.seg)))))))))) = decide (p = q) := by
  rw [Bool.eq_iff_iff]
  simp only [Bool.and_eq_true, beq_iff_eq, decide_eq_true_eq]
  obtain ⟨a0, a1, a2, a3, a4, a5, a6, a7, a8, a9⟩ := p
  obtain ⟨b0, b1, b2, b3, b4, b5, b6, b7, b8, b9⟩ := q
  simp only [Pol.Py.mk.injEq]
theorem py_ne (p q : Pol.Py) : (!(p.kind == q.kind) || (!(p.cap == q.cap) || (!(p.num == q.num) || (!(p.den == q.den) || (!(p.width == q.width) || (!(p.count == q.count) || (!(p.keys == q.keys) || (!(p.slots == q.slots) || (!(p.every == q.every) || (!(p.seg == q.seg))))))))))) = !decide (p = q) := by
  rw [← py_eq]
  simp only [Bool.not_and]
theorem take_eq {p q : Pol.Py} (hp : Pol.ok p = true) (hq : Pol.ok q = true) {n : Nat} (hn : n = min (Pol.hdr p).length (Pol.hdr q).length) : (Pol.hdr p).take n = (Pol.hdr q).take n ↔ p = q := by
  constructor
  · intro h
    by_cases c : (Pol.hdr p).length ≤ (Pol.hdr q).length
    · rw [List.take_of_length_le (by omega)] at h
      refine Pol.hdr_inj hp hq (x := (Pol.hdr q).drop n) (y := []) ?_
      rw [h, List.take_append_drop, List.append_nil]
    · have h' := h.symm
      rw [List.take_of_length_le (by omega)] at h'
      refine Pol.hdr_inj hp hq (x := []) (y := (Pol.hdr p).drop n) ?_
      rw [h', List.take_append_drop, List.append_nil]
  · rintro rfl
    rfl
theorem PolicyUnlike (a0 a1 a2 a3 a4 a5 a6 a7 a8 a9 b0 b1 b2 b3 b4 b5 b6 b7 b8 b9 : Int) (_ : (Lit.int .i64 a0).wf = true) (_ : (Lit.int .i64 a1).wf = true) (_ : (Lit.int .i64 a2).wf = true) (_ : (Lit.int .i64 a3).wf = true) (_ : (Lit.int .i64 a4).wf = true) (_ : (Lit.int .i64 a5).wf = true) (_ : (Lit.int .i64 a6).wf = true) (_ : (Lit.int .i64 a7).wf = true) (_ : (Lit.int .i64 a8).wf = true) (_ : (Lit.int .i64 a9).wf = true)
    (_ : (Lit.int .i64 b0).wf = true) (_ : (Lit.int .i64 b1).wf = true) (_ : (Lit.int .i64 b2).wf = true) (_ : (Lit.int .i64 b3).wf = true) (_ : (Lit.int .i64 b4).wf = true) (_ : (Lit.int .i64 b5).wf = true) (_ : (Lit.int .i64 b6).wf = true) (_ : (Lit.int .i64 b7).wf = true) (_ : (Lit.int .i64 b8).wf = true) (_ : (Lit.int .i64 b9).wf = true) :
    ∃ k, reevelaw04_PolicyUnlike.f k a0 a1 a2 a3 a4 a5 a6 a7 a8 a9 b0 b1 b2 b3 b4 b5 b6 b7 b8 b9 = some true := by
  refine ⟨100, ?_⟩
  have e1 := py_eq ⟨a0, a1, a2, a3, a4, a5, a6, a7, a8, a9⟩ ⟨b0, b1, b2, b3, b4, b5, b6, b7, b8, b9⟩
  have e2 := py_ne ⟨a0, a1, a2, a3, a4, a5, a6, a7, a8, a9⟩ ⟨b0, b1, b2, b3, b4, b5, b6, b7, b8, b9⟩
  simp only at e1 e2
  unfold reevelaw04_PolicyUnlike.f
  rw [awake04, e1, e2]
  unfold policy_Header.f
  generalize (⟨a0, a1, a2, a3, a4, a5, a6, a7, a8, a9⟩ : Pol.Py) = p
  generalize (⟨b0, b1, b2, b3, b4, b5, b6, b7, b8, b9⟩ : Pol.Py) = q
  simp only [Option.bind_some]
  rw [if_pos trivial]
  by_cases hp : Pol.ok p = true
  · rw [Pol.header_hdr hp]
    simp only
    rw [if_pos trivial]
    by_cases hq : Pol.ok q = true
    · rw [Pol.header_hdr hq]
      simp only
      have hlp := H.body_len p
      have hlq := H.body_len q
      have h1 := Pol.hdr_length p
      have h2 := Pol.hdr_length q
      have hm : mn ((Pol.hdr p).length : Int) ((Pol.hdr q).length : Int) = ((min (Pol.hdr p).length (Pol.hdr q).length : Nat) : Int) := by unfold mn; split <;> omega
      rw [if_pos trivial, hm, if_pos (by omega), if_pos (by omega), if_pos (by omega), Int.toNat_natCast, same_ok (by rw [List.length_take]; omega) (by rw [List.length_take]; omega)]
      simp only [Option.bind_some]
      rw [show decide ((Pol.hdr p).take (min (Pol.hdr p).length (Pol.hdr q).length) = (Pol.hdr q).take (min (Pol.hdr p).length (Pol.hdr q).length)) = decide (p = q) from decide_eq_decide.2 (take_eq hp hq rfl)]
      rw [if_pos (by simp)]
      by_cases e : p = q
      · subst e
        simp
      · rw [if_pos (by simp [e])]
    · rw [Pol.header_not (by simpa using hq), if_neg (by decide)]
  · rw [Pol.header_not (by simpa using hp), if_neg (by decide)]
end Go.Proofs.Ytbiijcehgiibeaa.Pure
namespace Go.Proofs.Ytbiijcehgiibeaa.O
open Go.ChangeShapes Go.WideShapes Go.ChangeAt Go.RowKit
theorem agg_ints {P : Program} {w : World} {r : Reach} {b : Nat} {t e : TypeId} {v : Value} {n : Nat} {fs : Array Field} (hs : P.underlying t = some (.struct fs)) (hC : P.cellsOf t = n)
    (ht : P.cellTypes P.depth t = some (List.replicate n e)) (he : P.underlying e = some (.int .i64)) (hv : Value.okWide P w r b t v) :
    ∃ cs : Array Value, v = .agg cs ∧ cs.size = n ∧ ∀ i, i < n → ∃ x, cs[i]? = some (.int .i64 x) ∧ (Lit.int .i64 x).wf = true := by
  unfold Value.okWide at hv
  rw [hs] at hv
  obtain ⟨cs, rfl, hsz, hr⟩ := hv
  rw [hC] at hsz
  refine ⟨cs, rfl, hsz, fun i hi => ?_⟩
  obtain ⟨ts, h1, _, h2⟩ := hr
  rw [ht] at h1
  cases h1
  obtain ⟨u, h3, h4⟩ := h2 i (cs[i]'(by omega)) (Array.getElem?_eq_getElem (by omega))
  have hu : u = e := by
    have := List.mem_of_getElem? h3
    exact (List.mem_replicate.1 this).2
  subst hu
  generalize hc : cs[i]'(by omega) = c at h4
  unfold Cell.okWide Cell.ok at h4
  rw [he] at h4
  cases c <;> simp only at h4 <;> try exact h4.elim
  rename_i k x
  obtain ⟨rfl, hk⟩ := h4
  refine ⟨x, by rw [Array.getElem?_eq_getElem (by omega), hc], ?_⟩
  unfold IntKind.has at hk
  have h9 : x ≤ 9223372036854775807 := hk.2
  simp [Lit.wf, hk.1, h9]
theorem arr10 {cs : Array Value} {x0 x1 x2 x3 x4 x5 x6 x7 x8 x9 : Value} (hsz : cs.size = 10) (h0 : cs[0]? = some x0) (h1 : cs[1]? = some x1) (h2 : cs[2]? = some x2) (h3 : cs[3]? = some x3) (h4 : cs[4]? = some x4) (h5 : cs[5]? = some x5) (h6 : cs[6]? = some x6) (h7 : cs[7]? = some x7) (h8 : cs[8]? = some x8) (h9 : cs[9]? = some x9) : cs = #[x0, x1, x2, x3, x4, x5, x6, x7, x8, x9] := by
  obtain ⟨l⟩ := cs
  match l, hsz with
  | [a, b, c, d, e, f, g, h, i, j], _ => simp_all
theorem agg10 {P : Program} {w : World} {r : Reach} {b : Nat} {t e : TypeId} {v : Value} {fs : Array Field} (hs : P.underlying t = some (.struct fs)) (hC : P.cellsOf t = 10)
    (ht : P.cellTypes P.depth t = some [e, e, e, e, e, e, e, e, e, e]) (he : P.underlying e = some (.int .i64)) (hv : Value.okWide P w r b t v) :
    ∃ x0 x1 x2 x3 x4 x5 x6 x7 x8 x9 : Int, v = .agg #[.int .i64 x0, .int .i64 x1, .int .i64 x2, .int .i64 x3, .int .i64 x4, .int .i64 x5, .int .i64 x6, .int .i64 x7, .int .i64 x8, .int .i64 x9] ∧ (Lit.int .i64 x0).wf = true ∧ (Lit.int .i64 x1).wf = true ∧ (Lit.int .i64 x2).wf = true ∧ (Lit.int .i64 x3).wf = true ∧ (Lit.int .i64 x4).wf = true ∧ (Lit.int .i64 x5).wf = true ∧ (Lit.int .i64 x6).wf = true ∧ (Lit.int .i64 x7).wf = true ∧ (Lit.int .i64 x8).wf = true ∧ (Lit.int .i64 x9).wf = true := by
  obtain ⟨cs, rfl, hsz, h⟩ := agg_ints hs hC ht he hv
  obtain ⟨x0, e0, w0⟩ := h 0 (by omega)
  obtain ⟨x1, e1, w1⟩ := h 1 (by omega)
  obtain ⟨x2, e2, w2⟩ := h 2 (by omega)
  obtain ⟨x3, e3, w3⟩ := h 3 (by omega)
  obtain ⟨x4, e4, w4⟩ := h 4 (by omega)
  obtain ⟨x5, e5, w5⟩ := h 5 (by omega)
  obtain ⟨x6, e6, w6⟩ := h 6 (by omega)
  obtain ⟨x7, e7, w7⟩ := h 7 (by omega)
  obtain ⟨x8, e8, w8⟩ := h 8 (by omega)
  obtain ⟨x9, e9, w9⟩ := h 9 (by omega)
  exact ⟨x0, x1, x2, x3, x4, x5, x6, x7, x8, x9, by rw [arr10 hsz e0 e1 e2 e3 e4 e5 e6 e7 e8 e9], w0, w1, w2, w3, w4, w5, w6, w7, w8, w9⟩
end Go.Proofs.Ytbiijcehgiibeaa.O

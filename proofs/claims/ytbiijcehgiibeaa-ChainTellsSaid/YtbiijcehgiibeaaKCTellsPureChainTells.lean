/- Proved here: the plain law of ChainTells. -/
import Derived.Test.YtbiijcehgiibeaaKCTellsPureE
import Derived.Test.YtbiijcehgiibeaaKCTellsRing
import Derived.Test.YtbiijcehgiibeaaKCTellsQf17
namespace Go.Proofs.Ytbiijcehgiibeaa.Pure
open Go.RowKit Go.Proofs.Ytbiijcehgiibeaa.Q Go.Proofs.YtbiijcehgiibeaaW.PrintWords
theorem good_append : ∀ (ps : List (List Int)) (ls r : List S60) (x : S60), good x ps ls = ps.length → good x ps (ls ++ r) = ps.length
  | [], ls, r, x, _ => rfl
  | b :: ps, [], r, x, h => by simp [good] at h
  | b :: ps, l :: ls, r, x, h => by
    rw [List.cons_append]
    unfold good at h ⊢
    by_cases c : (next x b).2 = 0 ∧ eqv (next x b).1 l = true
    · rw [if_pos c] at h ⊢
      rw [List.length_cons] at h ⊢
      rw [good_append ps ls r _ (by omega)]
      omega
    · rw [if_neg c] at h
      simp at h
theorem good_cut : ∀ (ps : List (List Int)) (ls : List S60) (x : S60) (m : Nat), good x ps ls = ps.length → m ≤ ps.length → good x ps (ls.take m) = m
  | [], ls, x, m, _, hm => by
    have : m = 0 := by simpa using hm
    subst this
    rfl
  | b :: ps, [], x, m, h, hm => by simp [good] at h
  | b :: ps, l :: ls, x, m, h, hm => by
    cases m with
    | zero => rfl
    | succ m =>
      rw [List.take_succ_cons]
      unfold good at h ⊢
      by_cases c : (next x b).2 = 0 ∧ eqv (next x b).1 l = true
      · rw [if_pos c] at h ⊢
        rw [List.length_cons] at h hm
        rw [good_cut ps ls _ m (by omega) (by omega)]
        omega
      · rw [if_neg c] at h
        simp at h
theorem good_set : ∀ (ps : List (List Int)) (ls : List S60) (x : S60) (k : Nat) (b' : List Int), mk x ps = some ls → k < ps.length → b'.length = (ps.getD k []).length →
    (∀ z, M.add z (ps.getD k []) ≠ M.add z b') → good x (ps.set k b') ls = k
  | [], ls, x, k, b', _, h, _, _ => by simp at h
  | b :: ps, ls, x, k, b', hmk, hk, hl, hne => by
    unfold mk at hmk
    by_cases hc : (next x b).2 = 0
    · rw [if_pos hc] at hmk
      obtain ⟨l2, h2, rfl⟩ := Option.map_eq_some_iff.1 hmk
      obtain ⟨n1, n2, n3, n4⟩ := next_ok hc
      cases k with
      | zero =>
        rw [List.set_cons_zero]
        simp at hl hne
        unfold good
        rw [if_neg]
        rintro ⟨e1, e2⟩
        rw [eqv_iff, n4, next_eq n1 (by omega) n3] at e2
        injection e2 with _ _ e3
        injection e3 with e4 e5
        exact hne _ _ (Prod.ext e4.symm e5.symm)
      | succ k =>
        rw [List.set_cons_succ]
        unfold good
        rw [if_pos ⟨hc, eqv_iff.2 rfl⟩, good_set ps l2 _ k b' h2 (by simpa using hk) (by simpa using hl) (by simpa using hne)]
        omega
    · rw [if_neg hc] at hmk
      cases hmk
theorem mk_part : ∀ (ps : List (List Int)) (ls : List S60) (x : S60), mk x ps = some ls → ∀ b ∈ ps, (b.length : Int) ≤ 4194304
  | [], ls, x, _, b, hb => by simp at hb
  | c :: ps, ls, x, hmk, b, hb => by
    unfold mk at hmk
    by_cases hc : (next x c).2 = 0
    · rw [if_pos hc] at hmk
      obtain ⟨l2, h2, rfl⟩ := Option.map_eq_some_iff.1 hmk
      rcases List.mem_cons.1 hb with rfl | hb
      · exact (next_ok hc).2.1
      · exact mk_part ps l2 _ h2 b hb
    · rw [if_neg hc] at hmk
      cases hmk
theorem bytes_set {l : List Int} {i : Nat} {d : Int} (h : M.bytes l = true) (h0 : 0 ≤ d) (h1 : d < 256) : M.bytes (l.set i d) = true := by
  unfold M.bytes
  rw [List.all_eq_true]
  intro x hx
  rcases List.mem_or_eq_of_mem_set hx with hx | rfl
  · have := M.bytes_mem h x hx
    simpa using this
  · simpa using ⟨h0, h1⟩
theorem rows_set {ps : List (List Int)} (h : rows ps) {k : Nat} {b : List Int} (hb : b.length ≤ 9223372036854775807) (hc : M.bytes b = true) : rows (ps.set k b) := by
  refine ⟨by rw [List.length_set]; exact h.1, fun x hx => ?_⟩
  rcases List.mem_or_eq_of_mem_set hx with hx | rfl
  · exact h.2 x hx
  · exact ⟨hb, hc⟩
theorem tells2 {ps : List (List Int)} {ls : List S60} (hr : rows ps) (hmk : mk first ps = some ls) (hp : ps.length ≤ 10000) (a1 a2 a3 : Int) (h3 : 0 ≤ a3) (h3' : a3 < 256) {k : Nat} (hk : ps.length < k) (b : Bool) (hb : b = false → ps.length ≠ 0 ∧ 0 ≤ a1 ∧ 0 ≤ a2) :
    reevelaw03_ChainTells.j2 (k + 1) ps a1 a2 a3 ls b = some true := by
  obtain ⟨hl, hg, _⟩ := mk_len _ _ _ hmk
  simp only [reevelaw03_ChainTells.j2]
  cases b with
  | true => rw [if_pos rfl]
  | false =>
    obtain ⟨n0, n1, n2⟩ := hb rfl
    rw [if_neg (by decide), w64 (n := (ls.length : Int) - 1) (by omega) (by omega), if_pos (by omega), if_pos (by omega), ccheck hr (by omega)]
    simp only [Option.bind_some]
    have few : check ps (ls.take ((ls.length : Int) - 1).toNat) = (ps.length : Int) - 1 := by
      unfold check tell
      rw [good_cut ps ls first _ hg (by omega), if_neg (by omega)]
      omega
    have et : Int.tmod a1 (ps.length : Int) = a1 % (ps.length : Int) := Int.tmod_eq_emod_of_nonneg n1
    rw [few, et]
    have q0 := Int.emod_nonneg a1 (show (ps.length : Int) ≠ 0 by omega)
    have q1 := Int.emod_lt_of_pos a1 (show (0 : Int) < (ps.length : Int) by omega)
    obtain ⟨j, hj⟩ := Int.eq_ofNat_of_zero_le q0
    rw [hj] at q1 ⊢
    have hj' : j < ps.length := by omega
    rw [if_neg (by omega), w64 (n := (ps.length : Int) - 1) (by omega) (by omega), if_pos rfl, if_pos (by omega), if_pos (by omega)]
    have er : rd_L2 ps (j : Int) = ps.getD j [] := by unfold rd_L2; rw [Int.toNat_natCast]
    have hmem : ps.getD j [] ∈ ps := by
      rw [List.getD_eq_getElem?_getD, List.getElem?_eq_getElem hj']; exact List.getElem_mem hj'
    have hpl := mk_part _ _ _ hmk _ hmem
    have hby := (hr.2 _ hmem).2
    rw [er, Int.toNat_natCast]
    by_cases c0 : ((ps.getD j []).length : Int) = 0
    · rw [if_pos c0]
    · rw [if_neg c0, if_pos (by simp only [List.length_nil]; omega)]
      rw [if_pos (by simp only [List.length_nil]; omega), List.nil_append ps, List.nil_append (ps.getD j []), if_neg c0]
      have ei : Int.tmod a2 ((ps.getD j []).length : Int) = a2 % ((ps.getD j []).length : Int) := Int.tmod_eq_emod_of_nonneg n2
      have r0 := Int.emod_nonneg a2 c0
      have r1 := Int.emod_lt_of_pos a2 (show (0 : Int) < ((ps.getD j []).length : Int) by omega)
      rw [ei]
      obtain ⟨i, hi⟩ := Int.eq_ofNat_of_zero_le r0
      rw [hi] at r1 ⊢
      have hi' : i < (ps.getD j []).length := by omega
      rw [if_pos (by omega), if_pos (by omega), if_pos (by omega), Int.toNat_natCast, ccheck (rows_set hr (by rw [List.length_set]; omega) (bytes_set hby h3 h3')) (by rw [List.length_set]; omega)]
      simp only [Option.bind_some]
      have eb : rd (ps.getD j []) (i : Int) = (ps.getD j []).getD i 0 := by unfold rd; rw [Int.toNat_natCast]
      rw [eb]
      by_cases c1 : (ps.getD j []).getD i 0 = a3
      · have e1 : (ps.getD j []).set i a3 = ps.getD j [] := by
          subst c1
          apply List.ext_getElem?
          intro n
          by_cases hn : i = n
          · subst hn
            rw [List.getElem?_set_self hi', List.getD_eq_getElem?_getD, List.getElem?_eq_getElem hi']
            rfl
          · rw [List.getElem?_set_ne hn]
        have e2 : ps.set j (ps.getD j []) = ps := by
          apply List.ext_getElem?
          intro n
          by_cases hn : j = n
          · subst hn
            rw [List.getElem?_set_self hj', List.getD_eq_getElem?_getD, List.getElem?_eq_getElem hj']
            rfl
          · rw [List.getElem?_set_ne hn]
        have e3 : check ps ls = -1 := by
          unfold check tell
          rw [hg, if_pos ⟨rfl, by omega⟩]
        rw [if_pos c1, e1, e2, e3, if_pos rfl]
      · have e3 : check (ps.set j ((ps.getD j []).set i a3)) ls = (j : Int) := by
          unfold check tell
          rw [good_set ps ls first j _ hmk hj' (by rw [List.length_set]) (fun z hz => c1 ((M.add_set hby hi' h3 h3').1 hz)), if_neg (by rw [List.length_set]; omega)]
        rw [if_neg c1, if_neg c1, e3]
        simp
theorem ChainTells (ps : List (List Int)) (a1 a2 a3 : Int) (h : ps.length ≤ 9223372036854775807 ∧ ∀ x ∈ ps, x.length ≤ 9223372036854775807 ∧ ∀ y ∈ x, (Lit.int .u8 y).wf = true) (_ : (Lit.int .i64 a1).wf = true) (_ : (Lit.int .i64 a2).wf = true) (w3 : (Lit.int .u8 a3).wf = true) :
    ∃ k, reevelaw03_ChainTells.f k ps a1 a2 a3 = some true := by
  have hr := rows_of h
  obtain ⟨h3, h3'⟩ := u8_of w3
  refine ⟨ps.length + 14, ?_⟩
  unfold reevelaw03_ChainTells.f
  rw [show ps.length + 14 = (ps.length + 4) + 10 from rfl, awake03, links hr (by omega)]
  simp only [Option.bind_some, if_true]
  rw [show ps.length + 4 + 10 = (ps.length + 11) + 1 + 1 + 1 by omega]
  simp only [reevelaw03_ChainTells.j0]
  cases hmk : mk first ps with
  | none =>
    simp only [if_true, Bool.false_eq_true, if_false]
    by_cases c : (ps.length : Int) > 10000
    · rw [if_pos c]
    · rw [if_neg c, long h.1 (by omega)]
      simp only [Option.bind_some]
      congr 1
      rw [List.any_eq_true]
      rcases Classical.em (∃ b ∈ ps, (b.length : Int) > 4194304) with ⟨b, hb, hl⟩ | hn
      · exact ⟨b, hb, by simpa using hl⟩
      · exact absurd hmk (mk_no ps first (by decide) (by show (0 : Int) + _ ≤ _; omega) (fun b hb => by
          rcases Int.lt_or_le 4194304 (b.length : Int) with h1 | h1
          · exact absurd ⟨b, hb, h1⟩ hn
          · exact h1))
  | some l =>
    obtain ⟨hl, hg, hle⟩ := mk_len _ _ _ hmk
    have hp : ps.length ≤ 10000 := by
      by_cases c : ps = []
      · subst c; simp
      · have := hle c
        have e : first.f0 = 0 := rfl
        omega
    simp only [if_true]
    rw [if_neg (by simp only [decide_eq_true_eq]; omega), ccheck hr (by omega)]
    simp only [Option.bind_some, List.nil_append, List.length_nil]
    rw [if_pos (by omega), if_pos (by omega), ccheck hr (by omega)]
    have e1 : check ps l = -1 := by
      unfold check tell
      rw [hg, if_pos ⟨rfl, by omega⟩]
    have e2 : check ps (l ++ [(⟨0, 0, (⟨0, 0⟩ : S23)⟩ : S60)]) = (ps.length : Int) := by
      unfold check tell
      rw [good_append ps l _ first hg, if_neg (by simp; omega)]
    simp only [Option.bind_some]
    rw [e1, e2, if_pos rfl]
    simp only [reevelaw03_ChainTells.j1]
    rw [if_neg (by simp)]
    by_cases c1 : (ps.length : Int) = 0
    · rw [if_pos c1]
      exact tells2 hr hmk hp _ _ _ h3 h3' (by omega) _ (fun e => by cases e)
    · rw [if_neg c1]
      by_cases c2 : a1 < 0
      · rw [if_pos c2]
        exact tells2 hr hmk hp _ _ _ h3 h3' (by omega) _ (fun e => by cases e)
      · rw [if_neg c2]
        exact tells2 hr hmk hp _ _ _ h3 h3' (by omega) _ (fun e => by
          have := of_decide_eq_false e
          omega)
end Go.Proofs.Ytbiijcehgiibeaa.Pure

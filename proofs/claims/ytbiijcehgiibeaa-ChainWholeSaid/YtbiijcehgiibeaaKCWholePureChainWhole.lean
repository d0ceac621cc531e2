/- Proved here: the plain law of ChainWhole. -/
import Derived.Test.YtbiijcehgiibeaaKCWholePureE
import Derived.Test.YtbiijcehgiibeaaKCWholeQf15
namespace Go.Proofs.Ytbiijcehgiibeaa.Pure
open Go.RowKit Go.Proofs.Ytbiijcehgiibeaa.Q Go.Proofs.YtbiijcehgiibeaaW.PrintWords
theorem whole0 {ps : List (List Int)} {ls : List S60} (hr : rows ps) : ∀ (k i : Nat) (x : S60), i ≤ ps.length → ps.length - i < k → x.f0 = i → mk x (ps.drop i) = some (ls.drop i) → M.right x.f2.f0 x.f2.f1 = true →
    reevelaw03_ChainWhole.l0 k ps ls (i : Int) x.f2.f0 x.f2.f1 = some true := by
  intro k
  have hm0 := hr.1
  induction k with
  | zero => intro i x _ h; omega
  | succ k ih =>
    intro i x hi hk hx hmk hright
    simp only [reevelaw03_ChainWhole.l0]
    by_cases h : i < ps.length
    · have ep : ps.drop i = ps.getD i [] :: ps.drop (i + 1) := by
        rw [List.getD_eq_getElem?_getD, List.getElem?_eq_getElem h, List.drop_eq_getElem_cons h]; rfl
      have hmem : ps.getD i [] ∈ ps := by
        rw [List.getD_eq_getElem?_getD, List.getElem?_eq_getElem h]; exact List.getElem_mem h
      have er : rd_L2 ps (i : Int) = ps.getD i [] := by unfold rd_L2; rw [Int.toNat_natCast]
      have hlen := (mk_len _ _ _ hmk).1
      rw [List.length_drop, List.length_drop] at hlen
      have hil : i < ls.length := by omega
      have el : ls.drop i = ls.getD i z60 :: ls.drop (i + 1) := by
        rw [List.getD_eq_getElem?_getD, List.getElem?_eq_getElem hil, List.drop_eq_getElem_cons hil]; rfl
      have et : rd_T60 ls (i : Int) = ls.getD i z60 := by unfold rd_T60; rw [Int.toNat_natCast]
      rw [ep, el] at hmk
      unfold mk at hmk
      by_cases hc : (next x (ps.getD i [])).2 = 0
      · rw [if_pos hc] at hmk
        obtain ⟨l2, h2, h3⟩ := Option.map_eq_some_iff.1 hmk
        obtain ⟨e1, e2⟩ := List.cons.inj h3
        obtain ⟨n1, n2, n3, n4⟩ := next_ok hc
        have n5 := may_iff.1 n1
        rw [if_pos (by omega), if_pos (by omega), er, et, ← e1, addp_ok (x := (x.f2.f0, x.f2.f1)) hright (hr.2 _ hmem).2 (by have := (hr.2 _ hmem).1; omega)]
        simp only [Option.bind_some]
        rw [if_pos trivial, if_pos (by omega), w64 (n := (i : Int) + 1) (by omega) (by omega)]
        have hnx := n4
        rw [n4]
        simp only
        rw [if_neg (by simp [hx])]
        rw [show ((i : Int) + 1) = ((i + 1 : Nat) : Int) by omega]
        subst e2
        have hm2 := next_may hc
        have := ih (i + 1) (next x (ps.getD i [])).1 (by omega) (by omega) (by rw [n4]; simp only; omega) h2 (may_iff.1 hm2).2
        rw [n4] at this
        exact this
      · rw [if_neg hc] at hmk
        cases hmk
    · rw [if_neg (by omega)]
theorem ChainWhole (ps : List (List Int)) (h : ps.length ≤ 9223372036854775807 ∧ ∀ x ∈ ps, x.length ≤ 9223372036854775807 ∧ ∀ y ∈ x, (Lit.int .u8 y).wf = true) : ∃ k, reevelaw03_ChainWhole.f k ps = some true := by
  have hr := rows_of h
  refine ⟨ps.length + 10, ?_⟩
  unfold reevelaw03_ChainWhole.f
  rw [awake03, links hr (by omega)]
  simp only [Option.bind_some, if_true]
  rw [show ps.length + 10 = (ps.length + 9) + 1 from rfl]
  simp only [reevelaw03_ChainWhole.j0]
  cases hmk : mk first ps with
  | none =>
    simp only [Bool.not_false, if_true]
    by_cases c : (ps.length : Int) > 10000
    · rw [if_pos c]
    · rw [if_neg c, long h.1 (by omega)]
      simp only [Option.bind_some]
      congr 1
      rw [List.any_eq_true]
      rcases Classical.em (∃ b ∈ ps, (b.length : Int) > 4194304) with ⟨b, hb, hl⟩ | hn
      · exact ⟨b, hb, by simpa using hl⟩
      · exact absurd hmk (mk_no ps first (by decide) (by show (0 : Int) + _ ≤ _; omega) (fun b hb => by
          rcases Int.lt_or_le 4194304 (b.length : Int) with h1 | h1
          · exact absurd ⟨b, hb, h1⟩ hn
          · exact h1))
  | some l =>
    simp only [Bool.not_true]
    rw [if_neg (by decide), show seal_Start.f = some (first.f2.f0, first.f2.f1) from rfl]
    simp only [Option.bind_some]
    have := whole0 (ls := l) hr (ps.length + 9) 0 first (by omega) (by omega) rfl (by simpa using hmk) (by decide)
    simpa using this
end Go.Proofs.Ytbiijcehgiibeaa.Pure

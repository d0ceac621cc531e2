/- Proved here: what chain.Bytes, chain.Read and the document's answers come to: one plain function each; and Owned. -/
import Derived.Test.YtbiijcehgiibeaaKCBackPureNum
import Derived.Test.YtbiijcehgiibeaaKCBackPureE
import Derived.Test.YtbiijcehgiibeaaKCBackPureF
import Derived.Test.YtbiijcehgiibeaaKCBackQ0
import Derived.Test.YtbiijcehgiibeaaKCBackQg3
import Derived.Test.YtbiijcehgiibeaaKCBackQg7
namespace Go.Proofs.Ytbiijcehgiibeaa.Pure
open Go.RowKit Go.Proofs.Ytbiijcehgiibeaa.Q Go.Proofs.YtbiijcehgiibeaaW.PrintWords
set_option linter.unusedVariables false
set_option linter.unusedSimpArgs false
def lwr (x : S60) : List Int × Int := if may x = true then (wr 8 x.f0 ++ wr 8 x.f1 ++ M.wr6 (x.f2.f0, x.f2.f1), 0) else ([], 30)
def lrd (l : List Int) (a : Int) : S60 × Int × Int :=
  if (readn l a).2.2 = 0 then if 10000 < (readn l a).1 then (z60, 0, 30) else
    if (readn l (readn l a).2.1).2.2 = 0 then if 4194304 < (readn l (readn l a).2.1).1 then (z60, 0, 30) else
      if (M.rd6 l (readn l (readn l a).2.1).2.1).2.2.2 = 0 then
        (⟨(readn l a).1, (readn l (readn l a).2.1).1, ⟨(M.rd6 l (readn l (readn l a).2.1).2.1).1, (M.rd6 l (readn l (readn l a).2.1).2.1).2.1⟩⟩, (M.rd6 l (readn l (readn l a).2.1).2.1).2.2.1, 0)
      else (z60, 0, (M.rd6 l (readn l (readn l a).2.1).2.1).2.2.2)
    else (z60, 0, (readn l (readn l a).2.1).2.2)
  else (z60, 0, (readn l a).2.2)
theorem number_may {n : Int} (h0 : 0 ≤ n) (h1 : n ≤ 4611686018427387903) : number n = (wr 8 n, 0) := by unfold number; rw [if_pos ⟨h0, h1⟩]
theorem lwr_len (x : S60) : (lwr x).1.length ≤ 24 := by
  unfold lwr
  split
  · have := wr_len 8 x.f0
    have := wr_len 8 x.f1
    simp only [List.length_append, M.wr6_length]
    omega
  · simp
theorem cbytes (x : S60) {k : Nat} (hk : 9 < k) : chain_Bytes.f k x.f0 x.f1 x.f2.f0 x.f2.f1 = some (lwr x) := by
  unfold chain_Bytes.f lwr
  rw [cmay]
  simp only [Option.bind_some]
  by_cases h : may x = true
  · obtain ⟨⟨h0, h1, h2, h3⟩, h4⟩ := may_iff.1 h
    have w0 := wr_len 8 x.f0
    have w1 := wr_len 8 x.f1
    rw [if_pos h, if_pos h, bnumber _ hk, bnumber _ hk, number_may h0 (by omega), number_may h2 (by omega), bytes6 (x := (x.f2.f0, x.f2.f1)) h4]
    simp only [Option.bind_some]
    rw [if_pos (by omega), if_pos (by rw [List.length_append, M.wr6_length]; omega)]
  · rw [if_neg h, if_neg h]
theorem cread {l : List Int} (hb : M.bytes l = true) (hn : (l.length : Int) ≤ 4611686018427387904) (a : Int) {k : Nat} (hk : 31 < k) :
    chain_Read.f k l a = some ((lrd l a).1.f0, (lrd l a).1.f1, (lrd l a).1.f2.f0, (lrd l a).1.f2.f1, (lrd l a).2.1, (lrd l a).2.2) := by
  obtain ⟨k, rfl⟩ : ∃ j, k = j + 1 := ⟨k - 1, by omega⟩
  unfold chain_Read.f H.lread lrd
  rw [bread hb hn a (by omega)]
  simp only [Option.bind_some]
  by_cases c1 : (readn l a).2.2 = 0
  · have n1 := readn_next hb c1
    rw [if_pos c1, if_pos c1]
    by_cases c2 : 10000 < (readn l a).1
    · rw [if_pos c2, if_pos c2]
      rfl
    · rw [if_neg c2, if_neg c2, bread hb hn _ (by omega)]
      simp only [Option.bind_some]
      by_cases c3 : (readn l (readn l a).2.1).2.2 = 0
      · have n2 := readn_next hb c3
        rw [if_pos c3, if_pos c3]
        by_cases c4 : 4194304 < (readn l (readn l a).2.1).1
        · rw [if_pos c4, if_pos c4]
          rfl
        · rw [if_neg c4, if_neg c4, read6 k hb hn (by omega) (by omega)]
          simp only [Option.bind_some]
          by_cases c5 : (M.rd6 l (readn l (readn l a).2.1).2.1).2.2.2 = 0
          · rw [if_pos c5, if_pos c5]
          · rw [if_neg c5, if_neg c5]
            rfl
      · rw [if_neg c3, if_neg c3]
        rfl
  · rw [if_neg c1, if_neg c1]
    rfl
end Go.Proofs.Ytbiijcehgiibeaa.Pure

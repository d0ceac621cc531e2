/- Proved here: the plain law of ChainBack: a link's bytes are read as the link, and what is read is written as what was read. -/
import Derived.Test.YtbiijcehgiibeaaKCBackPureCio
import Derived.Test.YtbiijcehgiibeaaKCBackPureSix
import Derived.Test.YtbiijcehgiibeaaKCBackQf20
namespace Go.Proofs.Ytbiijcehgiibeaa.Pure
open Go.RowKit Go.Proofs.Ytbiijcehgiibeaa.Q Go.Proofs.YtbiijcehgiibeaaW.PrintWords
set_option linter.unusedVariables false
set_option linter.unusedSimpArgs false
theorem drop_behind {l a post : List Int} {i : Nat} (h : l.drop i = a ++ post) : l.drop (i + a.length) = post := by
  rw [← List.drop_drop, h, List.drop_left]
theorem lrd_lwr {l : List Int} {x : S60} (hm : may x = true) {a : Nat} {post : List Int} (hl : l.drop a = (lwr x).1 ++ post) : lrd l (a : Int) = (x, (a : Int) + (lwr x).1.length, 0) := by
  obtain ⟨⟨h0, h1, h2, h3⟩, h4⟩ := may_iff.1 hm
  have e : (lwr x).1 = wr 8 x.f0 ++ wr 8 x.f1 ++ M.wr6 (x.f2.f0, x.f2.f1) := by unfold lwr; rw [if_pos hm]
  rw [e] at hl ⊢
  rw [List.append_assoc, List.append_assoc] at hl
  have d1 := drop_behind hl
  have d2 := drop_behind d1
  have r1 := readn_wr l a x.f0 _ h0 (by omega) hl
  have r2 := readn_wr l (a + (wr 8 x.f0).length) x.f1 _ h2 (by omega) d1
  have r3 := M.rd6_at (x := (x.f2.f0, x.f2.f1)) h4 d2
  rw [show ((a + (wr 8 x.f0).length : Nat) : Int) = (a : Int) + (wr 8 x.f0).length by omega] at r2
  rw [show ((a + (wr 8 x.f0).length + (wr 8 x.f1).length : Nat) : Int) = (a : Int) + (wr 8 x.f0).length + (wr 8 x.f1).length by omega] at r3
  unfold lrd
  rw [r1]
  simp only
  rw [if_pos trivial, if_neg (by omega), r2]
  simp only
  rw [if_pos trivial, if_neg (by omega), r3]
  simp only
  rw [if_pos trivial]
  refine Prod.ext rfl (Prod.ext ?_ rfl)
  simp only [List.length_append, M.wr6_length]
  omega
theorem lwr_lrd {l : List Int} (hb : M.bytes l = true) {a : Int} (h : (lrd l a).2.2 = 0) : may (lrd l a).1 = true ∧ 0 ≤ a ∧ (lrd l a).2.1 = a + (lwr (lrd l a).1).1.length ∧ (lrd l a).2.1 ≤ l.length ∧ ∃ post, l.drop a.toNat = (lwr (lrd l a).1).1 ++ post := by
  generalize hr : lrd l a = r at h ⊢
  unfold lrd at hr
  by_cases c1 : (readn l a).2.2 = 0
  · rw [if_pos c1] at hr
    by_cases c2 : 10000 < (readn l a).1
    · rw [if_pos c2] at hr; subst hr; cases h
    rw [if_neg c2] at hr
    by_cases c3 : (readn l (readn l a).2.1).2.2 = 0
    · rw [if_pos c3] at hr
      by_cases c4 : 4194304 < (readn l (readn l a).2.1).1
      · rw [if_pos c4] at hr; subst hr; cases h
      rw [if_neg c4] at hr
      by_cases c5 : (M.rd6 l (readn l (readn l a).2.1).2.1).2.2.2 = 0
      · rw [if_pos c5] at hr
        obtain ⟨p0, p1, p2, p3, p4, q1, p5⟩ := wr_readn hb (a := a) (n := (readn l a).1) (nx := (readn l a).2.1) (by rw [← c1])
        obtain ⟨s0, s1, s2, s3, s4, q2, s5⟩ := wr_readn hb (a := (readn l a).2.1) (n := (readn l (readn l a).2.1).1) (nx := (readn l (readn l a).2.1).2.1) (by rw [← c3])
        obtain ⟨t0, t1, t2, t3, q3, t4⟩ := M.at_rd6 hb (a := (readn l (readn l a).2.1).2.1) (p := (M.rd6 l (readn l (readn l a).2.1).2.1).1) (q := (M.rd6 l (readn l (readn l a).2.1).2.1).2.1) (nx := (M.rd6 l (readn l (readn l a).2.1).2.1).2.2.1) (by rw [← c5])
        generalize (M.rd6 l (readn l (readn l a).2.1).2.1) = u at *
        generalize (readn l (readn l a).2.1) = v at *
        generalize readn l a = z at *
        subst hr
        have hm : may (⟨z.1, v.1, ⟨u.1, u.2.1⟩⟩ : S60) = true := may_iff.2 ⟨⟨p0, by show z.1 ≤ 10000; omega, s0, by show v.1 ≤ 4194304; omega⟩, t3⟩
        have e : (lwr (⟨z.1, v.1, ⟨u.1, u.2.1⟩⟩ : S60)).1 = wr 8 z.1 ++ wr 8 v.1 ++ M.wr6 (u.1, u.2.1) := by unfold lwr; rw [if_pos hm]
        refine ⟨hm, p2, ?_, t2, q3, ?_⟩
        · show u.2.2.1 = _
          rw [e]
          simp only [List.length_append, M.wr6_length]
          omega
        · show _ = (lwr (⟨z.1, v.1, ⟨u.1, u.2.1⟩⟩ : S60)).1 ++ q3
          have e1 := drop_behind p5
          rw [show a.toNat + (wr 8 z.1).length = z.2.1.toNat by omega, s5] at e1
          have e2 := drop_behind s5
          rw [show z.2.1.toNat + (wr 8 v.1).length = v.2.1.toNat by omega, t4] at e2
          rw [e, p5, ← e1, ← e2, List.append_assoc, List.append_assoc]
      · rw [if_neg c5] at hr; subst hr; exact absurd h c5
    · rw [if_neg c3] at hr; subst hr; exact absurd h c3
  · rw [if_neg c1] at hr; subst hr; exact absurd h c1
theorem lrd_zero {l : List Int} {a : Int} (h : (lrd l a).2.2 ≠ 0) : (lrd l a).1 = z60 ∧ (lrd l a).2.1 = 0 := by
  generalize hr : lrd l a = r at h ⊢
  unfold lrd at hr
  repeat' split at hr
  all_goals (subst hr; first | exact ⟨rfl, rfl⟩ | exact absurd rfl h)
theorem cback1 {l : List Int} (hb : M.bytes l = true) (hn : (l.length : Int) ≤ 4611686018427387904) {k : Nat} (hk : 60 < k) (b : Bool) (hf : b = false) : reevelaw03_ChainBack.j1 k l b = some true := by
  subst hf
  obtain ⟨k, rfl⟩ : ∃ j, k = j + 1 := ⟨k - 1, by omega⟩
  simp only [reevelaw03_ChainBack.j1]
  rw [if_neg (by decide), cread hb hn 0 (by omega)]
  simp only [Option.bind_some]
  by_cases c : (lrd l 0).2.2 = 0
  · obtain ⟨hm, h0, h1, h2, post, h3⟩ := lwr_lrd hb c
    have hl := lwr_len (lrd l 0).1
    rw [if_pos c, cbytes (lrd l 0).1 (by omega)]
    simp only [Option.bind_some]
    have he : (lwr (lrd l 0).1).2 = 0 := by unfold lwr; rw [if_pos hm]
    rw [if_pos he, if_neg (by omega), if_neg (by omega), if_pos (by omega), if_pos h2, same_ok (by omega) (by omega)]
    simp only [Option.bind_some]
    have h4 : l.take (lrd l 0).2.1.toNat = (lwr (lrd l 0).1).1 := by
      rw [show (0 : Int).toNat = 0 from rfl, List.drop_zero] at h3
      rw [h1]
      generalize (lwr (lrd l 0).1).1 = q at *
      rw [h3, show ((0 : Int) + (q.length : Int)).toNat = q.length by omega, List.take_left]
    rw [h4]
    simp
  · obtain ⟨h1, h2⟩ := lrd_zero c
    rw [if_neg c, h1, h2]
    rfl
theorem ChainBack (a0 a1 a2 a3 : Int) (l1 l2 : List Int) (_ : (Lit.int .i64 a0).wf = true) (_ : (Lit.int .i64 a1).wf = true) (_ : (Lit.int .i64 a2).wf = true) (_ : (Lit.int .i64 a3).wf = true) (y1 : l1.length * 1 ≤ 140737488351232) (hw1 : ∀ x ∈ l1, (Lit.int .u8 x).wf = true) (u1 : l1.length ≤ 1048576) (y2 : l2.length * 1 ≤ 140737488351232) (hw2 : ∀ x ∈ l2, (Lit.int .u8 x).wf = true) (u2 : l2.length ≤ 1048576) :
    ∃ k, reevelaw03_ChainBack.f k a0 a1 a2 a3 l1 l2 = some true := by
  refine ⟨90 + 10, ?_⟩
  have b1 := bytes_of hw1
  have b2 := bytes_of hw2
  have hc := cbytes (⟨a0, a1, ⟨a2, a3⟩⟩ : S60) (k := 90 + 10) (by omega)
  have hl := lwr_len (⟨a0, a1, ⟨a2, a3⟩⟩ : S60)
  unfold reevelaw03_ChainBack.f
  rw [awake03, hc]
  simp only [Option.bind_some, if_true]
  rw [show 90 + 10 = 99 + 1 from rfl]
  simp only [reevelaw03_ChainBack.j0]
  by_cases hm : may (⟨a0, a1, ⟨a2, a3⟩⟩ : S60) = true
  · have he : (lwr (⟨a0, a1, ⟨a2, a3⟩⟩ : S60)).2 = 0 := by unfold lwr; rw [if_pos hm]
    have hby : M.bytes (lwr (⟨a0, a1, ⟨a2, a3⟩⟩ : S60)).1 = true := by
      obtain ⟨⟨h0, h1, h2, h3⟩, h4⟩ := may_iff.1 hm
      have h0' : 0 ≤ a0 := h0
      have h1' : a0 ≤ 10000 := h1
      have h2' : 0 ≤ a1 := h2
      have h3' : a1 ≤ 4194304 := h3
      unfold lwr
      rw [if_pos hm]
      exact bytes_append (bytes_append (wr_bytes 8 a0 h0' (by omega)) (wr_bytes 8 a1 h2' (by omega))) (M.wr6_bytes _)
    rw [he, if_neg (by decide), if_pos (by simp; omega)]
    simp only [Option.bind_some, List.nil_append]
    rw [if_pos (by omega)]
    have hd : (l1 ++ (lwr (⟨a0, a1, ⟨a2, a3⟩⟩ : S60)).1 ++ l2).drop l1.length = (lwr (⟨a0, a1, ⟨a2, a3⟩⟩ : S60)).1 ++ l2 := by rw [List.append_assoc, List.drop_left]
    rw [if_pos (by rw [List.length_append]; omega), cread (bytes_append (bytes_append b1 hby) b2) (by simp only [List.length_append]; omega) _ (by omega), lrd_lwr hm hd]
    simp only [Option.bind_some]
    rw [if_pos trivial, if_neg (by simp)]
    exact cback1 b2 (by omega) (by omega) _ (by rw [w64b (by omega) (by omega)]; simp)
  · have he : (lwr (⟨a0, a1, ⟨a2, a3⟩⟩ : S60)).2 = 30 := by unfold lwr; rw [if_neg hm]
    rw [he, if_pos (by decide)]
end Go.Proofs.Ytbiijcehgiibeaa.Pure

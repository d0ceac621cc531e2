/- Proved here: of two rows of bytes of one length that differ in one byte the seals are unlike: the plain statement of SealTells, over the printed function. Conditions: its hypotheses. -/
import Derived.Test.YtbiijcehgiibeaaQf4
import Derived.Test.YtbiijcehgiibeaaPureA
namespace Go.Proofs.Ytbiijcehgiibeaa.Pure
open Go.RowKit Go.Proofs.Ytbiijcehgiibeaa.Q Go.Proofs.YtbiijcehgiibeaaW.PrintWords
set_option linter.unusedVariables false
set_option linter.unusedSimpArgs false

theorem place_in {a n : Int} (hn : 0 < n) (ha : n ≤ 140737488351232) : (if a.tmod n < 0 then 0 ≤ wrap64 (a.tmod n + n) ∧ wrap64 (a.tmod n + n) < n else 0 ≤ a.tmod n ∧ a.tmod n < n) := by
  have h1 : a.tmod n < n := Int.tmod_lt_of_pos a hn
  have h2 : -n < a.tmod n := Int.lt_tmod_of_pos a hn
  split
  · have : wrap64 (a.tmod n + n) = a.tmod n + n := by unfold wrap64; omega
    omega
  · omega

theorem set_bytes {l : List Int} {i : Nat} {d : Int} (hl : M.bytes l = true) (h0 : 0 ≤ d) (h1 : d < 256) : M.bytes (l.set i d) = true := by
  unfold M.bytes
  rw [List.all_eq_true]
  intro x hx
  rcases List.mem_or_eq_of_mem_set hx with h | h
  · exact decide_eq_true (M.bytes_mem hl x h)
  · subst h; exact decide_eq_true ⟨h0, h1⟩

theorem tells {a b : Int} {l : List Int} {d : Int} {i : Int} (h : M.right a b = true) (hl : M.bytes l = true) (h0 : 0 ≤ d) (h1 : d < 256) (hi : 0 ≤ i) (hn : i < l.length) (hlen : (l.length : Int) ≤ 140737488351232) :
    ((seal_Add.f a b l).bind fun x => (seal_Add.f a b (l.set i.toNat d)).bind fun y => if x.2.2 = 0 then if y.2.2 = 0 then if i < (l.length : Int) then some ((x.1 == y.1 && (x.2.1 == y.2.1)) == (rd l i == d)) else none else none else none) = some true := by
  rw [add_ok h hl (by omega), add_ok h (set_bytes hl h0 h1) (by rw [List.length_set]; omega)]
  simp only [Option.bind_some, if_true]
  rw [if_pos hn]
  congr 1
  have e := M.add_set (x := (a, b)) hl (show i.toNat < l.length by omega) h0 h1
  generalize M.add (a, b) l = x at e
  generalize M.add (a, b) (l.set i.toNat d) = y at e
  obtain ⟨x1, x2⟩ := x
  obtain ⟨y1, y2⟩ := y
  unfold rd
  generalize l.getD i.toNat 0 = c at e
  have e' : (x1 = y1 ∧ x2 = y2) ↔ c = d := by rw [← e]; simp
  by_cases hc : c = d
  · obtain ⟨rfl, rfl⟩ := e'.2 hc
    subst hc
    simp
  · have hc2 : (c == d) = false := by simpa using hc
    have : (x1 == y1 && (x2 == y2)) = false := by
      cases hxy : (x1 == y1 && (x2 == y2)) with
      | false => rfl
      | true =>
        simp at hxy
        exact absurd (e'.1 hxy) hc
    simp only [this, hc2]
    rfl

theorem SealTells (l0 : List Int) (a1 a2 a3_0 a3_1 : Int) (y : l0.length * 1 ≤ 140737488351232) (hw : ∀ x ∈ l0, (Lit.int .u8 x).wf = true) (w1 : (Lit.int .i64 a1).wf = true) (w2 : (Lit.int .u8 a2).wf = true) (w3 : (Lit.int .i64 a3_0).wf = true) (w4 : (Lit.int .i64 a3_1).wf = true) :
    ∃ k, reevelaw02_SealTells.f k l0 a1 a2 a3_0 a3_1 = some true := by
  refine ⟨1, ?_⟩
  have hb := bytes_of hw
  obtain ⟨d0, d1⟩ := u8_of w2
  unfold reevelaw02_SealTells.f
  rw [awake02]
  simp only [Option.bind_some, if_true, reevelaw02_SealTells.j0]
  by_cases h0 : l0.length = 0
  · rw [if_pos (by simp [h0])]
  · have hz : ((l0.length : Int) == 0) = false := by simpa using h0
    rw [hz, if_neg (by simp), of]
    simp only [Option.bind_some]
    rw [if_neg (by omega)]
    have hp := place_in (a := a1) (n := l0.length) (by omega) (by omega)
    have hl : ([] : List Int).length + l0.length < 140737488355328 := by simp only [List.length_nil]; omega
    by_cases hneg : a1.tmod (l0.length : Int) < 0
    · rw [if_pos hneg] at hp ⊢
      rw [if_pos hl]
      simp only [List.nil_append, Option.bind_some]
      rw [if_pos hp.1, if_pos hp.2]
      exact tells (of_right _ _) hb d0 d1 hp.1 hp.2 (by omega)
    · rw [if_neg hneg] at hp ⊢
      rw [if_pos hl]
      simp only [List.nil_append, Option.bind_some]
      rw [if_pos hp.1, if_pos hp.2]
      exact tells (of_right _ _) hb d0 d1 hp.1 hp.2 (by omega)

end Go.Proofs.Ytbiijcehgiibeaa.Pure

/- Proved here: an argument that is a slice of slices of bytes, or a slice of links, is a row that is read. -/
import Derived.Test.YtbiijcehgiibeaaKCStartsQ0
import Derived.WalkKit
import Derived.ProofKit
import Derived.Deep.Matrix
import Derived.Deep.Strs
import Derived.Deep.Slices
import Derived.OpenShut
namespace Go.Proofs.Ytbiijcehgiibeaa.O
open Go.ChangeShapes Go.WideShapes Go.ChangeAt Go.RowKit Go.Deep Go.Proofs.YtbiijcehgiibeaaW.PrintWords Go.Proofs.Ytbiijcehgiibeaa.Q
set_option linter.unusedVariables false
theorem rows_read {H : Type} {enc : TypeId × Value → H} {P : Program} {W : World} {held : Bool} {t e q : TypeId} {a : Option Addr} {len cap : Nat} {d : DataW H} {ps : List MemPlace} {ts : List TypeId} {ds : List (DataW H)} {j : Nat}
    (hsz : (DataW.weightsEach P ts ds).all (· ≤ reachBytes) = true) (ht : ts[j]? = some t) (hd : ds[j]? = some d) (hu : P.underlying t = some (.slice e)) (he : P.underlying e = some (.slice q)) (hq : P.underlying q = some (.int .u8))
    (ce : P.cellsOf e = 1) (cq : P.cellsOf q = 1) (be : P.bytesOf e = 24) (bq : P.bytesOf q = 1)
    (h : DataW.Trod enc P W 0 (fun _ => true) held t (.slice a len cap) d ps) :
    ∃ l : List (List Int), len = l.length ∧ Kd.C (Kd.slice 5 (Kd.int .u8)) W a l.length l ∧ l.length ≤ cap ∧ (l.length ≤ 9223372036854775807 ∧ ∀ x ∈ l, x.length ≤ 9223372036854775807 ∧ ∀ y ∈ x, (Lit.int .u8 y).wf = true) := by
  obtain ⟨fuel, hf⟩ := h
  rcases open_int_rows hu he hq ce cq hf with ⟨hcs, _⟩ | ⟨ad, n, c, A, L, C, Z, hcs, _, hl, hm, hx, hr⟩
  · simp [Value.cells] at hcs
    obtain ⟨rfl, rfl, rfl⟩ := hcs
    exact ⟨[], rfl, ⟨rfl, by decide, fun h => absurd h (by decide)⟩, Nat.le_refl _, by decide, fun x hx => absurd hx (by simp)⟩
  · simp [Value.cells] at hcs
    obtain ⟨rfl, rfl, rfl⟩ := hcs
    have hm' : cap ≤ 9223372036854775807 := hm
    refine ⟨(List.range len).map fun r => (Z r).take (L r), by simp, ?_, by simpa using hl, by simp; omega, ?_⟩
    · refine ⟨rfl, by simp; omega, fun _ => ⟨ad, rfl, fun j p hj => ?_⟩⟩
      rw [List.getElem?_map] at hj
      by_cases hjl : j < len
      · rw [List.getElem?_range hjl] at hj
        simp only [Option.map_some] at hj
        injection hj with hj
        subst hj
        obtain ⟨h1, h2, h3, h4, h5, h6, h7⟩ := hr j (by omega)
        have hlen : ((Z j).take (L j)).length = L j := by rw [List.length_take]; omega
        have h3' : C j ≤ 9223372036854775807 := h3
        refine ⟨[.slice (A j) (L j) (C j)], rfl, ⟨A j, C j, by rw [hlen], by omega, ?_⟩, fun i u hi => ?_⟩
        · rw [hlen]
          refine ⟨hlen, by omega, fun hp => ?_⟩
          cases hA : A j with
          | none => exact absurd (h6 hA) (by omega)
          | some a' =>
            refine ⟨a', rfl, fun i p hi => ⟨[.int .u8 p], rfl, rfl, fun i' u hu => ?_⟩⟩
            cases i' with
            | succ i' => simp at hu
            | zero =>
              have hu' : Value.int .u8 p = u := by simpa using hu
              subst hu'
              have hiL : i < L j := by
                have := (List.getElem?_eq_some_iff.1 hi).1
                omega
              have h8 := (h7 a' hA).2 i (by omega)
              rw [List.getElem?_take_of_lt hiL] at hi
              rw [List.getD_eq_getElem?_getD, hi] at h8
              simpa [Kd.int, Kd.scalar] using h8
        · cases i with
          | succ i => simp at hi
          | zero =>
            have hi' : Value.slice (A j) (L j) (C j) = u := by simpa using hi
            subst hi'
            simpa [Kd.slice] using h1
      · rw [List.getElem?_eq_none (by simpa using hjl)] at hj
        simp at hj
    · intro x hx2
      obtain ⟨r, hr1, rfl⟩ := List.mem_map.1 hx2
      have hrl : r < len := by simpa using hr1
      obtain ⟨h1, h2, h3, h4, h5, h6, h7⟩ := hr r (by omega)
      have h3' : C r ≤ 9223372036854775807 := h3
      exact ⟨by rw [List.length_take]; omega, fun y hy => h5 y (List.mem_of_mem_take hy)⟩
theorem add_add (a : Addr) (n m : Nat) : (a.add n).add m = a.add (n + m) := by
  unfold Addr.add
  by_cases h : n = 0
  · subst h; simp
  · by_cases h2 : m = 0
    · subst h2; simp [h]
    · rw [if_neg h2, if_neg h, if_neg (show ¬ n + m = 0 by omega), Nat.add_assoc]
theorem four {α : Type} {l : List α} (h : l.length = 4) : ∃ a b c d, l = [a, b, c, d] := by
  match l, h with
  | [a, b, c, d], _ => exact ⟨a, b, c, d, rfl⟩
set_option maxRecDepth 100000 in
theorem links_read {H : Type} {enc : TypeId × Value → H} {W : World} {held : Bool} {a : Option Addr} {len cap : Nat} {d : DataW H} {ps : List MemPlace} {ts : List TypeId} {ds : List (DataW H)} {j : Nat}
    (hsz : (DataW.weightsEach Try.prog ts ds).all (· ≤ reachBytes) = true) (ht : ts[j]? = some 66) (hd : ds[j]? = some d)
    (h : DataW.Trod enc Try.prog W 0 (fun _ => true) held 66 (.slice a len cap) d ps) :
    ∃ l : List S60, len = l.length ∧ Kd.C k60 W a l.length l ∧ l.length ≤ cap ∧ l.length ≤ 9223372036854775807 := by
  obtain ⟨fuel, hf⟩ := h
  have c60 : Try.prog.cellsOf 60 = 4 := by kernel_rfl
  have c23 : Try.prog.cellsOf 23 = 2 := by kernel_rfl
  have c3 : Try.prog.cellsOf 3 = 1 := by kernel_rfl
  rcases open_slice Try.underlying66 hf with ⟨hcs, _⟩ | ⟨ad, n, c, m, f2, D, Pl, hcs, _, hl, hm, hmm, hx, hr⟩
  · simp [Value.cells] at hcs
    obtain ⟨rfl, rfl, rfl⟩ := hcs
    exact ⟨[], rfl, ⟨rfl, by decide, fun h => absurd h (by decide)⟩, Nat.le_refl _, by decide⟩
  · simp [Value.cells] at hcs
    obtain ⟨rfl, rfl, rfl⟩ := hcs
    have hm' : cap ≤ 9223372036854775807 := hm
    rw [if_pos rfl] at hmm
    subst hmm
    have each : ∀ i, i < m → ∃ x : S60, ∀ k u, [Value.int .i64 x.f0, .int .i64 x.f1, .int .i64 x.f2.f0, .int .i64 x.f2.f1][k]? = some u → W.cell? (ad.add (i * 4 + k)) = some u := by
      intro i hi
      obtain ⟨cs', h1, h2⟩ := hr i hi
      rw [c60] at h1
      obtain ⟨_, hlen, hcell⟩ := World.cells?_some h1
      obtain ⟨y0, y1, y2, n', _, _, t0, t1, t2⟩ := trod_struct3 Try.underlying60 h2
      obtain ⟨z0, z1, n'', _, _, s0, s1⟩ := trod_struct2 Try.underlying23 t2
      obtain ⟨v0, e0, _, _⟩ := DataW.trod_int Try.underlying3 t0
      obtain ⟨v1, e1, _, _⟩ := DataW.trod_int Try.underlying3 t1
      obtain ⟨v2, e2, _, _⟩ := DataW.trod_int Try.underlying3 s0
      obtain ⟨v3, e3, _, _⟩ := DataW.trod_int Try.underlying3 s1
      simp only [c3, c23] at e0 e1 e2 e3
      refine ⟨⟨v0, v1, ⟨v2, v3⟩⟩, fun k u hk => ?_⟩
      obtain ⟨b0, b1, b2, b3, rfl⟩ := four hlen
      obtain rfl : b0 = .int .i64 v0 := (List.cons.inj e0).1
      obtain rfl : b1 = .int .i64 v1 := (List.cons.inj e1).1
      obtain rfl : b2 = .int .i64 v2 := (List.cons.inj e2).1
      obtain rfl : b3 = .int .i64 v3 := (List.cons.inj e3).1
      have hk4 : k < 4 := by have := (List.getElem?_eq_some_iff.1 hk).1; simpa using this
      have ea : (ad.add (i * 4)).add k = ad.add (i * 4 + k) := by
        exact add_add _ _ _
      rw [← ea, hcell k hk4]
      exact hk
    have : Inhabited S60 := ⟨z60⟩
    obtain ⟨X, hX⟩ := choose_lt each
    refine ⟨(List.range len).map X, by simp, ?_, by simpa using hl, by simp; omega⟩
    refine ⟨rfl, by simp; omega, fun _ => ⟨ad, rfl, fun j p hj => ?_⟩⟩
    rw [List.getElem?_map] at hj
    by_cases hjl : j < len
    · rw [List.getElem?_range hjl] at hj
      simp only [Option.map_some] at hj
      injection hj with hj
      subst hj
      exact ⟨_, rfl, k60_mk W (X j), fun i u hu => hX j (by omega) i u hu⟩
    · rw [List.getElem?_eq_none (by simpa using hjl)] at hj
      simp at hj
end Go.Proofs.Ytbiijcehgiibeaa.O

/- A text that a program of this session wrote (wip/qprint.py, over the kit's printer): Lean functions with the same answers as Go functions of the program, and proofs that the calls come to these answers; where a function is named in wip/ext, its definition and proof were written by hand. · Proved here, in whole numbers: adding bytes to a seal is injective in the seal and in each byte; it is linear in the seal; joined seals are seals of joined bytes. No program in sight. · Proved here: what the small printed functions of reevelaw02 come to (the wake, Fold, Of), and seal.Add where its seal is right. · Proved here: 16777199 is a prime; the pairs modulo it are a field; each pair but zero to the power P P - 1 is 1. No program in sight. · Proved here: what the document's answers of layer 2 (Right, Mul, Raise, Times, Power, Join) come to. · Proved here: what chain.Next, chain.Check, links, long and the document's answers of layer 3 come to. · Proved here: the plain law of ChainStarts. · Proved here: an argument that is a slice of slices of bytes, or a slice of links, is a row that is read. -/
import Derived.Test.YtbiijcehgiibeaaKCStartsJFloat
import Derived.Test.YtbiijcehgiibeaaKCStartsQg9
import Derived.Test.YtbiijcehgiibeaaKCStartsQf57
import Derived.Test.YtbiijcehgiibeaaKCStartsQg7
import Derived.WalkKit
import Derived.ProofKit
import Derived.Deep.Matrix
import Derived.Deep.Strs
import Derived.Deep.Slices
import Derived.OpenShut
namespace Go.Proofs.Ytbiijcehgiibeaa.Q
open Go.RowKit Go.Proofs.YtbiijcehgiibeaaW.PrintWords Go.Proofs.YtbiijcehgiibeaaW.PrintLast Go.Proofs.YtbiijcehgiibeaaW.PrintMore
attribute [local go_sem] max2_int min2_int max_two min_two max_three min_three max_four min_four   -- for this text's walks alone
set_option linter.unusedVariables false
set_option linter.unusedSimpArgs false
mutual
def reevelaw03_ChainStarts.j0 : Nat → List (List Int) → List (S60) → Int → Int → Bool → Option (Bool)
  | 0, _, _, _, _, _ => none
  | k + 1, x0, x1, x2, x8, x25 => if x25 = true then (none) else (if x8 ≥ 0 then (reevelaw03_ChainStarts.j1 k x0 x1 x2 x8) else (reevelaw03_ChainStarts.j1 k x0 x1 x2 (x0.length : Int)))
def reevelaw03_ChainStarts.j1 : Nat → List (List Int) → List (S60) → Int → Int → Option (Bool)
  | 0, _, _, _, _ => none
  | k + 1, x0, x1, x2, x9 => if x2 ≥ 0 then (reevelaw03_ChainStarts.j2 k x0 x1 x2 x9 (decide (x2 < x9))) else (reevelaw03_ChainStarts.j2 k x0 x1 x2 x9 false)
def reevelaw03_ChainStarts.j2 : Nat → List (List Int) → List (S60) → Int → Int → Bool → Option (Bool)
  | 0, _, _, _, _, _ => none
  | k + 1, x0, x1, x2, x9, x37 => if x37 = true then (if x2 > (x1.length : Int) then (none) else (if 0 ≤ x2 then (if x2 ≤ (x0.length : Int) then (if x2 ≤ (x1.length : Int) then ((chain_Check.f k (x0.take (x2 : Int).toNat) (x1.take (x2 : Int).toNat)).bind fun t840 => (some (t840 == (-1)))) else (none)) else (none)) else (none))) else (if x9 > (x1.length : Int) then (none) else (if 0 ≤ x9 then (if x9 ≤ (x0.length : Int) then (if x9 ≤ (x1.length : Int) then ((chain_Check.f k (x0.take (x9 : Int).toNat) (x1.take (x9 : Int).toNat)).bind fun t849 => (some (t849 == (-1)))) else (none)) else (none)) else (none)))
end
def reevelaw03_ChainStarts.f (k : Nat) (l0 : List (List Int)) (l1 : List (S60)) (a2 : Int) : Option (Bool) := (reevelaw03_awake.f k).bind fun t830 => ((chain_Check.f k l0 l1).bind fun t831 => (if t830 = true then (if t831 < (-1) then (none) else (reevelaw03_ChainStarts.j0 k l0 l1 a2 t831 (decide (t831 > (l0.length : Int))))) else (none)))
def reevelaw03_ChainStarts.T12 : Bool × List (List Nat × List Nat) := (true, [([], []), ([], []), ([0, 1], [0, 1]), ([], []), ([], []), ([3, 4], [3, 4]), ([2, 5], [2, 5]), ([6], [6]), ([7, 6, 0, 1, 2, 3, 4, 5, 6, 7], [7])])
def reevelaw03_ChainStarts.B12 : List Nat := [0, 0, 3, 0, 0, 24, 63, 127, 255]
theorem reevelaw03_ChainStarts.tab12 : rtab .any (opsOf Try.f18 12) = reevelaw03_ChainStarts.T12 := by kernel_rfl
theorem reevelaw03_ChainStarts.bits12 : waitsOk reevelaw03_ChainStarts.T12.2 reevelaw03_ChainStarts.B12 = true := by kernel_rfl
set_option maxHeartbeats 8000000 in
set_option maxRecDepth 100000 in
theorem reevelaw03_ChainStarts.calls (k : Nat) (A0 : Option Addr) (c0 : Nat) (l0 : List (List Int)) (A1 : Option Addr) (c1 : Nat) (l1 : List (S60)) (a2 : Int) (r : Bool) (w : World) (hr0 : Kd.C (Kd.slice 5 (Kd.int .u8)) w A0 l0.length l0) (hc0 : l0.length ≤ c0) (hr1 : Kd.C k60 w A1 l1.length l1) (hc1 : l1.length ≤ c1) (h : reevelaw03_ChainStarts.f k l0 l1 a2 = some r) :
    Calls Try.prog 18 #[.slice A0 l0.length c0, .slice A1 l1.length c1, .int .i64 a2] w fun e w' => e = .returned (.bool r) ∧ Below w.heap.size w w' := by
  have HR0 := Aside0.mk hr0
  have HC0 := Aside0.mk hc0
  clear hr0 hc0
  have HR1 := Aside0.mk hr1
  have HC1 := Aside0.mk hc1
  clear hr1 hc1
  have HB := Aside0.mk (Below.refl w.heap.size w)
  have H : ((reevelaw03_awake.f k).bind fun t830 => ((chain_Check.f k l0 l1).bind fun t831 => (if t830 = true then (if t831 < (-1) then (none) else (reevelaw03_ChainStarts.j0 k l0 l1 a2 t831 (decide (t831 > (l0.length : Int))))) else (none)))) = some r := h
  clear h
  replace H := Option.bind_eq_some_iff.mp H
  obtain ⟨t830, A40, H⟩ := H
  replace H : ((chain_Check.f k l0 l1).bind fun t831 => (if t830 = true then (if t831 < (-1) then (none) else (reevelaw03_ChainStarts.j0 k l0 l1 a2 t831 (decide (t831 > (l0.length : Int))))) else (none))) = some r := H
  have A4 := Aside0.mk A40
  clear A40
  replace H := Option.bind_eq_some_iff.mp H
  obtain ⟨t831, A50, H⟩ := H
  replace H : (if t830 = true then (if t831 < (-1) then (none) else (reevelaw03_ChainStarts.j0 k l0 l1 a2 t831 (decide (t831 > (l0.length : Int))))) else (none)) = some r := H
  have A5 := Aside0.mk A50
  clear A50
  have HC6 := Aside0.mk H
  clear H
  go_enter Try.func18, Try.ntmps18
  go_upto_region 3 with (first | ((with_reducible refine gate_callee (f := 50) rfl ?_); refine goesL_ (some 10) rfl rfl Try.func50 (by kernel_rfl) rfl #[] rfl (by (try simp only [List.map_toArray, List.map_cons, List.map_nil]); first | done | rfl | (simp only [List.length_drop, List.length_take]; rfl)) ?_; (with_reducible refine (reevelaw03_awake.calls k  t830 _ A4.out).mono ?_); rintro e w7 ⟨rfl, hb⟩; refine ⟨_, rfl, ?_⟩; have n0_ := Aside0.mk (below_step (by repeat (first | (with_reducible first | exact HB.out | apply below_alloc | apply pw_below_drewN | apply below_drew1) | exact HB.out)) hb); clear HB; have HB := n0_; clear n0_; (try clear hb); (try clear hb2); (try clear hk); (try clear hi)) | ((with_reducible refine gate_callee (f := 57) rfl ?_); refine goesL_ (some 13) rfl rfl Try.func57 (by kernel_rfl) rfl #[.slice A0 l0.length c0, .slice A1 l1.length c1] rfl (by (try simp only [List.map_toArray, List.map_cons, List.map_nil]); first | done | rfl | (simp only [List.length_drop, List.length_take]; rfl)) ?_; (with_reducible refine (chain_Check.calls k _ _ l0 _ _ l1 t831 _ ?side1 ?side2 ?side3 ?side4 A5.out).mono ?_); (case side1 => repeat (first | exact (Kd.C_below HR0.out HB.out) | (with_reducible refine Kd.C_alloc ?_ _) | (with_reducible refine Kd.C_drewN ?_ _) | (with_reducible refine Kd.C_drew ?_))); (case side2 => exact HC0.out); (case side3 => repeat (first | exact (Kd.C_below HR1.out HB.out) | (with_reducible refine Kd.C_alloc ?_ _) | (with_reducible refine Kd.C_drewN ?_ _) | (with_reducible refine Kd.C_drew ?_))); (case side4 => exact HC1.out); rintro e w8 ⟨rfl, hb⟩; refine ⟨_, rfl, ?_⟩; have n0_ := Aside0.mk (below_step (by repeat (first | (with_reducible first | exact HB.out | apply below_alloc | apply pw_below_drewN | apply below_drew1) | exact HB.out)) hb); clear HB; have HB := n0_; clear n0_; (try clear hb); (try clear hb2); (try clear hk); (try clear hi)))
  (try simp only [Act.put, List.setIfInBounds_toArray, List.set_cons_zero, List.set_cons_succ])
  go_cut [25] (fun v25 wc => ∃ (kq : Nat) (x25_5 : Bool), v25 = .bool x25_5 ∧ Aside0 (reevelaw03_ChainStarts.j0 kq l0 l1 a2 t831 x25_5 = some r) ∧ Aside0 (kq ≤ k) ∧ Aside0 (Below w.heap.size w wc))
  case first =>
    have H := HC6.out
    clear HC6
    by_cases c9 : t830 = true
    · subst c9
      have H1 : (if t831 < (-1) then (none) else (reevelaw03_ChainStarts.j0 k l0 l1 a2 t831 (decide (t831 > (l0.length : Int))))) = some r := by rw [if_pos rfl] at H; exact H
      clear H
      have H := H1
      clear H1
      by_cases c10 : t831 < (-1)
      · rw [if_pos c10] at H
        exact absurd H (by simp)
      · rw [if_neg c10] at H
        have c10b0 : decide (t831 < (-1)) = false := decide_eq_false c10
        clear c10
        (first | rw [c10b0] | (simp only [i64_w, i32_w]; rw [c10b0]) | skip)
        have H' := Aside0.mk H
        clear H
        go_wp2
        go_meet
        case rel => exact ⟨_, (decide (t831 > (l0.length : Int))), (by first | rfl | (simp; done) | (simp [*]; done)), H', ⟨by first | omega | exact Nat.le_refl _⟩, ⟨by repeat (first | (with_reducible first | exact HB.out | apply below_alloc | apply pw_below_drewN | apply below_drew1) | exact HB.out)⟩⟩
    · replace c9 := Bool.eq_false_iff.mpr c9
      subst c9
      have H1 : (none) = some r := by rw [if_neg (show ¬ (false = true) by decide)] at H; exact H
      clear H
      have H := H1
      clear H1
      exact absurd H (by simp)
  case rest =>
    clear HC6
    try clear c1
    try clear p2
    try clear c5
    try clear c9
    try clear c10
    try clear c10b0
    obtain ⟨kq, x25_5, rfl, HA, HJ5, HB⟩ := hcut
    cases kq with
    | zero => exact absurd HA.out (by simp [reevelaw03_ChainStarts.j0])
    | succ kj5 =>
      have H := HA.out
      clear HA
      simp only [reevelaw03_ChainStarts.j0] at H
      by_cases c11 : x25_5 = true
      · subst c11
        have H1 : (none) = some r := by rw [if_pos rfl] at H; exact H
        clear H
        have H := H1
        clear H1
        exact absurd H (by simp)
      · replace c11 := Bool.eq_false_iff.mpr c11
        subst c11
        have H1 : (if t831 ≥ 0 then (reevelaw03_ChainStarts.j1 kj5 l0 l1 a2 t831) else (reevelaw03_ChainStarts.j1 kj5 l0 l1 a2 (l0.length : Int))) = some r := by rw [if_neg (show ¬ (false = true) by decide)] at H; exact H
        clear H
        have H := H1
        clear H1
        have HC12 := Aside0.mk H
        clear H
        go_upto_if 29 with (fail)
        go_cut [9] (fun v9 wc => ∃ (kq : Nat) (x9_11 : Int), v9 = .int .i64 x9_11 ∧ Aside0 (reevelaw03_ChainStarts.j1 kq l0 l1 a2 x9_11 = some r) ∧ Aside0 (kq ≤ kj5) ∧ Aside0 (Below w.heap.size w wc))
        case first =>
          have H := HC12.out
          clear HC12
          by_cases c13 : t831 ≥ 0
          · rw [if_pos c13] at H
            have c13b0 : decide (0 ≤ t831) = true := decide_eq_true c13
            clear c13
            (first | rw [c13b0] | (simp only [i64_w, i32_w]; rw [c13b0]) | skip)
            have H' := Aside0.mk H
            clear H
            go_wp2
            go_meet
            case rel => exact ⟨_, (t831), (by first | rfl | (simp; done) | (simp [*]; done)), H', ⟨by have := HJ5.out; first | omega | exact Nat.le_refl _⟩, ⟨by repeat (first | (with_reducible first | exact HB.out | apply below_alloc | apply pw_below_drewN | apply below_drew1) | exact HB.out)⟩⟩
          · rw [if_neg c13] at H
            have c13b0 : decide (0 ≤ t831) = false := decide_eq_false c13
            clear c13
            (first | rw [c13b0] | (simp only [i64_w, i32_w]; rw [c13b0]) | skip)
            have H' := Aside0.mk H
            clear H
            go_wp2
            go_meet
            case rel => exact ⟨_, ((l0.length : Int)), (by first | rfl | (simp; done) | (simp [*]; done)), H', ⟨by have := HJ5.out; first | omega | exact Nat.le_refl _⟩, ⟨by repeat (first | (with_reducible first | exact HB.out | apply below_alloc | apply pw_below_drewN | apply below_drew1) | exact HB.out)⟩⟩
        case rest =>
          clear HC12
          try clear c1
          try clear p2
          try clear c5
          try clear c9
          try clear c10
          try clear c10b0
          try clear c11
          try clear c13
          try clear c13b0
          try clear p2
          obtain ⟨kq, x9_11, rfl, HA, HJ11, HB⟩ := hcut
          cases kq with
          | zero => exact absurd HA.out (by simp [reevelaw03_ChainStarts.j1])
          | succ kj11 =>
            have H := HA.out
            clear HA
            simp only [reevelaw03_ChainStarts.j1] at H
            have HC14 := Aside0.mk H
            clear H
            go_upto_region 8 with (fail)
            go_cut [37] (fun v37 wc => ∃ (kq : Nat) (x37_13 : Bool), v37 = .bool x37_13 ∧ Aside0 (reevelaw03_ChainStarts.j2 kq l0 l1 a2 x9_11 x37_13 = some r) ∧ Aside0 (kq ≤ kj11) ∧ Aside0 (Below w.heap.size w wc))
            case first =>
              have H := HC14.out
              clear HC14
              by_cases c15 : a2 ≥ 0
              · rw [if_pos c15] at H
                have c15b0 : decide (0 ≤ a2) = true := decide_eq_true c15
                clear c15
                (first | rw [c15b0] | (simp only [i64_w, i32_w]; rw [c15b0]) | skip)
                have H' := Aside0.mk H
                clear H
                go_wp2
                go_meet
                case rel => exact ⟨_, (decide (a2 < x9_11)), (by first | rfl | (simp; done) | (simp [*]; done)), H', ⟨by have := HJ5.out; have := HJ11.out; first | omega | exact Nat.le_refl _⟩, ⟨by repeat (first | (with_reducible first | exact HB.out | apply below_alloc | apply pw_below_drewN | apply below_drew1) | exact HB.out)⟩⟩
              · rw [if_neg c15] at H
                have c15b0 : decide (0 ≤ a2) = false := decide_eq_false c15
                clear c15
                (first | rw [c15b0] | (simp only [i64_w, i32_w]; rw [c15b0]) | skip)
                have H' := Aside0.mk H
                clear H
                go_wp2
                go_meet
                case rel => exact ⟨_, (false), (by first | rfl | (simp; done) | (simp [*]; done)), H', ⟨by have := HJ5.out; have := HJ11.out; first | omega | exact Nat.le_refl _⟩, ⟨by repeat (first | (with_reducible first | exact HB.out | apply below_alloc | apply pw_below_drewN | apply below_drew1) | exact HB.out)⟩⟩
            case rest =>
              clear HC14
              try clear c1
              try clear p2
              try clear c5
              try clear c9
              try clear c10
              try clear c10b0
              try clear c11
              try clear c13
              try clear c13b0
              try clear c15
              try clear c15b0
              try clear p2
              obtain ⟨kq, x37_13, rfl, HA, HJ13, HB⟩ := hcut
              cases kq with
              | zero => exact absurd HA.out (by simp [reevelaw03_ChainStarts.j2])
              | succ kj13 =>
                have H := HA.out
                clear HA
                simp only [reevelaw03_ChainStarts.j2] at H
                by_cases c16 : x37_13 = true
                · subst c16
                  have H1 : (if a2 > (l1.length : Int) then (none) else (if 0 ≤ a2 then (if a2 ≤ (l0.length : Int) then (if a2 ≤ (l1.length : Int) then ((chain_Check.f kj13 (l0.take (a2 : Int).toNat) (l1.take (a2 : Int).toNat)).bind fun t840 => (some (t840 == (-1)))) else (none)) else (none)) else (none))) = some r := by rw [if_pos rfl] at H; exact H
                  clear H
                  have H := H1
                  clear H1
                  by_cases c17 : a2 > (l1.length : Int)
                  · rw [if_pos c17] at H
                    exact absurd H (by simp)
                  · rw [if_neg c17] at H
                    have c17b0 : decide ((l1.length : Int) < a2) = false := decide_eq_false c17
                    clear c17
                    by_cases c18 : 0 ≤ a2
                    · rw [if_pos c18] at H
                      have c18b0 := eq_true c18
                      have c18b1 : decide (0 ≤ a2) = true := decide_eq_true c18
                      clear c18
                      by_cases c19 : a2 ≤ (l0.length : Int)
                      · rw [if_pos c19] at H
                        have c19b0 := eq_true c19
                        have c19b1 : decide (a2 ≤ (l0.length : Int)) = true := decide_eq_true c19
                        clear c19
                        obtain ⟨y832, hy832⟩ : ∃ y_ : List (List Int), y_ = (l0.take (a2 : Int).toNat) := ⟨_, rfl⟩
                        replace H : (if a2 ≤ (l1.length : Int) then ((chain_Check.f kj13 y832 (l1.take (a2 : Int).toNat)).bind fun t840 => (some (t840 == (-1)))) else (none)) = some r := by first | (rw [hy832]; with_reducible exact H) | (have H2_ := (Option.bind_some _ _).symm.trans H; rw [hy832]; with_reducible exact H2_) | (have H2_ := (Option.bind_some _ _).symm.trans H; with_reducible exact H2_) | with_reducible exact H | (rw [hy832]; exact H) | exact H
                        have Ny832 := Aside0.mk hy832
                        clear hy832
                        have c20b0 := eq_true (of_decide_eq_true (by first | (with_reducible assumption) | assumption) : 0 ≤ a2)
                        by_cases c21 : a2 ≤ (l1.length : Int)
                        · rw [if_pos c21] at H
                          have c21b0 := eq_true c21
                          have c21b1 : decide (a2 ≤ (l1.length : Int)) = true := decide_eq_true c21
                          clear c21
                          obtain ⟨y836, hy836⟩ : ∃ y_ : List (S60), y_ = (l1.take (a2 : Int).toNat) := ⟨_, rfl⟩
                          replace H : ((chain_Check.f kj13 y832 y836).bind fun t840 => (some (t840 == (-1)))) = some r := by first | (rw [hy836]; with_reducible exact H) | (have H2_ := (Option.bind_some _ _).symm.trans H; rw [hy836]; with_reducible exact H2_) | (have H2_ := (Option.bind_some _ _).symm.trans H; with_reducible exact H2_) | with_reducible exact H | (rw [hy836]; exact H) | exact H
                          have Ny836 := Aside0.mk hy836
                          clear hy836
                          replace H := Option.bind_eq_some_iff.mp H
                          obtain ⟨t840, A220, H⟩ := H
                          replace H : (some (t840 == (-1))) = some r := H
                          have A22 := Aside0.mk A220
                          clear A220
                          obtain rfl := Option.some.inj H
                          try go_wp2
                          have n0_ := Aside0.mk (below_drew1 HB.out)
                          clear HB
                          have HB := n0_
                          clear n0_
                          have q24 : (a2 : Int) ≤ ((l0.length : Int) : Int) := of_decide_eq_true (by first | (with_reducible assumption) | assumption)
                          obtain ⟨i024, hi024, _, hsz24, _⟩ := info_parts info24
                          have hroom24 : l0.length ≤ c0 := HC0.out
                          have hC24 : Kd.C (Kd.slice 5 (Kd.int .u8)) _ A0 l0.length l0 := HR0.out
                          have hcut24 := cut_to (P := Try.prog) 65 24 .i64 Try.underlying65 hi024 A0 l0.length c0 a2 (of_decide_eq_true (by first | (with_reducible assumption) | assumption)) q24 hroom24
                          have hr24 := Kd.C_take (m := (a2 : Int).toNat) hC24 (by omega)
                          have hy24 : y832.length = (a2 : Int).toNat := (by rw [Ny832.out, List.length_take]; omega)
                          rw [← Ny832.out] at hr24
                          rw [← hy24] at hcut24
                          have HR835 := Aside0.mk hr24
                          have HC835 := Aside0.mk (show y832.length ≤ c0 from by omega)
                          clear hr24 hC24 hroom24 hi024 hsz24
                          have KY24 := Aside0.mk hy24
                          clear hy24
                          replace q24 := eq_true q24
                          have q25 : (a2 : Int) ≤ ((l1.length : Int) : Int) := of_decide_eq_true (by first | (with_reducible assumption) | assumption)
                          obtain ⟨i025, hi025, _, hsz25, _⟩ := info_parts info60
                          have hroom25 : l1.length ≤ c1 := HC1.out
                          have hC25 : Kd.C k60 _ A1 l1.length l1 := HR1.out
                          have hcut25 := cut_to (P := Try.prog) 66 60 .i64 Try.underlying66 hi025 A1 l1.length c1 a2 (of_decide_eq_true (by first | (with_reducible assumption) | assumption)) q25 hroom25
                          have hr25 := Kd.C_take (m := (a2 : Int).toNat) hC25 (by omega)
                          have hy25 : y836.length = (a2 : Int).toNat := (by rw [Ny836.out, List.length_take]; omega)
                          rw [← Ny836.out] at hr25
                          rw [← hy25] at hcut25
                          have HR839 := Aside0.mk hr25
                          have HC839 := Aside0.mk (show y836.length ≤ c1 from by omega)
                          clear hr25 hC25 hroom25 hi025 hsz25
                          have KY25 := Aside0.mk hy25
                          clear hy25
                          replace q25 := eq_true q25
                          refine start_ (n := 9) (S := fun w' => True) (ds := []) #[false, false, false, false, false, false, false, false, false] (by kernel_rfl) rfl rfl trivial (fun hHeld => ?_); refine with_tabW reevelaw03_ChainStarts.tab12 reevelaw03_ChainStarts.bits12 (fun HT_ HW_ => ?_)
                          generalize wc.drew = w23 at HB HR835 HR839 hHeld ⊢
                          refine pure_ (i := 0) (N := some 43) (v := ?_) (a' := ?_) #[true, false, false, false, false, false, false, false, false] rfl rfl (any_of HT_.out (by kernel_rfl)) (fun _ _ _ h => h) (Or.inl ⟨by rfl, ?_⟩) ?_ ?_
                          rotate_left
                          · intro w'
                            go_simp
                            with_reducible rfl
                          rotate_left
                          · simp only [Act.put, List.setIfInBounds_toArray, List.set_cons_zero, List.set_cons_succ, i64_w, i32_w]
                            rfl
                          refine pure_ (i := 1) (N := some 44) (v := ?_) (a' := ?_) #[true, true, false, false, false, false, false, false, false] rfl rfl (any_of HT_.out (by kernel_rfl)) (fun _ _ _ h => h) (Or.inl ⟨by rfl, ?_⟩) ?_ ?_
                          rotate_left
                          · intro w'
                            go_simp
                            with_reducible rfl
                          rotate_left
                          · simp only [Act.put, List.setIfInBounds_toArray, List.set_cons_zero, List.set_cons_succ, i64_w, i32_w]
                            rfl
                          refine pure_ (i := 2) (N := some 45) (v := ?_) (a' := ?_) #[true, true, true, false, false, false, false, false, false] rfl rfl (any_of HT_.out (by kernel_rfl)) (fun _ _ _ h => h) (Or.inl ⟨by rfl, ?_⟩) ?_ ?_
                          rotate_left
                          · intro w'
                            go_simp
                            with_reducible rfl
                          rotate_left
                          · simp only [Act.put, List.setIfInBounds_toArray, List.set_cons_zero, List.set_cons_succ, i64_w, i32_w]
                            rfl
                          refine pure_ (i := 3) (N := some 46) (v := ?_) (a' := ?_) #[true, true, true, true, false, false, false, false, false] rfl rfl (any_of HT_.out (by kernel_rfl)) (fun _ _ _ h => h) (Or.inl ⟨by rfl, ?_⟩) ?_ ?_
                          rotate_left
                          · intro w'
                            go_simp
                            with_reducible rfl
                          rotate_left
                          · simp only [Act.put, List.setIfInBounds_toArray, List.set_cons_zero, List.set_cons_succ, i64_w, i32_w]
                            rfl
                          refine pure_ (i := 4) (N := some 47) (v := ?_) (a' := ?_) #[true, true, true, true, true, false, false, false, false] rfl rfl (any_of HT_.out (by kernel_rfl)) (fun _ _ _ h => h) (Or.inl ⟨by rfl, ?_⟩) ?_ ?_
                          rotate_left
                          · intro w'
                            go_simp
                            with_reducible rfl
                          rotate_left
                          · simp only [Act.put, List.setIfInBounds_toArray, List.set_cons_zero, List.set_cons_succ, i64_w, i32_w]
                            rfl
                          refine pure_ (i := 5) (N := some 48) (v := ?_) (a' := ?_) #[true, true, true, true, true, true, false, false, false] rfl rfl (any_of HT_.out (by kernel_rfl)) (fun _ _ _ h => h) (Or.inl ⟨by rfl, ?_⟩) ?_ ?_
                          rotate_left
                          · intro w'
                            go_simp
                            with_reducible rfl
                          rotate_left
                          · simp only [Act.put, List.setIfInBounds_toArray, List.set_cons_zero, List.set_cons_succ, i64_w, i32_w]
                            rfl
                          refine one_ (i := 6) (N := some 49) #[true, true, true, true, true, true, true, false, false] rfl rfl (one_of HT_.out (by kernel_rfl)) (by decide) (fun K hK => ?_)
                          refine goes_ Try.func57 (by kernel_rfl) rfl #[.slice A0 y832.length c0, .slice A1 y836.length c1] (by rfl) rfl rfl (by (try simp only [List.map_toArray, List.map_cons, List.map_nil]); first | done | rfl | (simp only [List.length_drop, List.length_take]; rfl)) ?_
                          with_reducible refine (chain_Check.calls kj13 _ _ y832 _ _ y836 t840 _ ?side1 ?side2 ?side3 ?side4 A22.out).mono ?_
                          (case side1 => repeat (first | exact (Kd.C_below HR835.out HB.out) | (with_reducible refine Kd.C_alloc ?_ _) | (with_reducible refine Kd.C_drewN ?_ _) | (with_reducible refine Kd.C_drew ?_)))
                          (case side2 => exact HC835.out)
                          (case side3 => repeat (first | exact (Kd.C_below HR839.out HB.out) | (with_reducible refine Kd.C_alloc ?_ _) | (with_reducible refine Kd.C_drewN ?_ _) | (with_reducible refine Kd.C_drew ?_)))
                          (case side4 => exact HC839.out)
                          rintro e w26 ⟨rfl, hb⟩
                          refine ⟨_, rfl, ?_⟩
                          have n0_ := Aside0.mk (below_step (by repeat (first | (with_reducible first | exact HB.out | apply below_alloc | apply pw_below_drewN | apply below_drew1) | exact HB.out)) hb)
                          clear HB
                          have HB := n0_
                          clear n0_
                          (try clear hb)
                          (try clear hb2)
                          (try clear hk)
                          (try clear hi)
                          refine hK.out _ _ trivial (fun hHeld => ?_)
                          clear hK K
                          refine norm_ (a' := ?_) ?_ ?_
                          rotate_left
                          · show Act.put _ (some 49) _ = _
                            simp only [Act.put, List.setIfInBounds_toArray, List.set_cons_zero, List.set_cons_succ, i64_w, i32_w]
                            rfl
                          refine pure_ (i := 7) (N := some 50) (v := ?_) (a' := ?_) #[true, true, true, true, true, true, true, true, false] rfl rfl (any_of HT_.out (by kernel_rfl)) (fun _ _ _ h => h) (Or.inl ⟨by rfl, ?_⟩) ?_ ?_
                          rotate_left
                          · intro w'
                            go_simp
                            with_reducible rfl
                          rotate_left
                          · simp only [Act.put, List.setIfInBounds_toArray, List.set_cons_zero, List.set_cons_succ, i64_w, i32_w]
                            rfl
                          refine pure_ (i := 8) (N := some 6) (v := ?_) (a' := ?_) #[true, true, true, true, true, true, true, true, true] rfl rfl (any_of HT_.out (by kernel_rfl)) (fun _ _ _ h => h) (Or.inl ⟨by rfl, ?_⟩) ?_ ?_
                          rotate_left
                          · intro w'
                            go_simp
                            with_reducible rfl
                          rotate_left
                          · simp only [Act.put, List.setIfInBounds_toArray, List.set_cons_zero, List.set_cons_succ, i64_w, i32_w]
                            rfl
                          refine done_ (done_of HT_.out (by kernel_rfl)) ?_
                          try go_wp2
                          go_ret
                          exact ⟨by first | rfl | (simp [errW_none, errW_some] <;> rfl) | (simp [*, errW_none, errW_some] <;> rfl), by repeat (first | (with_reducible first | exact HB.out | apply below_alloc | apply pw_below_drewN | apply below_drew1) | exact HB.out)⟩
                        · rw [if_neg c21] at H
                          exact absurd H (by simp)
                      · rw [if_neg c19] at H
                        exact absurd H (by simp)
                    · rw [if_neg c18] at H
                      exact absurd H (by simp)
                · replace c16 := Bool.eq_false_iff.mpr c16
                  subst c16
                  have H1 : (if x9_11 > (l1.length : Int) then (none) else (if 0 ≤ x9_11 then (if x9_11 ≤ (l0.length : Int) then (if x9_11 ≤ (l1.length : Int) then ((chain_Check.f kj13 (l0.take (x9_11 : Int).toNat) (l1.take (x9_11 : Int).toNat)).bind fun t849 => (some (t849 == (-1)))) else (none)) else (none)) else (none))) = some r := by rw [if_neg (show ¬ (false = true) by decide)] at H; exact H
                  clear H
                  have H := H1
                  clear H1
                  by_cases c27 : x9_11 > (l1.length : Int)
                  · rw [if_pos c27] at H
                    exact absurd H (by simp)
                  · rw [if_neg c27] at H
                    have c27b0 : decide ((l1.length : Int) < x9_11) = false := decide_eq_false c27
                    clear c27
                    by_cases c28 : 0 ≤ x9_11
                    · rw [if_pos c28] at H
                      have c28b0 := eq_true c28
                      have c28b1 : decide (0 ≤ x9_11) = true := decide_eq_true c28
                      clear c28
                      by_cases c29 : x9_11 ≤ (l0.length : Int)
                      · rw [if_pos c29] at H
                        have c29b0 := eq_true c29
                        have c29b1 : decide (x9_11 ≤ (l0.length : Int)) = true := decide_eq_true c29
                        clear c29
                        obtain ⟨y841, hy841⟩ : ∃ y_ : List (List Int), y_ = (l0.take (x9_11 : Int).toNat) := ⟨_, rfl⟩
                        replace H : (if x9_11 ≤ (l1.length : Int) then ((chain_Check.f kj13 y841 (l1.take (x9_11 : Int).toNat)).bind fun t849 => (some (t849 == (-1)))) else (none)) = some r := by first | (rw [hy841]; with_reducible exact H) | (have H2_ := (Option.bind_some _ _).symm.trans H; rw [hy841]; with_reducible exact H2_) | (have H2_ := (Option.bind_some _ _).symm.trans H; with_reducible exact H2_) | with_reducible exact H | (rw [hy841]; exact H) | exact H
                        have Ny841 := Aside0.mk hy841
                        clear hy841
                        have c30b0 := eq_true (of_decide_eq_true (by first | (with_reducible assumption) | assumption) : 0 ≤ x9_11)
                        by_cases c31 : x9_11 ≤ (l1.length : Int)
                        · rw [if_pos c31] at H
                          have c31b0 := eq_true c31
                          have c31b1 : decide (x9_11 ≤ (l1.length : Int)) = true := decide_eq_true c31
                          clear c31
                          obtain ⟨y845, hy845⟩ : ∃ y_ : List (S60), y_ = (l1.take (x9_11 : Int).toNat) := ⟨_, rfl⟩
                          replace H : ((chain_Check.f kj13 y841 y845).bind fun t849 => (some (t849 == (-1)))) = some r := by first | (rw [hy845]; with_reducible exact H) | (have H2_ := (Option.bind_some _ _).symm.trans H; rw [hy845]; with_reducible exact H2_) | (have H2_ := (Option.bind_some _ _).symm.trans H; with_reducible exact H2_) | with_reducible exact H | (rw [hy845]; exact H) | exact H
                          have Ny845 := Aside0.mk hy845
                          clear hy845
                          replace H := Option.bind_eq_some_iff.mp H
                          obtain ⟨t849, A320, H⟩ := H
                          replace H : (some (t849 == (-1))) = some r := H
                          have A32 := Aside0.mk A320
                          clear A320
                          obtain rfl := Option.some.inj H
                          try go_wp2
                          have n0_ := Aside0.mk (below_drew1 HB.out)
                          clear HB
                          have HB := n0_
                          clear n0_
                          have q34 : (x9_11 : Int) ≤ ((l0.length : Int) : Int) := of_decide_eq_true (by first | (with_reducible assumption) | assumption)
                          obtain ⟨i034, hi034, _, hsz34, _⟩ := info_parts info24
                          have hroom34 : l0.length ≤ c0 := HC0.out
                          have hC34 : Kd.C (Kd.slice 5 (Kd.int .u8)) _ A0 l0.length l0 := HR0.out
                          have hcut34 := cut_to (P := Try.prog) 65 24 .i64 Try.underlying65 hi034 A0 l0.length c0 x9_11 (of_decide_eq_true (by first | (with_reducible assumption) | assumption)) q34 hroom34
                          have hr34 := Kd.C_take (m := (x9_11 : Int).toNat) hC34 (by omega)
                          have hy34 : y841.length = (x9_11 : Int).toNat := (by rw [Ny841.out, List.length_take]; omega)
                          rw [← Ny841.out] at hr34
                          rw [← hy34] at hcut34
                          have HR844 := Aside0.mk hr34
                          have HC844 := Aside0.mk (show y841.length ≤ c0 from by omega)
                          clear hr34 hC34 hroom34 hi034 hsz34
                          have KY34 := Aside0.mk hy34
                          clear hy34
                          replace q34 := eq_true q34
                          have q35 : (x9_11 : Int) ≤ ((l1.length : Int) : Int) := of_decide_eq_true (by first | (with_reducible assumption) | assumption)
                          obtain ⟨i035, hi035, _, hsz35, _⟩ := info_parts info60
                          have hroom35 : l1.length ≤ c1 := HC1.out
                          have hC35 : Kd.C k60 _ A1 l1.length l1 := HR1.out
                          have hcut35 := cut_to (P := Try.prog) 66 60 .i64 Try.underlying66 hi035 A1 l1.length c1 x9_11 (of_decide_eq_true (by first | (with_reducible assumption) | assumption)) q35 hroom35
                          have hr35 := Kd.C_take (m := (x9_11 : Int).toNat) hC35 (by omega)
                          have hy35 : y845.length = (x9_11 : Int).toNat := (by rw [Ny845.out, List.length_take]; omega)
                          rw [← Ny845.out] at hr35
                          rw [← hy35] at hcut35
                          have HR848 := Aside0.mk hr35
                          have HC848 := Aside0.mk (show y845.length ≤ c1 from by omega)
                          clear hr35 hC35 hroom35 hi035 hsz35
                          have KY35 := Aside0.mk hy35
                          clear hy35
                          replace q35 := eq_true q35
                          refine start_ (n := 9) (S := fun w' => True) (ds := []) #[false, false, false, false, false, false, false, false, false] (by kernel_rfl) rfl rfl trivial (fun hHeld => ?_); refine with_tabW reevelaw03_ChainStarts.tab12 reevelaw03_ChainStarts.bits12 (fun HT_ HW_ => ?_)
                          generalize wc.drew = w33 at HB HR844 HR848 hHeld ⊢
                          refine pure_ (i := 0) (N := some 43) (v := ?_) (a' := ?_) #[true, false, false, false, false, false, false, false, false] rfl rfl (any_of HT_.out (by kernel_rfl)) (fun _ _ _ h => h) (Or.inl ⟨by rfl, ?_⟩) ?_ ?_
                          rotate_left
                          · intro w'
                            go_simp
                            with_reducible rfl
                          rotate_left
                          · simp only [Act.put, List.setIfInBounds_toArray, List.set_cons_zero, List.set_cons_succ, i64_w, i32_w]
                            rfl
                          refine pure_ (i := 1) (N := some 44) (v := ?_) (a' := ?_) #[true, true, false, false, false, false, false, false, false] rfl rfl (any_of HT_.out (by kernel_rfl)) (fun _ _ _ h => h) (Or.inl ⟨by rfl, ?_⟩) ?_ ?_
                          rotate_left
                          · intro w'
                            go_simp
                            with_reducible rfl
                          rotate_left
                          · simp only [Act.put, List.setIfInBounds_toArray, List.set_cons_zero, List.set_cons_succ, i64_w, i32_w]
                            rfl
                          refine pure_ (i := 2) (N := some 45) (v := ?_) (a' := ?_) #[true, true, true, false, false, false, false, false, false] rfl rfl (any_of HT_.out (by kernel_rfl)) (fun _ _ _ h => h) (Or.inl ⟨by rfl, ?_⟩) ?_ ?_
                          rotate_left
                          · intro w'
                            go_simp
                            with_reducible rfl
                          rotate_left
                          · simp only [Act.put, List.setIfInBounds_toArray, List.set_cons_zero, List.set_cons_succ, i64_w, i32_w]
                            rfl
                          refine pure_ (i := 3) (N := some 46) (v := ?_) (a' := ?_) #[true, true, true, true, false, false, false, false, false] rfl rfl (any_of HT_.out (by kernel_rfl)) (fun _ _ _ h => h) (Or.inl ⟨by rfl, ?_⟩) ?_ ?_
                          rotate_left
                          · intro w'
                            go_simp
                            with_reducible rfl
                          rotate_left
                          · simp only [Act.put, List.setIfInBounds_toArray, List.set_cons_zero, List.set_cons_succ, i64_w, i32_w]
                            rfl
                          refine pure_ (i := 4) (N := some 47) (v := ?_) (a' := ?_) #[true, true, true, true, true, false, false, false, false] rfl rfl (any_of HT_.out (by kernel_rfl)) (fun _ _ _ h => h) (Or.inl ⟨by rfl, ?_⟩) ?_ ?_
                          rotate_left
                          · intro w'
                            go_simp
                            with_reducible rfl
                          rotate_left
                          · simp only [Act.put, List.setIfInBounds_toArray, List.set_cons_zero, List.set_cons_succ, i64_w, i32_w]
                            rfl
                          refine pure_ (i := 5) (N := some 48) (v := ?_) (a' := ?_) #[true, true, true, true, true, true, false, false, false] rfl rfl (any_of HT_.out (by kernel_rfl)) (fun _ _ _ h => h) (Or.inl ⟨by rfl, ?_⟩) ?_ ?_
                          rotate_left
                          · intro w'
                            go_simp
                            with_reducible rfl
                          rotate_left
                          · simp only [Act.put, List.setIfInBounds_toArray, List.set_cons_zero, List.set_cons_succ, i64_w, i32_w]
                            rfl
                          refine one_ (i := 6) (N := some 49) #[true, true, true, true, true, true, true, false, false] rfl rfl (one_of HT_.out (by kernel_rfl)) (by decide) (fun K hK => ?_)
                          refine goes_ Try.func57 (by kernel_rfl) rfl #[.slice A0 y841.length c0, .slice A1 y845.length c1] (by rfl) rfl rfl (by (try simp only [List.map_toArray, List.map_cons, List.map_nil]); first | done | rfl | (simp only [List.length_drop, List.length_take]; rfl)) ?_
                          with_reducible refine (chain_Check.calls kj13 _ _ y841 _ _ y845 t849 _ ?side1 ?side2 ?side3 ?side4 A32.out).mono ?_
                          (case side1 => repeat (first | exact (Kd.C_below HR844.out HB.out) | (with_reducible refine Kd.C_alloc ?_ _) | (with_reducible refine Kd.C_drewN ?_ _) | (with_reducible refine Kd.C_drew ?_)))
                          (case side2 => exact HC844.out)
                          (case side3 => repeat (first | exact (Kd.C_below HR848.out HB.out) | (with_reducible refine Kd.C_alloc ?_ _) | (with_reducible refine Kd.C_drewN ?_ _) | (with_reducible refine Kd.C_drew ?_)))
                          (case side4 => exact HC848.out)
                          rintro e w36 ⟨rfl, hb⟩
                          refine ⟨_, rfl, ?_⟩
                          have n0_ := Aside0.mk (below_step (by repeat (first | (with_reducible first | exact HB.out | apply below_alloc | apply pw_below_drewN | apply below_drew1) | exact HB.out)) hb)
                          clear HB
                          have HB := n0_
                          clear n0_
                          (try clear hb)
                          (try clear hb2)
                          (try clear hk)
                          (try clear hi)
                          refine hK.out _ _ trivial (fun hHeld => ?_)
                          clear hK K
                          refine norm_ (a' := ?_) ?_ ?_
                          rotate_left
                          · show Act.put _ (some 49) _ = _
                            simp only [Act.put, List.setIfInBounds_toArray, List.set_cons_zero, List.set_cons_succ, i64_w, i32_w]
                            rfl
                          refine pure_ (i := 7) (N := some 50) (v := ?_) (a' := ?_) #[true, true, true, true, true, true, true, true, false] rfl rfl (any_of HT_.out (by kernel_rfl)) (fun _ _ _ h => h) (Or.inl ⟨by rfl, ?_⟩) ?_ ?_
                          rotate_left
                          · intro w'
                            go_simp
                            with_reducible rfl
                          rotate_left
                          · simp only [Act.put, List.setIfInBounds_toArray, List.set_cons_zero, List.set_cons_succ, i64_w, i32_w]
                            rfl
                          refine pure_ (i := 8) (N := some 6) (v := ?_) (a' := ?_) #[true, true, true, true, true, true, true, true, true] rfl rfl (any_of HT_.out (by kernel_rfl)) (fun _ _ _ h => h) (Or.inl ⟨by rfl, ?_⟩) ?_ ?_
                          rotate_left
                          · intro w'
                            go_simp
                            with_reducible rfl
                          rotate_left
                          · simp only [Act.put, List.setIfInBounds_toArray, List.set_cons_zero, List.set_cons_succ, i64_w, i32_w]
                            rfl
                          refine done_ (done_of HT_.out (by kernel_rfl)) ?_
                          try go_wp2
                          go_ret
                          exact ⟨by first | rfl | (simp [errW_none, errW_some] <;> rfl) | (simp [*, errW_none, errW_some] <;> rfl), by repeat (first | (with_reducible first | exact HB.out | apply below_alloc | apply pw_below_drewN | apply below_drew1) | exact HB.out)⟩
                        · rw [if_neg c31] at H
                          exact absurd H (by simp)
                      · rw [if_neg c29] at H
                        exact absurd H (by simp)
                    · rw [if_neg c28] at H
                      exact absurd H (by simp)
end Go.Proofs.Ytbiijcehgiibeaa.Q
namespace Go.Proofs.Ytbiijcehgiibeaa.M
def plus (x y : Int × Int) : Int × Int := ((x.1 + y.1) % 16777199, (x.2 + y.2) % 16777199)
end Go.Proofs.Ytbiijcehgiibeaa.M
namespace Go.Proofs.Ytbiijcehgiibeaa.Pure
open Go.RowKit Go.Proofs.Ytbiijcehgiibeaa.Q Go.Proofs.YtbiijcehgiibeaaW.PrintWords
theorem tmod_P (n : Int) : n.tmod 16777199 = if 0 ≤ n then n % 16777199 else -((-n) % 16777199) := by
  split
  · exact Int.tmod_eq_emod_of_nonneg ‹_›
  · have := Int.neg_tmod (a := -n) (b := 16777199)
    rw [Int.neg_neg] at this
    rw [this, Int.tmod_eq_emod_of_nonneg (by omega)]
theorem bytes_of {l : List Int} (h : ∀ x ∈ l, (Lit.int .u8 x).wf = true) : M.bytes l = true := by
  unfold M.bytes
  rw [List.all_eq_true]
  intro x hx
  have := h x hx
  simp only [Lit.wf, Bool.and_eq_true, decide_eq_true_eq] at this
  have h1 : (0 : Int) ≤ x := this.1
  have h2 : x ≤ 255 := this.2
  exact decide_eq_true (by omega)
theorem add_ok {a b : Int} {l : List Int} (h : M.right a b = true) (hb : M.bytes l = true) (hl : (l.length : Int) ≤ 9223372036854775807) : seal_Add.f a b l = some ((M.add (a, b) l).1, (M.add (a, b) l).2, 0) := by
  unfold seal_Add.f
  rw [if_pos h, if_pos hb, if_pos hl]
end Go.Proofs.Ytbiijcehgiibeaa.Pure
namespace Go.Proofs.Ytbiijcehgiibeaa.M
def sum : Nat → (Nat → Int × Int) → Int × Int
  | 0, _ => (0, 0)
  | n + 1, f => plus (sum n f) (f n)
theorem zero_mul (x : Int × Int) : mul (0, 0) x = (0, 0) := by unfold mul; refine Prod.ext ?_ ?_ <;> simp only <;> omega
end Go.Proofs.Ytbiijcehgiibeaa.M
namespace Go.Proofs.Ytbiijcehgiibeaa.Q
open Go.RowKit Go.Proofs.YtbiijcehgiibeaaW.PrintWords Go.Proofs.YtbiijcehgiibeaaW.PrintLast Go.Proofs.YtbiijcehgiibeaaW.PrintMore
attribute [local go_sem] max2_int min2_int max_two min_two max_three min_three max_four min_four   -- for this text's walks alone
set_option linter.unusedVariables false
set_option linter.unusedSimpArgs false
def reeveref02_Right.f (a0_0 : Int) (a0_1 : Int) : Option (Bool) := if a0_0 ≥ 0 then (if a0_0 < 16777199 then (if a0_1 ≥ 0 then (some (decide (a0_1 < 16777199))) else (some false)) else (some false)) else (some false)
end Go.Proofs.Ytbiijcehgiibeaa.Q
namespace Go.Proofs.Ytbiijcehgiibeaa.Pure
open Go.RowKit Go.Proofs.Ytbiijcehgiibeaa.Q Go.Proofs.YtbiijcehgiibeaaW.PrintWords
set_option linter.unusedVariables false
set_option linter.unusedSimpArgs false
theorem rright (a b : Int) : reeveref02_Right.f a b = some (M.right a b) := by
  unfold reeveref02_Right.f M.right
  by_cases h1 : 0 ≤ a
  · rw [if_pos h1]
    by_cases h2 : a < 16777199
    · rw [if_pos h2]
      by_cases h3 : 0 ≤ b
      · rw [if_pos h3]; congr 1; simp [h1, h2, h3]
      · rw [if_neg h3]; congr 1; simp [h3]
    · rw [if_neg h2]; congr 1; simp [h2]
  · rw [if_neg h1]; congr 1; simp [h1]
theorem w64 {n : Int} (h1 : -9223372036854775808 ≤ n) (h2 : n ≤ 9223372036854775807) : wrap64 n = n := by unfold wrap64; omega
end Go.Proofs.Ytbiijcehgiibeaa.Pure
namespace Go.Proofs.Ytbiijcehgiibeaa.Pure
open Go.RowKit Go.Proofs.Ytbiijcehgiibeaa.Q Go.Proofs.YtbiijcehgiibeaaW.PrintWords
set_option linter.unusedVariables false
set_option linter.unusedSimpArgs false
theorem awake03 (k : Nat) : reevelaw03_awake.f (k + 10) = some true := by kernel_rfl
def may (x : S60) : Bool := decide (0 ≤ x.f0 ∧ x.f0 ≤ 10000 ∧ 0 ≤ x.f1 ∧ x.f1 ≤ 4194304) && M.right x.f2.f0 x.f2.f1
def next (x : S60) (b : List Int) : S60 × Int :=
  if may x = true then if (b.length : Int) > 4194304 then (z60, 2) else if x.f0 = 10000 then (z60, 3) else (⟨x.f0 + 1, b.length, ⟨(M.add (x.f2.f0, x.f2.f1) b).1, (M.add (x.f2.f0, x.f2.f1) b).2⟩⟩, 0) else (z60, 30)
theorem may_iff {x : S60} : may x = true ↔ (0 ≤ x.f0 ∧ x.f0 ≤ 10000 ∧ 0 ≤ x.f1 ∧ x.f1 ≤ 4194304) ∧ M.right x.f2.f0 x.f2.f1 = true := by
  unfold may
  rw [Bool.and_eq_true, decide_eq_true_iff]
theorem cmay (x : S60) : chain_may.f x.f0 x.f1 x.f2.f0 x.f2.f1 = some (may x) := by
  unfold chain_may.f may
  rw [show seal_Right.f x.f2.f0 x.f2.f1 = some (M.right x.f2.f0 x.f2.f1) from rright _ _]
  simp only [Option.bind_some]
  by_cases h1 : x.f0 ≥ 0
  · rw [if_pos h1]
    by_cases h2 : x.f0 ≤ 10000
    · rw [if_pos h2]
      by_cases h3 : x.f1 ≥ 0
      · rw [if_pos h3]
        by_cases h4 : x.f1 ≤ 4194304
        · rw [if_pos h4, decide_eq_true (show 0 ≤ x.f0 ∧ x.f0 ≤ 10000 ∧ 0 ≤ x.f1 ∧ x.f1 ≤ 4194304 by omega), Bool.true_and]
        · rw [if_neg h4, decide_eq_false (by omega), Bool.false_and]
      · rw [if_neg h3, decide_eq_false (by omega), Bool.false_and]
    · rw [if_neg h2, decide_eq_false (by omega), Bool.false_and]
  · rw [if_neg h1, decide_eq_false (by omega), Bool.false_and]
theorem cnext (x : S60) {b : List Int} (hb : M.bytes b = true) (hl : (b.length : Int) ≤ 9223372036854775807) :
    chain_Next.f x.f0 x.f1 x.f2.f0 x.f2.f1 b = some ((next x b).1.f0, (next x b).1.f1, (next x b).1.f2.f0, (next x b).1.f2.f1, (next x b).2) := by
  unfold chain_Next.f next
  rw [cmay]
  simp only [Option.bind_some]
  by_cases h : may x = true
  · have h' := may_iff.1 h
    rw [if_pos h, if_pos h]
    by_cases h1 : (b.length : Int) > 4194304
    · rw [if_pos h1, if_pos h1]; rfl
    · rw [if_neg h1, if_neg h1]
      by_cases h2 : x.f0 = 10000
      · rw [if_pos h2, if_pos h2]; rfl
      · rw [if_neg h2, if_neg h2, add_ok h'.2 hb hl, w64 (n := x.f0 + 1) (by omega) (by omega)]
        rfl
  · rw [if_neg h, if_neg h]; rfl
def eqv (x y : S60) : Bool := (x.f0 == y.f0) && ((x.f1 == y.f1) && ((x.f2.f0 == y.f2.f0) && (x.f2.f1 == y.f2.f1)))
theorem eqv_not (x y : S60) : (!(x.f0 == y.f0) || (!(x.f1 == y.f1) || ((!(x.f2.f0 == y.f2.f0) || (!(x.f2.f1 == y.f2.f1)))))) = !eqv x y := by
  unfold eqv
  simp only [Bool.not_and]
def good : S60 → List (List Int) → List S60 → Nat
  | _, [], _ => 0
  | _, _ :: _, [] => 0
  | x, b :: ps, l :: ls => if (next x b).2 = 0 ∧ eqv (next x b).1 l = true then 1 + good (next x b).1 ps ls else 0
theorem good_nil (x : S60) (ps : List (List Int)) : good x ps [] = 0 := by cases ps <;> rfl
theorem good_le : ∀ (ps : List (List Int)) (ls : List S60) (x : S60), good x ps ls ≤ ps.length ∧ good x ps ls ≤ ls.length
  | [], ls, x => ⟨Nat.le_refl _, Nat.zero_le _⟩
  | b :: ps, [], x => ⟨Nat.zero_le _, Nat.le_refl _⟩
  | b :: ps, l :: ls, x => by
    unfold good
    have := good_le ps ls (next x b).1
    split <;> simp <;> omega
theorem good_take : ∀ (ps : List (List Int)) (ls : List S60) (x : S60) (k : Nat), k ≤ good x ps ls → good x (ps.take k) (ls.take k) = k
  | [], ls, x, k, h => by simp [good] at h; subst h; simp [good]
  | b :: ps, [], x, k, h => by simp [good] at h; subst h; simp [good]
  | b :: ps, l :: ls, x, k, h => by
    cases k with
    | zero => simp [good]
    | succ k =>
      unfold good at h
      split at h
      · rename_i hc
        rw [List.take_succ_cons, List.take_succ_cons]
        unfold good
        rw [if_pos hc, good_take ps ls _ k (by omega)]
        omega
      · omega
def tell (ps : List (List Int)) (ls : List S60) (g : Nat) : Int := if g = ps.length ∧ ls.length ≤ ps.length then -1 else (g : Int)
def first : S60 := ⟨0, 0, ⟨1, 2⟩⟩
def check (ps : List (List Int)) (ls : List S60) : Int := tell ps ls (good first ps ls)
def rows (ps : List (List Int)) : Prop := ps.length ≤ 9223372036854775807 ∧ ∀ x ∈ ps, x.length ≤ 9223372036854775807 ∧ M.bytes x = true
theorem rows_of {ps : List (List Int)} (h : ps.length ≤ 9223372036854775807 ∧ ∀ x ∈ ps, x.length ≤ 9223372036854775807 ∧ ∀ y ∈ x, (Lit.int .u8 y).wf = true) : rows ps :=
  ⟨h.1, fun x hx => ⟨(h.2 x hx).1, bytes_of (h.2 x hx).2⟩⟩
theorem rows_take {ps : List (List Int)} (h : rows ps) (k : Nat) : rows (ps.take k) :=
  ⟨by rw [List.length_take]; have := h.1; omega, fun x hx => h.2 x (List.mem_of_mem_take hx)⟩
theorem ccheck0 {ps : List (List Int)} {ls : List S60} (hr : rows ps) : ∀ (k i : Nat) (x : S60), i ≤ ps.length → ps.length - i < k →
    chain_Check.l0 k ps ls (i : Int) ps (ps.length : Int) (i : Int) x.f0 x.f1 x.f2.f0 x.f2.f1 = some (tell ps ls (i + good x (ps.drop i) (ls.drop i))) := by
  intro k
  have hm := hr.1
  induction k with
  | zero => intro i x _ h; omega
  | succ k ih =>
    intro i x hi hk
    simp only [chain_Check.l0]
    have tail : ∀ g : Nat, (if (g : Int) = (ps.length : Int) then (if (ls.length : Int) ≤ (ps.length : Int) then some (-1) else some (g : Int)) else some (g : Int)) = some (tell ps ls g) := by
      intro g
      unfold tell
      by_cases h1 : g = ps.length
      · rw [if_pos (by omega)]
        by_cases h2 : ls.length ≤ ps.length
        · rw [if_pos (by omega), if_pos ⟨h1, h2⟩]
        · rw [if_neg (by omega), if_neg (fun e => h2 e.2)]
      · rw [if_neg (by omega), if_neg (fun e => h1 e.1)]
    by_cases h : i < ps.length
    · have ep : ps.drop i = ps.getD i [] :: ps.drop (i + 1) := by
        rw [List.getD_eq_getElem?_getD, List.getElem?_eq_getElem h, List.drop_eq_getElem_cons h]; rfl
      have hmem : ps.getD i [] ∈ ps := by
        rw [List.getD_eq_getElem?_getD, List.getElem?_eq_getElem h]; exact List.getElem_mem h
      have er : rd_L2 ps (i : Int) = ps.getD i [] := by unfold rd_L2; rw [Int.toNat_natCast]
      rw [if_pos (by omega), if_pos (by omega), if_pos (by omega), er, cnext x (hr.2 _ hmem).2 (by have := (hr.2 _ hmem).1; omega)]
      simp only [Option.bind_some]
      rw [ep]
      by_cases h2 : i < ls.length
      · have el : ls.drop i = ls.getD i z60 :: ls.drop (i + 1) := by
          rw [List.getD_eq_getElem?_getD, List.getElem?_eq_getElem h2, List.drop_eq_getElem_cons h2]; rfl
        have et : rd_T60 ls (i : Int) = ls.getD i z60 := by unfold rd_T60; rw [Int.toNat_natCast]
        rw [if_neg (by omega), el, et]
        generalize ls.getD i z60 = l
        have eg : ∀ r s, good x (ps.getD i [] :: r) (l :: s) = if (next x (ps.getD i [])).2 = 0 ∧ eqv (next x (ps.getD i [])).1 l = true then 1 + good (next x (ps.getD i [])).1 r s else 0 := fun _ _ => rfl
        rw [eg]
        generalize next x (ps.getD i []) = y
        rw [eqv_not]
        by_cases h3 : y.2 = 0
        · rw [if_pos h3, if_pos (by omega), if_pos (by omega)]
          by_cases h4 : eqv y.1 l = true
          · rw [h4, if_neg (by decide), if_pos ⟨h3, rfl⟩, w64 (n := (i : Int) + 1) (by omega) (by omega), show ((i : Int) + 1) = ((i + 1 : Nat) : Int) by omega, ih (i + 1) y.1 (by omega) (by omega), Nat.add_assoc]
          · rw [if_pos (by simp [h4]), if_neg (c := y.2 = 0 ∧ eqv y.1 l = true) (fun e => h4 e.2)]
            exact tail i
        · rw [if_neg h3, if_neg (c := y.2 = 0 ∧ eqv y.1 l = true) (fun e => h3 e.1)]
          exact tail i
      · rw [if_pos (by omega), List.drop_of_length_le (l := ls) (by omega), good_nil, Nat.add_zero]
        exact tail i
    · rw [if_neg (by omega), List.drop_of_length_le (by omega)]
      exact tail i
theorem ccheck {ps : List (List Int)} {ls : List S60} (hr : rows ps) {k : Nat} (hk : ps.length < k) : chain_Check.f k ps ls = some (check ps ls) := by
  unfold chain_Check.f
  rw [show chain_First.f = some (first.f0, first.f1, first.f2.f0, first.f2.f1) from rfl]
  simp only [Option.bind_some]
  have := ccheck0 (ls := ls) hr k 0 first (by omega) (by omega)
  simpa [check] using this
def mk : S60 → List (List Int) → Option (List S60)
  | _, [] => some []
  | x, b :: ps => if (next x b).2 = 0 then (mk (next x b).1 ps).map ((next x b).1 :: ·) else none
end Go.Proofs.Ytbiijcehgiibeaa.Pure
namespace Go.Proofs.Ytbiijcehgiibeaa.Pure
open Go.RowKit Go.Proofs.Ytbiijcehgiibeaa.Q Go.Proofs.YtbiijcehgiibeaaW.PrintWords
theorem starts {ps : List (List Int)} {ls : List S60} {k : Nat} (h : k ≤ good first ps ls) : check (ps.take k) (ls.take k) = -1 := by
  have h1 := good_le ps ls first
  unfold check tell
  rw [good_take ps ls first k h, if_pos]
  simp only [List.length_take]
  omega
theorem ChainStarts (ps : List (List Int)) (ls : List S60) (n : Int) (h : ps.length ≤ 9223372036854775807 ∧ ∀ x ∈ ps, x.length ≤ 9223372036854775807 ∧ ∀ y ∈ x, (Lit.int .u8 y).wf = true) (_ : ls.length ≤ 9223372036854775807) (_ : (Lit.int .i64 n).wf = true) :
    ∃ k, reevelaw03_ChainStarts.f k ps ls n = some true := by
  have hr := rows_of h
  have hg := good_le ps ls first
  refine ⟨ps.length + 14, ?_⟩
  unfold reevelaw03_ChainStarts.f
  rw [show ps.length + 14 = (ps.length + 4) + 10 from rfl, awake03, ccheck hr (by omega)]
  simp only [Option.bind_some, if_true]
  have ht : check ps ls = -1 ∧ good first ps ls = ps.length ∨ check ps ls = (good first ps ls : Int) := by
    unfold check tell
    by_cases c : good first ps ls = ps.length ∧ ls.length ≤ ps.length
    · rw [if_pos c]; exact .inl ⟨rfl, c.1⟩
    · rw [if_neg c]; exact .inr rfl
  have j2 : ∀ (k : Nat) (x : Int), ps.length < k → 0 ≤ x → x ≤ good first ps ls → reevelaw03_ChainStarts.j2 (k + 1) ps ls n x (decide (n < x)) = some true ∨ n < 0 := by
    intro k x hk h0 hx
    by_cases hn : 0 ≤ n
    · left
      simp only [reevelaw03_ChainStarts.j2]
      by_cases c : n < x
      · rw [decide_eq_true c, if_pos rfl, if_neg (by omega), if_pos (by omega), if_pos (by omega), if_pos (by omega), ccheck (rows_take hr _) (by rw [List.length_take]; omega), starts (by omega)]
        rfl
      · rw [decide_eq_false c, if_neg (by decide), if_neg (by omega), if_pos (by omega), if_pos (by omega), if_pos (by omega), ccheck (rows_take hr _) (by rw [List.length_take]; omega), starts (by omega)]
        rfl
    · right; omega
  have j2' : ∀ (k : Nat) (x : Int), ps.length < k → 0 ≤ x → x ≤ good first ps ls → reevelaw03_ChainStarts.j2 (k + 1) ps ls n x false = some true := by
    intro k x hk h0 hx
    simp only [reevelaw03_ChainStarts.j2]
    rw [if_neg (by decide), if_neg (by omega), if_pos (by omega), if_pos (by omega), if_pos (by omega), ccheck (rows_take hr _) (by rw [List.length_take]; omega), starts (by omega)]
    rfl
  have j1 : ∀ (k : Nat) (x : Int), ps.length < k → 0 ≤ x → x ≤ good first ps ls → reevelaw03_ChainStarts.j1 (k + 2) ps ls n x = some true := by
    intro k x hk h0 hx
    simp only [reevelaw03_ChainStarts.j1]
    by_cases c : n ≥ 0
    · rw [if_pos c]
      rcases j2 k x hk h0 hx with e | e
      · exact e
      · omega
    · rw [if_neg c]
      exact j2' k x hk h0 hx
  rw [if_neg (by omega)]
  rw [show ps.length + 4 + 10 = (ps.length + 11) + 2 + 1 by omega]
  simp only [reevelaw03_ChainStarts.j0]
  rw [if_neg (by simp only [decide_eq_true_eq]; omega)]
  rcases ht with ⟨e1, e2⟩ | e1
  · rw [e1, if_neg (by decide)]
    exact j1 _ _ (by omega) (by omega) (by omega)
  · rw [e1, if_pos (by omega)]
    exact j1 _ _ (by omega) (by omega) (by omega)
end Go.Proofs.Ytbiijcehgiibeaa.Pure
namespace Go.Proofs.Ytbiijcehgiibeaa.O
open Go.ChangeShapes Go.WideShapes Go.ChangeAt Go.RowKit Go.Deep Go.Proofs.YtbiijcehgiibeaaW.PrintWords Go.Proofs.Ytbiijcehgiibeaa.Q
set_option linter.unusedVariables false
theorem rows_read {H : Type} {enc : TypeId × Value → H} {P : Program} {W : World} {held : Bool} {t e q : TypeId} {a : Option Addr} {len cap : Nat} {d : DataW H} {ps : List MemPlace} {ts : List TypeId} {ds : List (DataW H)} {j : Nat}
    (hsz : (DataW.weightsEach P ts ds).all (· ≤ reachBytes) = true) (ht : ts[j]? = some t) (hd : ds[j]? = some d) (hu : P.underlying t = some (.slice e)) (he : P.underlying e = some (.slice q)) (hq : P.underlying q = some (.int .u8))
    (ce : P.cellsOf e = 1) (cq : P.cellsOf q = 1) (be : P.bytesOf e = 24) (bq : P.bytesOf q = 1)
    (h : DataW.Trod enc P W 0 (fun _ => true) held t (.slice a len cap) d ps) :
    ∃ l : List (List Int), len = l.length ∧ Kd.C (Kd.slice 5 (Kd.int .u8)) W a l.length l ∧ l.length ≤ cap ∧ (l.length ≤ 9223372036854775807 ∧ ∀ x ∈ l, x.length ≤ 9223372036854775807 ∧ ∀ y ∈ x, (Lit.int .u8 y).wf = true) := by
  obtain ⟨fuel, hf⟩ := h
  rcases open_int_rows hu he hq ce cq hf with ⟨hcs, _⟩ | ⟨ad, n, c, A, L, C, Z, hcs, _, hl, hm, hx, hr⟩
  · simp [Value.cells] at hcs
    obtain ⟨rfl, rfl, rfl⟩ := hcs
    exact ⟨[], rfl, ⟨rfl, by decide, fun h => absurd h (by decide)⟩, Nat.le_refl _, by decide, fun x hx => absurd hx (by simp)⟩
  · simp [Value.cells] at hcs
    obtain ⟨rfl, rfl, rfl⟩ := hcs
    have hm' : cap ≤ 9223372036854775807 := hm
    refine ⟨(List.range len).map fun r => (Z r).take (L r), by simp, ?_, by simpa using hl, by simp; omega, ?_⟩
    · refine ⟨rfl, by simp; omega, fun _ => ⟨ad, rfl, fun j p hj => ?_⟩⟩
      rw [List.getElem?_map] at hj
      by_cases hjl : j < len
      · rw [List.getElem?_range hjl] at hj
        simp only [Option.map_some] at hj
        injection hj with hj
        subst hj
        obtain ⟨h1, h2, h3, h4, h5, h6, h7⟩ := hr j (by omega)
        have hlen : ((Z j).take (L j)).length = L j := by rw [List.length_take]; omega
        have h3' : C j ≤ 9223372036854775807 := h3
        refine ⟨[.slice (A j) (L j) (C j)], rfl, ⟨A j, C j, by rw [hlen], by omega, ?_⟩, fun i u hi => ?_⟩
        · rw [hlen]
          refine ⟨hlen, by omega, fun hp => ?_⟩
          cases hA : A j with
          | none => exact absurd (h6 hA) (by omega)
          | some a' =>
            refine ⟨a', rfl, fun i p hi => ⟨[.int .u8 p], rfl, rfl, fun i' u hu => ?_⟩⟩
            cases i' with
            | succ i' => simp at hu
            | zero =>
              have hu' : Value.int .u8 p = u := by simpa using hu
              subst hu'
              have hiL : i < L j := by
                have := (List.getElem?_eq_some_iff.1 hi).1
                omega
              have h8 := (h7 a' hA).2 i (by omega)
              rw [List.getElem?_take_of_lt hiL] at hi
              rw [List.getD_eq_getElem?_getD, hi] at h8
              simpa [Kd.int, Kd.scalar] using h8
        · cases i with
          | succ i => simp at hi
          | zero =>
            have hi' : Value.slice (A j) (L j) (C j) = u := by simpa using hi
            subst hi'
            simpa [Kd.slice] using h1
      · rw [List.getElem?_eq_none (by simpa using hjl)] at hj
        simp at hj
    · intro x hx2
      obtain ⟨r, hr1, rfl⟩ := List.mem_map.1 hx2
      have hrl : r < len := by simpa using hr1
      obtain ⟨h1, h2, h3, h4, h5, h6, h7⟩ := hr r (by omega)
      have h3' : C r ≤ 9223372036854775807 := h3
      exact ⟨by rw [List.length_take]; omega, fun y hy => h5 y (List.mem_of_mem_take hy)⟩
theorem add_add (a : Addr) (n m : Nat) : (a.add n).add m = a.add (n + m) := by
  unfold Addr.add
  by_cases h : n = 0
  · subst h; simp
  · by_cases h2 : m = 0
    · subst h2; simp [h]
    · rw [if_neg h2, if_neg h, if_neg (show ¬ n + m = 0 by omega), Nat.add_assoc]
theorem four {α : Type} {l : List α} (h : l.length = 4) : ∃ a b c d, l = [a, b, c, d] := by
  match l, h with
  | [a, b, c, d], _ => exact ⟨a, b, c, d, rfl⟩
set_option maxRecDepth 100000 in
theorem links_read {H : Type} {enc : TypeId × Value → H} {W : World} {held : Bool} {a : Option Addr} {len cap : Nat} {d : DataW H} {ps : List MemPlace} {ts : List TypeId} {ds : List (DataW H)} {j : Nat}
    (hsz : (DataW.weightsEach Try.prog ts ds).all (· ≤ reachBytes) = true) (ht : ts[j]? = some 66) (hd : ds[j]? = some d)
    (h : DataW.Trod enc Try.prog W 0 (fun _ => true) held 66 (.slice a len cap) d ps) :
    ∃ l : List S60, len = l.length ∧ Kd.C k60 W a l.length l ∧ l.length ≤ cap ∧ l.length ≤ 9223372036854775807 := by
  obtain ⟨fuel, hf⟩ := h
  have c60 : Try.prog.cellsOf 60 = 4 := by kernel_rfl
  have c23 : Try.prog.cellsOf 23 = 2 := by kernel_rfl
  have c3 : Try.prog.cellsOf 3 = 1 := by kernel_rfl
  rcases open_slice Try.underlying66 hf with ⟨hcs, _⟩ | ⟨ad, n, c, m, f2, D, Pl, hcs, _, hl, hm, hmm, hx, hr⟩
  · simp [Value.cells] at hcs
    obtain ⟨rfl, rfl, rfl⟩ := hcs
    exact ⟨[], rfl, ⟨rfl, by decide, fun h => absurd h (by decide)⟩, Nat.le_refl _, by decide⟩
  · simp [Value.cells] at hcs
    obtain ⟨rfl, rfl, rfl⟩ := hcs
    have hm' : cap ≤ 9223372036854775807 := hm
    rw [if_pos rfl] at hmm
    subst hmm
    have each : ∀ i, i < m → ∃ x : S60, ∀ k u, [Value.int .i64 x.f0, .int .i64 x.f1, .int .i64 x.f2.f0, .int .i64 x.f2.f1][k]? = some u → W.cell? (ad.add (i * 4 + k)) = some u := by
      intro i hi
      obtain ⟨cs', h1, h2⟩ := hr i hi
      rw [c60] at h1
      obtain ⟨_, hlen, hcell⟩ := World.cells?_some h1
      obtain ⟨y0, y1, y2, n', _, _, t0, t1, t2⟩ := trod_struct3 Try.underlying60 h2
      obtain ⟨z0, z1, n'', _, _, s0, s1⟩ := trod_struct2 Try.underlying23 t2
      obtain ⟨v0, e0, _, _⟩ := DataW.trod_int Try.underlying3 t0
      obtain ⟨v1, e1, _, _⟩ := DataW.trod_int Try.underlying3 t1
      obtain ⟨v2, e2, _, _⟩ := DataW.trod_int Try.underlying3 s0
      obtain ⟨v3, e3, _, _⟩ := DataW.trod_int Try.underlying3 s1
      simp only [c3, c23] at e0 e1 e2 e3
      refine ⟨⟨v0, v1, ⟨v2, v3⟩⟩, fun k u hk => ?_⟩
      obtain ⟨b0, b1, b2, b3, rfl⟩ := four hlen
      obtain rfl : b0 = .int .i64 v0 := (List.cons.inj e0).1
      obtain rfl : b1 = .int .i64 v1 := (List.cons.inj e1).1
      obtain rfl : b2 = .int .i64 v2 := (List.cons.inj e2).1
      obtain rfl : b3 = .int .i64 v3 := (List.cons.inj e3).1
      have hk4 : k < 4 := by have := (List.getElem?_eq_some_iff.1 hk).1; simpa using this
      have ea : (ad.add (i * 4)).add k = ad.add (i * 4 + k) := by
        exact add_add _ _ _
      rw [← ea, hcell k hk4]
      exact hk
    have : Inhabited S60 := ⟨z60⟩
    obtain ⟨X, hX⟩ := choose_lt each
    refine ⟨(List.range len).map X, by simp, ?_, by simpa using hl, by simp; omega⟩
    refine ⟨rfl, by simp; omega, fun _ => ⟨ad, rfl, fun j p hj => ?_⟩⟩
    rw [List.getElem?_map] at hj
    by_cases hjl : j < len
    · rw [List.getElem?_range hjl] at hj
      simp only [Option.map_some] at hj
      injection hj with hj
      subst hj
      exact ⟨_, rfl, k60_mk W (X j), fun i u hu => hX j (by omega) i u hu⟩
    · rw [List.getElem?_eq_none (by simpa using hjl)] at hj
      simp at hj
end Go.Proofs.Ytbiijcehgiibeaa.O

/- A text that a program of this session wrote (wip/qprint.py, over the kit's printer): Lean functions with the same answers as Go functions of the program, and proofs that the calls come to these answers; where a function is named in wip/ext, its definition and proof were written by hand. -/
import Derived.Test.YtbiijcehgiibeaaKPHeadsJFloat
import Derived.Test.YtbiijcehgiibeaaKPHeadsQg3
import Derived.Test.YtbiijcehgiibeaaKPHeadsJSix
import Derived.Test.YtbiijcehgiibeaaKPHeadsQg11
namespace Go.Proofs.Ytbiijcehgiibeaa.Q
open Go.RowKit Go.Proofs.YtbiijcehgiibeaaW.PrintWords Go.Proofs.YtbiijcehgiibeaaW.PrintLast Go.Proofs.YtbiijcehgiibeaaW.PrintMore
attribute [local go_sem] max2_int min2_int max_two min_two max_three min_three max_four min_four   -- for this text's walks alone
set_option linter.unusedVariables false
set_option linter.unusedSimpArgs false
mutual
def reeveref04_Header.j0 : Nat → List Int → Option (List Int × Int)
  | 0, _ => none
  | k + 1, x5 => reeveref04_Header.l0 k x5 (([82, 69, 69, 76] : List Int)) 0
def reeveref04_Header.l0 : Nat → List Int → List Int → Int → Option (List Int × Int)
  | 0, _, _, _ => none
  | k + 1, x5, x6, x7 => if x7 < (x5.length : Int) then (if 0 ≤ x7 then ((reeveref01_Number.f k (rd x5 x7)).bind fun bt980 => (if x6.length + bt980.1.length < 140737488355328 then (reeveref04_Header.l0 k x5 (x6 ++ bt980.1) (wrap64 (x7 + 1))) else (none))) else (none)) else ((reeveref02_Start.f).bind fun bt987 => ((reeveref02_Add.f k bt987.1 bt987.2 x6).bind fun bt989 => ((reeveref02_Bytes.f bt989.1 bt989.2.1).bind fun bt993 => (if x6.length + bt993.1.length < 140737488355328 then (some ((x6 ++ bt993.1), 0)) else (none)))))
end
def reeveref04_Header.f (k : Nat) (a0_0 : Int) (a0_1 : Int) (a0_2 : Int) (a0_3 : Int) (a0_4 : Int) (a0_5 : Int) (a0_6 : Int) (a0_7 : Int) (a0_8 : Int) (a0_9 : Int) : Option (List Int × Int) := (reeveref04_Right.f k a0_0 a0_1 a0_2 a0_3 a0_4 a0_5 a0_6 a0_7 a0_8 a0_9).bind fun t970 => (if t970 = 0 then ((some (([a0_0, a0_1, a0_2, a0_3, a0_6, a0_7, a0_8, a0_9] : List Int) : List Int)).bind fun y971 => (if a0_0 = 2 then (if 2 < (y971.length : Int) then (if 3 < (y971.length : Int) then (reeveref04_Header.j0 k ((y971.set (2 : Int).toNat a0_4).set (3 : Int).toNat a0_5)) else (none)) else (none)) else (reeveref04_Header.j0 k y971))) else (some (([] : List Int), t970)))
set_option maxHeartbeats 8000000 in
set_option maxRecDepth 100000 in
theorem reeveref04_Header.calls (k : Nat) (a0_0 : Int) (a0_1 : Int) (a0_2 : Int) (a0_3 : Int) (a0_4 : Int) (a0_5 : Int) (a0_6 : Int) (a0_7 : Int) (a0_8 : Int) (a0_9 : Int) (r1 : List Int) (r2 : Int) (w : World) (h : reeveref04_Header.f k a0_0 a0_1 a0_2 a0_3 a0_4 a0_5 a0_6 a0_7 a0_8 a0_9 = some (r1, r2)) :
    Calls Try.prog 63 #[.agg #[.int .i64 a0_0, .int .i64 a0_1, .int .i64 a0_2, .int .i64 a0_3, .int .i64 a0_4, .int .i64 a0_5, .int .i64 a0_6, .int .i64 a0_7, .int .i64 a0_8, .int .i64 a0_9]] w fun e w' => ∃ v0_ : Value, e = .returned (.tuple #[v0_, .int .i64 r2]) ∧ Kd.R (Kd.int .u8) 5 w' w.heap.size (fun _ => True) v0_ r1 ∧ Below w.heap.size w w' := by
  have hu45 := Try.underlying45
  have hu23 := Try.underlying23
  have HB := Aside0.mk (Below.refl w.heap.size w)
  have H : ((reeveref04_Right.f k a0_0 a0_1 a0_2 a0_3 a0_4 a0_5 a0_6 a0_7 a0_8 a0_9).bind fun t970 => (if t970 = 0 then ((some (([a0_0, a0_1, a0_2, a0_3, a0_6, a0_7, a0_8, a0_9] : List Int) : List Int)).bind fun y971 => (if a0_0 = 2 then (if 2 < (y971.length : Int) then (if 3 < (y971.length : Int) then (reeveref04_Header.j0 k ((y971.set (2 : Int).toNat a0_4).set (3 : Int).toNat a0_5)) else (none)) else (none)) else (reeveref04_Header.j0 k y971))) else (some (([] : List Int), t970)))) = some (r1, r2) := h
  clear h
  replace H := Option.bind_eq_some_iff.mp H
  obtain ⟨t970, A20, H⟩ := H
  replace H : (if t970 = 0 then ((some (([a0_0, a0_1, a0_2, a0_3, a0_6, a0_7, a0_8, a0_9] : List Int) : List Int)).bind fun y971 => (if a0_0 = 2 then (if 2 < (y971.length : Int) then (if 3 < (y971.length : Int) then (reeveref04_Header.j0 k ((y971.set (2 : Int).toNat a0_4).set (3 : Int).toNat a0_5)) else (none)) else (none)) else (reeveref04_Header.j0 k y971))) else (some (([] : List Int), t970))) = some (r1, r2) := H
  have A2 := Aside0.mk A20
  clear A20
  by_cases c3 : t970 = 0
  · rw [if_pos c3] at H
    have c3b0 : (t970 == 0) = true := beq_iff_eq.mpr c3
    have c3b1 : (t970 != 0) = false := bne_eq_false_iff_eq.mpr c3
    clear c3
    obtain ⟨y971, hy971⟩ : ∃ y_ : List Int, y_ = (([a0_0, a0_1, a0_2, a0_3, a0_6, a0_7, a0_8, a0_9] : List Int)) := ⟨_, rfl⟩
    replace H : (if a0_0 = 2 then (if 2 < (y971.length : Int) then (if 3 < (y971.length : Int) then (reeveref04_Header.j0 k ((y971.set (2 : Int).toNat a0_4).set (3 : Int).toNat a0_5)) else (none)) else (none)) else (reeveref04_Header.j0 k y971)) = some (r1, r2) := by first | (rw [hy971]; with_reducible exact H) | (have H2_ := (Option.bind_some _ _).symm.trans H; rw [hy971]; with_reducible exact H2_) | (have H2_ := (Option.bind_some _ _).symm.trans H; with_reducible exact H2_) | with_reducible exact H | (rw [hy971]; exact H) | exact H
    have Ny971 := Aside0.mk hy971
    clear hy971
    have HC4 := Aside0.mk H
    clear H
    go_enter Try.func63, Try.ntmps63
    go_upto_if 38 with (first | ((with_reducible refine gate_dst (N := 1) rfl ?_); refine box_event ?hg (N := 1) ?hd (cs := #[.int .i64 a0_0, .int .i64 a0_1, .int .i64 a0_2, .int .i64 a0_3, .int .i64 a0_4, .int .i64 a0_5, .int .i64 a0_6, .int .i64 a0_7, .int .i64 a0_8, .int .i64 a0_9]) (t := 45) ?hr ?_; (case hd => rfl); (case hg => rfl); (case hr => first | (go_simp; done) | (go_simp; rfl)); intro gb969 hg w5 hbox hb; have n0_ := Aside0.mk (below_step (by repeat (first | (with_reducible first | exact HB.out | apply below_alloc | apply pw_below_drewN | apply below_drew1) | exact HB.out)) hb); have n1_ := Aside0.mk (hbox); have n2_ := Aside0.mk ((by rw [hg]; exact (below_size (by repeat (first | (with_reducible first | exact HB.out | apply below_alloc | apply pw_below_drewN | apply below_drew1) | exact HB.out))) : w.heap.size ≤ gb969)); have n3_ := Aside0.mk ((by rw [hg]; exact (below_size (by repeat (first | (with_reducible first | exact HB.out | apply below_alloc | apply pw_below_drewN | apply below_drew1) | exact HB.out))) : w.heap.size ≤ gb969)); clear HB; have HB := n0_; have BK969 := n1_; have GW969 := n2_; have GE969 := n3_; clear n0_ n1_ n2_ n3_; clear hb hbox hg; have hcz6_0 : w5.cell? ⟨gb969, 0, none⟩ = some (.int .i64 a0_0) := (blk_cell BK969.out 0).trans rfl; have hcz6_1 : w5.cell? ⟨gb969, 1, none⟩ = some (.int .i64 a0_1) := (blk_cell BK969.out 1).trans rfl; have hcz6_2 : w5.cell? ⟨gb969, 2, none⟩ = some (.int .i64 a0_2) := (blk_cell BK969.out 2).trans rfl; have hcz6_3 : w5.cell? ⟨gb969, 3, none⟩ = some (.int .i64 a0_3) := (blk_cell BK969.out 3).trans rfl; have hcz6_4 : w5.cell? ⟨gb969, 4, none⟩ = some (.int .i64 a0_4) := (blk_cell BK969.out 4).trans rfl; have hcz6_5 : w5.cell? ⟨gb969, 5, none⟩ = some (.int .i64 a0_5) := (blk_cell BK969.out 5).trans rfl; have hcz6_6 : w5.cell? ⟨gb969, 6, none⟩ = some (.int .i64 a0_6) := (blk_cell BK969.out 6).trans rfl; have hcz6_7 : w5.cell? ⟨gb969, 7, none⟩ = some (.int .i64 a0_7) := (blk_cell BK969.out 7).trans rfl; have hcz6_8 : w5.cell? ⟨gb969, 8, none⟩ = some (.int .i64 a0_8) := (blk_cell BK969.out 8).trans rfl; have hcz6_9 : w5.cell? ⟨gb969, 9, none⟩ = some (.int .i64 a0_9) := (blk_cell BK969.out 9).trans rfl; have hfz6_0 := blk_frozen BK969.out 0; have hfz6_1 := blk_frozen BK969.out 1; have hfz6_2 := blk_frozen BK969.out 2; have hfz6_3 := blk_frozen BK969.out 3; have hfz6_4 := blk_frozen BK969.out 4; have hfz6_5 := blk_frozen BK969.out 5; have hfz6_6 := blk_frozen BK969.out 6; have hfz6_7 := blk_frozen BK969.out 7; have hfz6_8 := blk_frozen BK969.out 8; have hfz6_9 := blk_frozen BK969.out 9) | ((with_reducible refine gate_callee (f := 65) rfl ?_); refine goesL_ (some 15) rfl rfl Try.func65 (by kernel_rfl) rfl #[.agg #[.int .i64 a0_0, .int .i64 a0_1, .int .i64 a0_2, .int .i64 a0_3, .int .i64 a0_4, .int .i64 a0_5, .int .i64 a0_6, .int .i64 a0_7, .int .i64 a0_8, .int .i64 a0_9]] rfl (by (try simp only [List.map_toArray, List.map_cons, List.map_nil]); first | done | rfl | (simp only [List.length_drop, List.length_take]; rfl)) ?_; (with_reducible refine (reeveref04_Right.calls k a0_0 a0_1 a0_2 a0_3 a0_4 a0_5 a0_6 a0_7 a0_8 a0_9 t970 _ A2.out).mono ?_); rintro e w7 ⟨rfl, hb⟩; refine ⟨_, rfl, ?_⟩; have n0_ := Aside0.mk (blk_below (g := gb969) (o := .cells #[.int .i64 a0_0, .int .i64 a0_1, .int .i64 a0_2, .int .i64 a0_3, .int .i64 a0_4, .int .i64 a0_5, .int .i64 a0_6, .int .i64 a0_7, .int .i64 a0_8, .int .i64 a0_9] 45 (0, 0)) (by (with_reducible repeat (first | refine blk_drewN ?_ _ | refine blk_drew ?_ | refine blk_alloc ?_ _)); exact BK969.out) hb); have n1_ := Aside0.mk (below_step (by repeat (first | (with_reducible first | exact HB.out | apply below_alloc | apply pw_below_drewN | apply below_drew1 | refine below_set ?_ GE969.out) | exact HB.out)) hb); clear BK969; clear HB; have BK969 := n0_; have HB := n1_; clear n0_ n1_; (try clear hb); (try clear hb2); (try clear hk); (try clear hi); have hcz8_0 : w7.cell? ⟨gb969, 0, none⟩ = some (.int .i64 a0_0) := (blk_cell BK969.out 0).trans rfl; have hcz8_1 : w7.cell? ⟨gb969, 1, none⟩ = some (.int .i64 a0_1) := (blk_cell BK969.out 1).trans rfl; have hcz8_2 : w7.cell? ⟨gb969, 2, none⟩ = some (.int .i64 a0_2) := (blk_cell BK969.out 2).trans rfl; have hcz8_3 : w7.cell? ⟨gb969, 3, none⟩ = some (.int .i64 a0_3) := (blk_cell BK969.out 3).trans rfl; have hcz8_4 : w7.cell? ⟨gb969, 4, none⟩ = some (.int .i64 a0_4) := (blk_cell BK969.out 4).trans rfl; have hcz8_5 : w7.cell? ⟨gb969, 5, none⟩ = some (.int .i64 a0_5) := (blk_cell BK969.out 5).trans rfl; have hcz8_6 : w7.cell? ⟨gb969, 6, none⟩ = some (.int .i64 a0_6) := (blk_cell BK969.out 6).trans rfl; have hcz8_7 : w7.cell? ⟨gb969, 7, none⟩ = some (.int .i64 a0_7) := (blk_cell BK969.out 7).trans rfl; have hcz8_8 : w7.cell? ⟨gb969, 8, none⟩ = some (.int .i64 a0_8) := (blk_cell BK969.out 8).trans rfl; have hcz8_9 : w7.cell? ⟨gb969, 9, none⟩ = some (.int .i64 a0_9) := (blk_cell BK969.out 9).trans rfl; have hfz8_0 := blk_frozen BK969.out 0; have hfz8_1 := blk_frozen BK969.out 1; have hfz8_2 := blk_frozen BK969.out 2; have hfz8_3 := blk_frozen BK969.out 3; have hfz8_4 := blk_frozen BK969.out 4; have hfz8_5 := blk_frozen BK969.out 5; have hfz8_6 := blk_frozen BK969.out 6; have hfz8_7 := blk_frozen BK969.out 7; have hfz8_8 := blk_frozen BK969.out 8; have hfz8_9 := blk_frozen BK969.out 9) | ((with_reducible refine gate_dst (N := 35) rfl ?_); refine Kd.R_lit (Kd.int .i64) _ 3 ?hg (N := 35) ?hd (xs := ([a0_0, a0_1, a0_2, a0_3, a0_6, a0_7, a0_8, a0_9] : List Int)) (inner := [.int .i64 a0_0, .int .i64 a0_1, .int .i64 a0_2, .int .i64 a0_3, .int .i64 a0_6, .int .i64 a0_7, .int .i64 a0_8, .int .i64 a0_9]) (ok := fun _ => True) (okp := fun _ => True) ?hr ?hp (fun _ hk => hk) trivial (Below.refl _ _) (Nat.le_refl _) (by simp) ?_; (case hd => rfl); (case hg => rfl); (case hr => first | (go_simp; done) | (go_simp; rfl)); (case hp => exact (Reps.one (show Kd.M (Kd.int .i64) _ _ _ a0_0 [.int .i64 a0_0] from rfl) (Reps.one (show Kd.M (Kd.int .i64) _ _ _ a0_1 [.int .i64 a0_1] from rfl) (Reps.one (show Kd.M (Kd.int .i64) _ _ _ a0_2 [.int .i64 a0_2] from rfl) (Reps.one (show Kd.M (Kd.int .i64) _ _ _ a0_3 [.int .i64 a0_3] from rfl) (Reps.one (show Kd.M (Kd.int .i64) _ _ _ a0_6 [.int .i64 a0_6] from rfl) (Reps.one (show Kd.M (Kd.int .i64) _ _ _ a0_7 [.int .i64 a0_7] from rfl) (Reps.one (show Kd.M (Kd.int .i64) _ _ _ a0_8 [.int .i64 a0_8] from rfl) (Reps.one (show Kd.M (Kd.int .i64) _ _ _ a0_9 [.int .i64 a0_9] from rfl) (Reps.none _ _)))))))))); intro v972 w9 ho10 hb hg_ hnew_; clear hg_ hnew_; (first | rw [← Ny971.out] at ho10 | (simp only [Int.reduceToNat] at ho10; rw [← Ny971.out] at ho10)); have n0_ := Aside0.mk (Kd.R_lower ho10 (below_size (by repeat (first | (with_reducible first | exact HB.out | apply below_alloc | apply pw_below_drewN | apply below_drew1 | refine below_set ?_ GE969.out) | exact HB.out)))); have n1_ := Aside0.mk (blk_below (g := gb969) (o := .cells #[.int .i64 a0_0, .int .i64 a0_1, .int .i64 a0_2, .int .i64 a0_3, .int .i64 a0_4, .int .i64 a0_5, .int .i64 a0_6, .int .i64 a0_7, .int .i64 a0_8, .int .i64 a0_9] 45 (0, 0)) (by (with_reducible repeat (first | refine blk_drewN ?_ _ | refine blk_drew ?_ | refine blk_alloc ?_ _)); exact BK969.out) hb); have n2_ := Aside0.mk (below_step (by repeat (first | (with_reducible first | exact HB.out | apply below_alloc | apply pw_below_drewN | apply below_drew1 | refine below_set ?_ GE969.out) | exact HB.out)) hb); clear BK969; clear HB; have HO973 := n0_; have BK969 := n1_; have HB := n2_; clear n0_ n1_ n2_; clear hb ho10; have hcz11_0 : w9.cell? ⟨gb969, 0, none⟩ = some (.int .i64 a0_0) := (blk_cell BK969.out 0).trans rfl; have hcz11_1 : w9.cell? ⟨gb969, 1, none⟩ = some (.int .i64 a0_1) := (blk_cell BK969.out 1).trans rfl; have hcz11_2 : w9.cell? ⟨gb969, 2, none⟩ = some (.int .i64 a0_2) := (blk_cell BK969.out 2).trans rfl; have hcz11_3 : w9.cell? ⟨gb969, 3, none⟩ = some (.int .i64 a0_3) := (blk_cell BK969.out 3).trans rfl; have hcz11_4 : w9.cell? ⟨gb969, 4, none⟩ = some (.int .i64 a0_4) := (blk_cell BK969.out 4).trans rfl; have hcz11_5 : w9.cell? ⟨gb969, 5, none⟩ = some (.int .i64 a0_5) := (blk_cell BK969.out 5).trans rfl; have hcz11_6 : w9.cell? ⟨gb969, 6, none⟩ = some (.int .i64 a0_6) := (blk_cell BK969.out 6).trans rfl; have hcz11_7 : w9.cell? ⟨gb969, 7, none⟩ = some (.int .i64 a0_7) := (blk_cell BK969.out 7).trans rfl; have hcz11_8 : w9.cell? ⟨gb969, 8, none⟩ = some (.int .i64 a0_8) := (blk_cell BK969.out 8).trans rfl; have hcz11_9 : w9.cell? ⟨gb969, 9, none⟩ = some (.int .i64 a0_9) := (blk_cell BK969.out 9).trans rfl; have hfz11_0 := blk_frozen BK969.out 0; have hfz11_1 := blk_frozen BK969.out 1; have hfz11_2 := blk_frozen BK969.out 2; have hfz11_3 := blk_frozen BK969.out 3; have hfz11_4 := blk_frozen BK969.out 4; have hfz11_5 := blk_frozen BK969.out 5; have hfz11_6 := blk_frozen BK969.out 6; have hfz11_7 := blk_frozen BK969.out 7; have hfz11_8 := blk_frozen BK969.out 8; have hfz11_9 := blk_frozen BK969.out 9))
    (try simp only [Act.put, List.setIfInBounds_toArray, List.set_cons_zero, List.set_cons_succ])
    go_cut [] (fun wc => ∃ (kq : Nat) (x5_3 : List Int), Aside0 (reeveref04_Header.j0 kq x5_3 = some (r1, r2)) ∧ Aside0 (kq ≤ k) ∧ Aside0 (Kd.R (Kd.int .i64) 3 wc w.heap.size (fun _ => True) v972 x5_3) ∧ Aside0 (wc.heap[gb969]? = some (.cells #[.int .i64 a0_0, .int .i64 a0_1, .int .i64 a0_2, .int .i64 a0_3, .int .i64 a0_4, .int .i64 a0_5, .int .i64 a0_6, .int .i64 a0_7, .int .i64 a0_8, .int .i64 a0_9] 45 (0, 0))) ∧ Aside0 (Below w.heap.size w wc))
    case first =>
      have H := HC4.out
      clear HC4
      by_cases c12 : a0_0 = 2
      · rw [if_pos c12] at H
        have c12b0 : (a0_0 == 2) = true := beq_iff_eq.mpr c12
        have c12b1 : (a0_0 != 2) = false := bne_eq_false_iff_eq.mpr c12
        clear c12
        (first | rw [c12b0] | (simp only [i64_w, i32_w]; rw [c12b0]) | skip)
        by_cases c13 : 2 < (y971.length : Int)
        · rw [if_pos c13] at H
          have c13b0 : decide (2 < (y971.length : Int)) = true := decide_eq_true c13
          have c13b1 : decide (2 < y971.length) = true := decide_eq_true (by omega)
          clear c13
          obtain ⟨y974, hy974⟩ : ∃ y_ : List Int, y_ = (y971.set (2 : Int).toNat a0_4) := ⟨_, rfl⟩
          replace H : (if 3 < (y971.length : Int) then (reeveref04_Header.j0 k (y974.set (3 : Int).toNat a0_5)) else (none)) = some (r1, r2) := by first | (rw [hy974]; with_reducible exact H) | (have H2_ := (Option.bind_some _ _).symm.trans H; rw [hy974]; with_reducible exact H2_) | (have H2_ := (Option.bind_some _ _).symm.trans H; with_reducible exact H2_) | with_reducible exact H | (rw [hy974]; exact H) | exact H
          have Ny974 := Aside0.mk hy974
          clear hy974
          by_cases c15 : 3 < (y971.length : Int)
          · rw [if_pos c15] at H
            have c15b0 : decide (3 < (y971.length : Int)) = true := decide_eq_true c15
            have c15b1 : decide (3 < y971.length) = true := decide_eq_true (by omega)
            clear c15
            obtain ⟨y975, hy975⟩ : ∃ y_ : List Int, y_ = (y974.set (3 : Int).toNat a0_5) := ⟨_, rfl⟩
            replace H : (reeveref04_Header.j0 k y975) = some (r1, r2) := by first | (rw [hy975]; with_reducible exact H) | (have H2_ := (Option.bind_some _ _).symm.trans H; rw [hy975]; with_reducible exact H2_) | (have H2_ := (Option.bind_some _ _).symm.trans H; with_reducible exact H2_) | with_reducible exact H | (rw [hy975]; exact H) | exact H
            have Ny975 := Aside0.mk hy975
            clear hy975
            have H' := Aside0.mk H
            clear H
            have hcz17_0 : w9.cell? ⟨gb969, 0, none⟩ = some (.int .i64 a0_0) := (blk_cell BK969.out 0).trans rfl
            have hcz17_1 : w9.cell? ⟨gb969, 1, none⟩ = some (.int .i64 a0_1) := (blk_cell BK969.out 1).trans rfl
            have hcz17_2 : w9.cell? ⟨gb969, 2, none⟩ = some (.int .i64 a0_2) := (blk_cell BK969.out 2).trans rfl
            have hcz17_3 : w9.cell? ⟨gb969, 3, none⟩ = some (.int .i64 a0_3) := (blk_cell BK969.out 3).trans rfl
            have hcz17_4 : w9.cell? ⟨gb969, 4, none⟩ = some (.int .i64 a0_4) := (blk_cell BK969.out 4).trans rfl
            have hcz17_5 : w9.cell? ⟨gb969, 5, none⟩ = some (.int .i64 a0_5) := (blk_cell BK969.out 5).trans rfl
            have hcz17_6 : w9.cell? ⟨gb969, 6, none⟩ = some (.int .i64 a0_6) := (blk_cell BK969.out 6).trans rfl
            have hcz17_7 : w9.cell? ⟨gb969, 7, none⟩ = some (.int .i64 a0_7) := (blk_cell BK969.out 7).trans rfl
            have hcz17_8 : w9.cell? ⟨gb969, 8, none⟩ = some (.int .i64 a0_8) := (blk_cell BK969.out 8).trans rfl
            have hcz17_9 : w9.cell? ⟨gb969, 9, none⟩ = some (.int .i64 a0_9) := (blk_cell BK969.out 9).trans rfl
            have hfz17_0 := blk_frozen BK969.out 0
            have hfz17_1 := blk_frozen BK969.out 1
            have hfz17_2 := blk_frozen BK969.out 2
            have hfz17_3 := blk_frozen BK969.out 3
            have hfz17_4 := blk_frozen BK969.out 4
            have hfz17_5 := blk_frozen BK969.out 5
            have hfz17_6 := blk_frozen BK969.out 6
            have hfz17_7 := blk_frozen BK969.out 7
            have hfz17_8 := blk_frozen BK969.out 8
            have hfz17_9 := blk_frozen BK969.out 9
            have p14 : 0 ≤ (2 : Int) := (by omega)
            have q14 : (2 : Int) < ((y971.length : Int) : Int) := of_decide_eq_true (by first | (with_reducible assumption) | assumption)
            have qi14 : (2 < y971.length) = True := eq_true (by omega)
            obtain ⟨go14, co14, eo14, gb14, gl14, cl14, HG14⟩ := Kd.R_form HO973.out (by omega)
            (first | cases eo14 | (injection eo14 with ea_ en_ ec_; (first | subst ea_ | (injection ea_ with ea_; subst ea_)); subst ec_; clear en_))
            have GB14 := Aside0.mk gb14
            have GG14 := Aside0.mk HG14
            clear gb14 gl14 HG14
            obtain ⟨hx14_0, hf14_0⟩ := Kd.R_celln 0 HO973.out (2 : Int) p14 q14
            (try rw [show ((2 : Int)).toNat = 2 from rfl] at hx14_0)
            (try simp only [Nat.reduceMul, Nat.zero_mul, Nat.zero_add, Nat.reduceAdd] at hx14_0)
            (try rw [show ((2 : Int)).toNat = 2 from rfl] at hf14_0)
            (try simp only [Nat.reduceMul, Nat.zero_mul, Nat.zero_add, Nat.reduceAdd] at hf14_0)
            replace p14 := eq_true p14
            replace q14 := eq_true q14
            have HP18 := Kd.R_putg HO973.out (2 : Int) a0_4
            go_wp2_with (first | ((with_reducible refine gate_store (t := 3) (p := 42) rfl ?_); refine store_event (t := 3) (p := 42) (v := ?vo_w19) (w1 := (w9.setCell ⟨go14, (2 : Int).toNat, none⟩ (.int .i64 a0_4))) ?hg ?ho ?hn ?hr ?_; (case ho => rfl); (case hg => rfl); (case hn => rfl); (case hr => first | (go_simp; done) | (go_simp; rfl)); intro w19 hw; have hg : w9.grownBy w19 (some go14) := (by rw [hw]; exact HP18.2); have hp_ : Kd.R (Kd.int .i64) 3 w19 w.heap.size (fun _ => True) (.slice (some ⟨go14, 0, none⟩) y971.length co14) y974 := (by rw [hw, Ny974.out]; exact HP18.1); clear HP18; have n0_ := Aside0.mk (blk_grown (g := gb969) (o := .cells #[.int .i64 a0_0, .int .i64 a0_1, .int .i64 a0_2, .int .i64 a0_3, .int .i64 a0_4, .int .i64 a0_5, .int .i64 a0_6, .int .i64 a0_7, .int .i64 a0_8, .int .i64 a0_9] 45 (0, 0)) (by (with_reducible repeat (first | refine blk_drewN ?_ _ | refine blk_drew ?_ | refine blk_alloc ?_ _)); exact BK969.out) hg (Kd.R_ne HO973.out BK969.out (by decide))); have n1_ := Aside0.mk (hp_); have n2_ := Aside0.mk ((by rw [hw]; exact below_set (HB.out) GB14.out : Below w.heap.size w w19)); clear BK969; clear HO973; clear HB; have BK969 := n0_; have HO973 := n1_; have HB := n2_; clear n0_ n1_ n2_; clear hg hw hp_; have hcz20_0 : w19.cell? ⟨gb969, 0, none⟩ = some (.int .i64 a0_0) := (blk_cell BK969.out 0).trans rfl; have hcz20_1 : w19.cell? ⟨gb969, 1, none⟩ = some (.int .i64 a0_1) := (blk_cell BK969.out 1).trans rfl; have hcz20_2 : w19.cell? ⟨gb969, 2, none⟩ = some (.int .i64 a0_2) := (blk_cell BK969.out 2).trans rfl; have hcz20_3 : w19.cell? ⟨gb969, 3, none⟩ = some (.int .i64 a0_3) := (blk_cell BK969.out 3).trans rfl; have hcz20_4 : w19.cell? ⟨gb969, 4, none⟩ = some (.int .i64 a0_4) := (blk_cell BK969.out 4).trans rfl; have hcz20_5 : w19.cell? ⟨gb969, 5, none⟩ = some (.int .i64 a0_5) := (blk_cell BK969.out 5).trans rfl; have hcz20_6 : w19.cell? ⟨gb969, 6, none⟩ = some (.int .i64 a0_6) := (blk_cell BK969.out 6).trans rfl; have hcz20_7 : w19.cell? ⟨gb969, 7, none⟩ = some (.int .i64 a0_7) := (blk_cell BK969.out 7).trans rfl; have hcz20_8 : w19.cell? ⟨gb969, 8, none⟩ = some (.int .i64 a0_8) := (blk_cell BK969.out 8).trans rfl; have hcz20_9 : w19.cell? ⟨gb969, 9, none⟩ = some (.int .i64 a0_9) := (blk_cell BK969.out 9).trans rfl; have hfz20_0 := blk_frozen BK969.out 0; have hfz20_1 := blk_frozen BK969.out 1; have hfz20_2 := blk_frozen BK969.out 2; have hfz20_3 := blk_frozen BK969.out 3; have hfz20_4 := blk_frozen BK969.out 4; have hfz20_5 := blk_frozen BK969.out 5; have hfz20_6 := blk_frozen BK969.out 6; have hfz20_7 := blk_frozen BK969.out 7; have hfz20_8 := blk_frozen BK969.out 8; have hfz20_9 := blk_frozen BK969.out 9; have p16 : 0 ≤ (3 : Int) := (by omega); have q16 : (3 : Int) < ((y971.length : Int) : Int) := of_decide_eq_true (by first | (with_reducible assumption) | assumption); have qi16 : (3 < y971.length) = True := eq_true (by omega); obtain ⟨hx16_0, hf16_0⟩ := Kd.R_celln 0 HO973.out (3 : Int) p16 q16; (try rw [show ((3 : Int)).toNat = 3 from rfl] at hx16_0); (try simp only [Nat.reduceMul, Nat.zero_mul, Nat.zero_add, Nat.reduceAdd] at hx16_0); (try rw [show ((3 : Int)).toNat = 3 from rfl] at hf16_0); (try simp only [Nat.reduceMul, Nat.zero_mul, Nat.zero_add, Nat.reduceAdd] at hf16_0); replace p16 := eq_true p16; replace q16 := eq_true q16; obtain ⟨hy21_, hz21_⟩ := Kd.R_celln 0 HO973.out (3 : Int) (by omega) (of_decide_eq_true (by first | (with_reducible assumption) | assumption)); (try simp only [Int.reduceToNat, Int.toNat_zero, Int.toNat_ofNat, Nat.reduceMul, Nat.zero_mul, Nat.zero_add] at hy21_ hz21_); (try rw [show ((3 : Int)).toNat = 3 from rfl] at hy21_); (try rw [show ((3 : Int)).toNat = 3 from rfl] at hz21_); have HP21 := Kd.R_putg HO973.out (3 : Int) a0_5) | ((with_reducible refine gate_store (t := 3) (p := 46) rfl ?_); refine store_event (t := 3) (p := 46) (v := ?vo_w22) (w1 := (w19.setCell ⟨go14, (3 : Int).toNat, none⟩ (.int .i64 a0_5))) ?hg ?ho ?hn ?hr ?_; (case ho => rfl); (case hg => rfl); (case hn => rfl); (case hr => first | (go_simp; done) | (go_simp; rfl)); intro w22 hw; have hg : w19.grownBy w22 (some go14) := (by rw [hw]; exact HP21.2); have hp_ : Kd.R (Kd.int .i64) 3 w22 w.heap.size (fun _ => True) (.slice (some ⟨go14, 0, none⟩) y971.length co14) y975 := (by rw [hw, Ny975.out]; exact HP21.1); clear HP21; have n0_ := Aside0.mk (blk_grown (g := gb969) (o := .cells #[.int .i64 a0_0, .int .i64 a0_1, .int .i64 a0_2, .int .i64 a0_3, .int .i64 a0_4, .int .i64 a0_5, .int .i64 a0_6, .int .i64 a0_7, .int .i64 a0_8, .int .i64 a0_9] 45 (0, 0)) (by (with_reducible repeat (first | refine blk_drewN ?_ _ | refine blk_drew ?_ | refine blk_alloc ?_ _)); exact BK969.out) hg (Kd.R_ne HO973.out BK969.out (by decide))); have n1_ := Aside0.mk (hp_); have n2_ := Aside0.mk ((by rw [hw]; exact below_set (HB.out) GB14.out : Below w.heap.size w w22)); clear BK969; clear HO973; clear HB; have BK969 := n0_; have HO973 := n1_; have HB := n2_; clear n0_ n1_ n2_; clear hg hw hp_))
            go_meet
            case rel => exact ⟨_, (y975), H', ⟨by first | omega | exact Nat.le_refl _⟩, ⟨by (with_reducible repeat (first | apply Kd.R_alloc | apply Kd.R_drewN | apply Kd.R_drew)); exact HO973.out⟩, ⟨by (with_reducible repeat (first | refine blk_drewN ?_ _ | refine blk_drew ?_ | refine blk_alloc ?_ _)); exact BK969.out⟩, ⟨by repeat (first | (with_reducible first | exact HB.out | apply below_alloc | apply pw_below_drewN | apply below_drew1 | refine below_set ?_ GE969.out) | exact HB.out)⟩⟩
          · rw [if_neg c15] at H
            exact absurd H (by simp)
        · rw [if_neg c13] at H
          exact absurd H (by simp)
      · rw [if_neg c12] at H
        have c12b0 : (a0_0 == 2) = false := beq_eq_false_iff_ne.mpr c12
        have c12b1 : (a0_0 != 2) = true := bne_iff_ne.mpr c12
        (first | rw [c12b0] | (simp only [i64_w, i32_w]; rw [c12b0]) | skip)
        have H' := Aside0.mk H
        clear H
        go_wp2
        go_meet
        case rel => exact ⟨_, (y971), H', ⟨by first | omega | exact Nat.le_refl _⟩, ⟨by (with_reducible repeat (first | apply Kd.R_alloc | apply Kd.R_drewN | apply Kd.R_drew)); exact HO973.out⟩, ⟨by (with_reducible repeat (first | refine blk_drewN ?_ _ | refine blk_drew ?_ | refine blk_alloc ?_ _)); exact BK969.out⟩, ⟨by repeat (first | (with_reducible first | exact HB.out | apply below_alloc | apply pw_below_drewN | apply below_drew1 | refine below_set ?_ GE969.out) | exact HB.out)⟩⟩
    case rest =>
      clear HC4
      try clear c1
      try clear p1
      try clear q1
      try clear hx1
      try clear qi1
      try clear hf1
      try clear p2
      try clear c3
      try clear c3b0
      try clear c3b1
      try clear c6
      try clear c12
      try clear c12b0
      try clear c12b1
      try clear c13
      try clear c13b0
      try clear c13b1
      try clear p14
      try clear q14
      try clear hx14
      try clear qi14
      try clear hf14
      try clear c15
      try clear c15b0
      try clear c15b1
      try clear p16
      try clear q16
      try clear hx16
      try clear qi16
      try clear hf16
      try clear hcz11_0
      try clear hcz11_1
      try clear hcz11_2
      try clear hcz11_3
      try clear hcz11_4
      try clear hcz11_5
      try clear hcz11_6
      try clear hcz11_7
      try clear hcz11_8
      try clear hcz11_9
      try clear hcz17_0
      try clear hcz17_1
      try clear hcz17_2
      try clear hcz17_3
      try clear hcz17_4
      try clear hcz17_5
      try clear hcz17_6
      try clear hcz17_7
      try clear hcz17_8
      try clear hcz17_9
      try clear hcz20_0
      try clear hcz20_1
      try clear hcz20_2
      try clear hcz20_3
      try clear hcz20_4
      try clear hcz20_5
      try clear hcz20_6
      try clear hcz20_7
      try clear hcz20_8
      try clear hcz20_9
      try clear hcz6_0
      try clear hcz6_1
      try clear hcz6_2
      try clear hcz6_3
      try clear hcz6_4
      try clear hcz6_5
      try clear hcz6_6
      try clear hcz6_7
      try clear hcz6_8
      try clear hcz6_9
      try clear hcz8_0
      try clear hcz8_1
      try clear hcz8_2
      try clear hcz8_3
      try clear hcz8_4
      try clear hcz8_5
      try clear hcz8_6
      try clear hcz8_7
      try clear hcz8_8
      try clear hcz8_9
      try clear hfz11_0
      try clear hfz11_1
      try clear hfz11_2
      try clear hfz11_3
      try clear hfz11_4
      try clear hfz11_5
      try clear hfz11_6
      try clear hfz11_7
      try clear hfz11_8
      try clear hfz11_9
      try clear hfz17_0
      try clear hfz17_1
      try clear hfz17_2
      try clear hfz17_3
      try clear hfz17_4
      try clear hfz17_5
      try clear hfz17_6
      try clear hfz17_7
      try clear hfz17_8
      try clear hfz17_9
      try clear hfz20_0
      try clear hfz20_1
      try clear hfz20_2
      try clear hfz20_3
      try clear hfz20_4
      try clear hfz20_5
      try clear hfz20_6
      try clear hfz20_7
      try clear hfz20_8
      try clear hfz20_9
      try clear hfz6_0
      try clear hfz6_1
      try clear hfz6_2
      try clear hfz6_3
      try clear hfz6_4
      try clear hfz6_5
      try clear hfz6_6
      try clear hfz6_7
      try clear hfz6_8
      try clear hfz6_9
      try clear hfz8_0
      try clear hfz8_1
      try clear hfz8_2
      try clear hfz8_3
      try clear hfz8_4
      try clear hfz8_5
      try clear hfz8_6
      try clear hfz8_7
      try clear hfz8_8
      try clear hfz8_9
      try clear hx14_0
      try clear hx16_0
      try clear p14
      try clear p16
      try clear q14
      try clear q16
      obtain ⟨kq, x5_3, HA, HJ3, HO_5, BK969, HB⟩ := hcut
      cases kq with
      | zero => exact absurd HA.out (by simp [reeveref04_Header.j0])
      | succ kj3 =>
        have H := HA.out
        clear HA
        simp only [reeveref04_Header.j0] at H
        obtain ⟨y976, hy976⟩ : ∃ y_ : List Int, y_ = (([82, 69, 69, 76] : List Int)) := ⟨_, rfl⟩
        replace H : (reeveref04_Header.l0 kj3 x5_3 y976 0) = some (r1, r2) := by first | (rw [hy976]; with_reducible exact H) | (have H2_ := (Option.bind_some _ _).symm.trans H; rw [hy976]; with_reducible exact H2_) | (have H2_ := (Option.bind_some _ _).symm.trans H; with_reducible exact H2_) | with_reducible exact H | (rw [hy976]; exact H) | exact H
        have Ny976 := Aside0.mk hy976
        clear hy976
        have H' := Aside0.mk H
        clear H
        go_wp2_with (first | ((with_reducible refine gate_dst (N := 47) rfl ?_); refine Kd.R_lit (Kd.int .u8) _ 5 ?hg (N := 47) ?hd (xs := ([82, 69, 69, 76] : List Int)) (inner := [.int .u8 82, .int .u8 69, .int .u8 69, .int .u8 76]) (ok := fun _ => True) (okp := fun _ => True) ?hr ?hp (fun _ hk => hk) trivial (Below.refl _ _) (Nat.le_refl _) (by simp) ?_; (case hd => rfl); (case hg => rfl); (case hr => first | (go_simp; done) | (go_simp; rfl)); (case hp => exact (Reps.one (show Kd.M (Kd.int .u8) _ _ _ 82 [.int .u8 82] from rfl) (Reps.one (show Kd.M (Kd.int .u8) _ _ _ 69 [.int .u8 69] from rfl) (Reps.one (show Kd.M (Kd.int .u8) _ _ _ 69 [.int .u8 69] from rfl) (Reps.one (show Kd.M (Kd.int .u8) _ _ _ 76 [.int .u8 76] from rfl) (Reps.none _ _)))))); intro v977 w23 ho24 hb hg_ hnew_; clear hg_ hnew_; (first | rw [← Ny976.out] at ho24 | (simp only [Int.reduceToNat] at ho24; rw [← Ny976.out] at ho24)); have n0_ := Aside0.mk (Kd.R_below (by (with_reducible repeat (first | apply Kd.R_alloc | apply Kd.R_drewN | apply Kd.R_drew)); exact HO_5.out) hb); have n1_ := Aside0.mk (Kd.R_lower ho24 (below_size (by repeat (first | (with_reducible first | exact HB.out | apply below_alloc | apply pw_below_drewN | apply below_drew1 | refine below_set ?_ GE969.out) | exact HB.out)))); have n2_ := Aside0.mk (blk_below (g := gb969) (o := .cells #[.int .i64 a0_0, .int .i64 a0_1, .int .i64 a0_2, .int .i64 a0_3, .int .i64 a0_4, .int .i64 a0_5, .int .i64 a0_6, .int .i64 a0_7, .int .i64 a0_8, .int .i64 a0_9] 45 (0, 0)) (by (with_reducible repeat (first | refine blk_drewN ?_ _ | refine blk_drew ?_ | refine blk_alloc ?_ _)); exact BK969.out) hb); have n3_ := Aside0.mk (below_step (by repeat (first | (with_reducible first | exact HB.out | apply below_alloc | apply pw_below_drewN | apply below_drew1 | refine below_set ?_ GE969.out) | exact HB.out)) hb); clear HO_5; clear BK969; clear HB; have HO_5 := n0_; have HO978 := n1_; have BK969 := n2_; have HB := n3_; clear n0_ n1_ n2_ n3_; clear hb ho24))
        go_loopg [6, 7] kj3 (fun kq v6 v7 w' => ∃ (x6_2 : List Int) (x7_2 : Int), v7 = .int .i64 x7_2 ∧ Aside0 (reeveref04_Header.l0 kq x5_3 x6_2 x7_2 = some (r1, r2)) ∧ Aside0 (kq ≤ kj3) ∧ Aside0 (Kd.R (Kd.int .i64) 3 w' w.heap.size (fun _ => True) v972 x5_3) ∧ Aside0 (Kd.R (Kd.int .u8) 5 w' w.heap.size (fun _ => True) v6 x6_2) ∧ Aside0 (w'.heap[gb969]? = some (.cells #[.int .i64 a0_0, .int .i64 a0_1, .int .i64 a0_2, .int .i64 a0_3, .int .i64 a0_4, .int .i64 a0_5, .int .i64 a0_6, .int .i64 a0_7, .int .i64 a0_8, .int .i64 a0_9] 45 (0, 0))) ∧ Aside0 (Below w.heap.size w w'))
        case atStart => exact ⟨(y976), (0), (by first | rfl | (simp; done) | (simp [*]; done)), H', ⟨Nat.le_refl _⟩, ⟨by (with_reducible repeat (first | apply Kd.R_alloc | apply Kd.R_drewN | apply Kd.R_drew)); exact HO_5.out⟩, ⟨by (with_reducible repeat (first | apply Kd.R_alloc | apply Kd.R_drewN | apply Kd.R_drew)); exact HO978.out⟩, ⟨by (with_reducible repeat (first | refine blk_drewN ?_ _ | refine blk_drew ?_ | refine blk_alloc ?_ _)); exact BK969.out⟩, ⟨by repeat (first | (with_reducible first | exact HB.out | apply below_alloc | apply pw_below_drewN | apply below_drew1 | refine below_set ?_ GE969.out) | exact HB.out)⟩⟩
        case round =>
          clear H'
          try clear c1
          try clear p1
          try clear q1
          try clear hx1
          try clear qi1
          try clear hf1
          try clear p2
          try clear c3
          try clear c3b0
          try clear c3b1
          try clear c6
          try clear c12
          try clear c12b0
          try clear c12b1
          try clear c13
          try clear c13b0
          try clear c13b1
          try clear p14
          try clear q14
          try clear hx14
          try clear qi14
          try clear hf14
          try clear c15
          try clear c15b0
          try clear c15b1
          try clear p16
          try clear q16
          try clear hx16
          try clear qi16
          try clear hf16
          try clear hcz11_0
          try clear hcz11_1
          try clear hcz11_2
          try clear hcz11_3
          try clear hcz11_4
          try clear hcz11_5
          try clear hcz11_6
          try clear hcz11_7
          try clear hcz11_8
          try clear hcz11_9
          try clear hcz17_0
          try clear hcz17_1
          try clear hcz17_2
          try clear hcz17_3
          try clear hcz17_4
          try clear hcz17_5
          try clear hcz17_6
          try clear hcz17_7
          try clear hcz17_8
          try clear hcz17_9
          try clear hcz20_0
          try clear hcz20_1
          try clear hcz20_2
          try clear hcz20_3
          try clear hcz20_4
          try clear hcz20_5
          try clear hcz20_6
          try clear hcz20_7
          try clear hcz20_8
          try clear hcz20_9
          try clear hcz6_0
          try clear hcz6_1
          try clear hcz6_2
          try clear hcz6_3
          try clear hcz6_4
          try clear hcz6_5
          try clear hcz6_6
          try clear hcz6_7
          try clear hcz6_8
          try clear hcz6_9
          try clear hcz8_0
          try clear hcz8_1
          try clear hcz8_2
          try clear hcz8_3
          try clear hcz8_4
          try clear hcz8_5
          try clear hcz8_6
          try clear hcz8_7
          try clear hcz8_8
          try clear hcz8_9
          try clear hfz11_0
          try clear hfz11_1
          try clear hfz11_2
          try clear hfz11_3
          try clear hfz11_4
          try clear hfz11_5
          try clear hfz11_6
          try clear hfz11_7
          try clear hfz11_8
          try clear hfz11_9
          try clear hfz17_0
          try clear hfz17_1
          try clear hfz17_2
          try clear hfz17_3
          try clear hfz17_4
          try clear hfz17_5
          try clear hfz17_6
          try clear hfz17_7
          try clear hfz17_8
          try clear hfz17_9
          try clear hfz20_0
          try clear hfz20_1
          try clear hfz20_2
          try clear hfz20_3
          try clear hfz20_4
          try clear hfz20_5
          try clear hfz20_6
          try clear hfz20_7
          try clear hfz20_8
          try clear hfz20_9
          try clear hfz6_0
          try clear hfz6_1
          try clear hfz6_2
          try clear hfz6_3
          try clear hfz6_4
          try clear hfz6_5
          try clear hfz6_6
          try clear hfz6_7
          try clear hfz6_8
          try clear hfz6_9
          try clear hfz8_0
          try clear hfz8_1
          try clear hfz8_2
          try clear hfz8_3
          try clear hfz8_4
          try clear hfz8_5
          try clear hfz8_6
          try clear hfz8_7
          try clear hfz8_8
          try clear hfz8_9
          try clear hx14_0
          try clear hx16_0
          try clear p1
          try clear p14
          try clear p16
          try clear p2
          try clear q1
          try clear q14
          try clear q16
          obtain ⟨x6_2, x7_2, rfl, HA, HK2, HO_5, HO_6, BK969, HB⟩ := hrel
          cases gk with
          | zero => exact absurd HA.out (by simp [reeveref04_Header.l0])
          | succ k2 =>
            have H := HA.out
            clear HA
            simp only [reeveref04_Header.l0] at H
            by_cases c25 : x7_2 < (x5_3.length : Int)
            · rw [if_pos c25] at H
              have c25b0 : decide (x7_2 < (x5_3.length : Int)) = true := decide_eq_true c25
              clear c25
              by_cases c26 : 0 ≤ x7_2
              · rw [if_pos c26] at H
                have c26b0 : decide (0 ≤ x7_2) = true := decide_eq_true c26
                clear c26
                replace H := Option.bind_eq_some_iff.mp H
                obtain ⟨⟨t980, t981⟩, A270, H⟩ := H
                replace H : (if x6_2.length + t980.length < 140737488355328 then (reeveref04_Header.l0 k2 x5_3 (x6_2 ++ t980) (wrap64 (x7_2 + 1))) else (none)) = some (r1, r2) := H
                have A27 := Aside0.mk A270
                clear A270
                by_cases c28 : x6_2.length + t980.length < 140737488355328
                · rw [if_pos c28] at H
                  have LMc28 := Aside0.mk c28
                  clear c28
                  obtain ⟨y984, hy984⟩ : ∃ y_ : List Int, y_ = (x6_2 ++ t980) := ⟨_, rfl⟩
                  replace H : (reeveref04_Header.l0 k2 x5_3 y984 (wrap64 (x7_2 + 1))) = some (r1, r2) := by first | (rw [hy984]; with_reducible exact H) | (have H2_ := (Option.bind_some _ _).symm.trans H; rw [hy984]; with_reducible exact H2_) | (have H2_ := (Option.bind_some _ _).symm.trans H; with_reducible exact H2_) | with_reducible exact H | (rw [hy984]; exact H) | exact H
                  have Ny984 := Aside0.mk hy984
                  clear hy984
                  have H' := Aside0.mk H
                  clear H
                  obtain ⟨Ao29, co29, eo29⟩ := Kd.R_slice HO_5.out
                  subst eo29
                  have p979 : 0 ≤ (x7_2 : Int) := of_decide_eq_true (by first | (with_reducible assumption) | assumption)
                  have q979 : x7_2 < (x5_3.length : Int) := of_decide_eq_true (by first | (with_reducible assumption) | assumption)
                  obtain ⟨ad979, e979, hx979_0⟩ := Kd.at_int (Kd.R_reads' HO_5.out).2.2 x7_2 p979 q979
                  cases e979
                  replace p979 := eq_true p979
                  replace q979 := eq_true q979
                  go_wp2_with (first | ((with_reducible refine gate_callee (f := 82) rfl ?_); refine goesL_ (some 59) rfl rfl Try.func82 (by kernel_rfl) rfl #[.int .i64 (rd x5_3 x7_2)] rfl (by (try simp only [List.map_toArray, List.map_cons, List.map_nil]); first | done | rfl | (simp only [List.length_drop, List.length_take]; rfl)) ?_; (with_reducible refine (reeveref01_Number.calls k2 (rd x5_3 x7_2) t980 t981 _ A27.out).mono ?_); rintro e w30 ⟨v982, rfl, ho0, hb⟩; refine ⟨_, rfl, ?_⟩; have n0_ := Aside0.mk (Kd.R_below (by (with_reducible repeat (first | apply Kd.R_alloc | apply Kd.R_drewN | apply Kd.R_drew)); exact HO_5.out) hb); have n1_ := Aside0.mk (Kd.R_elder' (by (with_reducible repeat (first | apply Kd.R_alloc | apply Kd.R_drewN | apply Kd.R_drew)); exact HO_6.out) (Kd.R_base ho0) hb); have n2_ := Aside0.mk (Kd.R_lower (Kd.R_new' ho0 (Kd.R_lt (by (with_reducible repeat (first | apply Kd.R_alloc | apply Kd.R_drewN | apply Kd.R_drew)); exact HO_6.out))) (below_size (by repeat (first | (with_reducible first | exact HB.out | apply below_alloc | apply pw_below_drewN | apply below_drew1 | refine below_set ?_ GE969.out) | exact HB.out)))); have n3_ := Aside0.mk (blk_below (g := gb969) (o := .cells #[.int .i64 a0_0, .int .i64 a0_1, .int .i64 a0_2, .int .i64 a0_3, .int .i64 a0_4, .int .i64 a0_5, .int .i64 a0_6, .int .i64 a0_7, .int .i64 a0_8, .int .i64 a0_9] 45 (0, 0)) (by (with_reducible repeat (first | refine blk_drewN ?_ _ | refine blk_drew ?_ | refine blk_alloc ?_ _)); exact BK969.out) hb); have n4_ := Aside0.mk (below_step (by repeat (first | (with_reducible first | exact HB.out | apply below_alloc | apply pw_below_drewN | apply below_drew1 | refine below_set ?_ GE969.out) | exact HB.out)) hb); clear HO_5; clear HO_6; clear BK969; clear HB; have HO_5 := n0_; have HO_6 := n1_; have HO983 := n2_; have BK969 := n3_; have HB := n4_; clear n0_ n1_ n2_ n3_ n4_; (try clear hb); (try clear hb2); (try clear hk); (try clear hi); (try clear ho0); obtain ⟨Ao32, co32, eo32⟩ := Kd.R_slice HO983.out; subst eo32) | ((with_reducible refine gate_builtin (b := .append) (xs := #[.tmp 62, .tmp 63]) rfl ?_); at_builtin; refine Kd.R_append_rows (Kd.int .u8) (w0 := w) w.heap.size rfl (.tmp 62) (.tmp 63) 24 5 (.int .u8 0) 1 rfl Try.underlying24 info5 rfl (by decide) (by omega) u6 x6_2 t980 _ _ _ (fun k_ => some k_ ≠ (.slice Ao32 t980.length co32 : Value).ownBlock) (fun _ => False) rfl rfl ?aO ?aR (fun _ _ h => h) (fun _ h => h.elim) ?aF ?aB ?aS ?aL ?_; (case aR => repeat (first | exact (Kd.R_reads' HO983.out).2.2 | (with_reducible refine Kd.C_alloc ?_ _) | (with_reducible refine Kd.C_drewN ?_ _) | (with_reducible refine Kd.C_drew ?_))); (case aB => exact (by repeat (first | (with_reducible first | exact HB.out | apply below_alloc | apply pw_below_drewN | apply below_drew1 | refine below_set ?_ GE969.out) | exact HB.out))); (case aF => exact (fun k_ hk => Kd.fresh' (Kd.R_lt (by (with_reducible repeat (first | apply Kd.R_alloc | apply Kd.R_drewN | apply Kd.R_drew)); exact HO983.out)) k_ hk)); (case aO => exact (by (with_reducible repeat (first | apply Kd.R_alloc | apply Kd.R_drewN | apply Kd.R_drew)); exact Kd.R_mono HO_6.out (fun _ hk => hk.2))); (case aS => exact (below_size (by repeat (first | (with_reducible first | exact HB.out | apply below_alloc | apply pw_below_drewN | apply below_drew1 | refine below_set ?_ GE969.out) | exact HB.out)))); (case aL => have := LMc28.out; omega); intro v985 w31 ho hb hg hat; rw [← Ny984.out] at ho; have n0_ := Aside0.mk (Kd.R_over' (by (with_reducible repeat (first | apply Kd.R_alloc | apply Kd.R_drewN | apply Kd.R_drew)); exact HO_5.out) (Kd.R_typed (by (with_reducible repeat (first | apply Kd.R_alloc | apply Kd.R_drewN | apply Kd.R_drew)); exact HO_6.out)) (by decide) hg); have n1_ := Aside0.mk (blk_grown (g := gb969) (o := .cells #[.int .i64 a0_0, .int .i64 a0_1, .int .i64 a0_2, .int .i64 a0_3, .int .i64 a0_4, .int .i64 a0_5, .int .i64 a0_6, .int .i64 a0_7, .int .i64 a0_8, .int .i64 a0_9] 45 (0, 0)) (by (with_reducible repeat (first | refine blk_drewN ?_ _ | refine blk_drew ?_ | refine blk_alloc ?_ _)); exact BK969.out) hg (Kd.R_ne HO_6.out BK969.out (by decide))); have n2_ := Aside0.mk (Kd.R_after (ok := (fun _ => True)) (by (with_reducible repeat (first | apply Kd.R_alloc | apply Kd.R_drewN | apply Kd.R_drew)); exact HO983.out) hg hat); have n3_ := Aside0.mk (hb); have n4_ := Aside0.mk (ho); clear HO_5; clear BK969; clear HO983; clear HB; clear HO_6; have HO_5 := n0_; have BK969 := n1_; have HO983 := n2_; have HB := n3_; have HO986 := n4_; clear n0_ n1_ n2_ n3_ n4_; clear ho hb hg hat))
                  go_roundg k2
                  case measure => have := HJ3.out; have := HK2.out; omega
                  case rel => exact ⟨(y984), (wrap64 (x7_2 + 1)), (by first | rfl | (simp; done) | (simp [*]; done)), H', ⟨by have := HJ3.out; have := HK2.out; omega⟩, ⟨by (with_reducible repeat (first | apply Kd.R_alloc | apply Kd.R_drewN | apply Kd.R_drew)); exact HO_5.out⟩, ⟨by (with_reducible repeat (first | apply Kd.R_alloc | apply Kd.R_drewN | apply Kd.R_drew)); exact Kd.R_mono HO986.out (fun _ hk => trivial)⟩, ⟨by (with_reducible repeat (first | refine blk_drewN ?_ _ | refine blk_drew ?_ | refine blk_alloc ?_ _)); exact BK969.out⟩, ⟨by repeat (first | (with_reducible first | exact HB.out | apply below_alloc | apply pw_below_drewN | apply below_drew1 | refine below_set ?_ GE969.out) | exact HB.out)⟩⟩
                · rw [if_neg c28] at H
                  exact absurd H (by simp)
              · rw [if_neg c26] at H
                exact absurd H (by simp)
            · rw [if_neg c25] at H
              have c25b0 : decide (x7_2 < (x5_3.length : Int)) = false := decide_eq_false c25
              clear c25
              replace H := Option.bind_eq_some_iff.mp H
              obtain ⟨⟨t987, t988⟩, A330, H⟩ := H
              replace H : ((reeveref02_Add.f k2 t987 t988 x6_2).bind fun bt989 => ((reeveref02_Bytes.f bt989.1 bt989.2.1).bind fun bt993 => (if x6_2.length + bt993.1.length < 140737488355328 then (some ((x6_2 ++ bt993.1), 0)) else (none)))) = some (r1, r2) := H
              have A33 := Aside0.mk A330
              clear A330
              replace H := Option.bind_eq_some_iff.mp H
              obtain ⟨⟨t989, t990, t991⟩, A340, H⟩ := H
              replace H : ((reeveref02_Bytes.f t989 t990).bind fun bt993 => (if x6_2.length + bt993.1.length < 140737488355328 then (some ((x6_2 ++ bt993.1), 0)) else (none))) = some (r1, r2) := H
              have A34 := Aside0.mk A340
              clear A340
              replace H := Option.bind_eq_some_iff.mp H
              obtain ⟨⟨t993, t996⟩, A350, H⟩ := H
              replace H : (if x6_2.length + t993.length < 140737488355328 then (some ((x6_2 ++ t993), 0)) else (none)) = some (r1, r2) := H
              have A35 := Aside0.mk A350
              clear A350
              by_cases c36 : x6_2.length + t993.length < 140737488355328
              · rw [if_pos c36] at H
                have LMc36 := Aside0.mk c36
                clear c36
                obtain ⟨y997, hy997⟩ : ∃ y_ : List Int, y_ = (x6_2 ++ t993) := ⟨_, rfl⟩
                replace H : (some (y997, 0)) = some (r1, r2) := by first | (rw [hy997]; with_reducible exact H) | (have H2_ := (Option.bind_some _ _).symm.trans H; rw [hy997]; with_reducible exact H2_) | (have H2_ := (Option.bind_some _ _).symm.trans H; with_reducible exact H2_) | with_reducible exact H | (rw [hy997]; exact H) | exact H
                have Ny997 := Aside0.mk hy997
                clear hy997
                simp only [Option.some.injEq, Prod.mk.injEq] at H
                obtain ⟨rfl, rfl⟩ := H
                obtain ⟨Ao37, co37, eo37⟩ := Kd.R_slice HO_5.out
                subst eo37
                go_wp2_with (first | ((with_reducible refine gate_callee (f := 32) rfl ?_); refine goesL_ (some 66) rfl rfl Try.func32 (by kernel_rfl) rfl #[] rfl (by (try simp only [List.map_toArray, List.map_cons, List.map_nil]); first | done | rfl | (simp only [List.length_drop, List.length_take]; rfl)) ?_; (with_reducible refine (reeveref02_Start.calls  t987 t988 _ A33.out).mono ?_); rintro e w38 ⟨rfl, hb⟩; refine ⟨_, rfl, ?_⟩; have n0_ := Aside0.mk (Kd.R_below (by (with_reducible repeat (first | apply Kd.R_alloc | apply Kd.R_drewN | apply Kd.R_drew)); exact HO_5.out) hb); have n1_ := Aside0.mk (Kd.R_below (by (with_reducible repeat (first | apply Kd.R_alloc | apply Kd.R_drewN | apply Kd.R_drew)); exact HO_6.out) hb); have n2_ := Aside0.mk (blk_below (g := gb969) (o := .cells #[.int .i64 a0_0, .int .i64 a0_1, .int .i64 a0_2, .int .i64 a0_3, .int .i64 a0_4, .int .i64 a0_5, .int .i64 a0_6, .int .i64 a0_7, .int .i64 a0_8, .int .i64 a0_9] 45 (0, 0)) (by (with_reducible repeat (first | refine blk_drewN ?_ _ | refine blk_drew ?_ | refine blk_alloc ?_ _)); exact BK969.out) hb); have n3_ := Aside0.mk (below_step (by repeat (first | (with_reducible first | exact HB.out | apply below_alloc | apply pw_below_drewN | apply below_drew1 | refine below_set ?_ GE969.out) | exact HB.out)) hb); clear HO_5; clear HO_6; clear BK969; clear HB; have HO_5 := n0_; have HO_6 := n1_; have BK969 := n2_; have HB := n3_; clear n0_ n1_ n2_ n3_; (try clear hb); (try clear hb2); (try clear hk); (try clear hi); obtain ⟨Ao39, co39, eo39⟩ := Kd.R_slice HO_6.out; subst eo39) | ((with_reducible refine gate_callee (f := 25) rfl ?_); refine goesL_ (some 68) rfl rfl Try.func25 (by kernel_rfl) rfl #[.agg #[.int .i64 t987, .int .i64 t988], .slice Ao39 x6_2.length co39] rfl (by (try simp only [List.map_toArray, List.map_cons, List.map_nil]); first | done | rfl | (simp only [List.length_drop, List.length_take]; rfl)) ?_; (with_reducible refine (reeveref02_Add.calls k2 t987 t988 _ _ x6_2 t989 t990 t991 _ ?side1 ?side2 A34.out).mono ?_); (case side1 => repeat (first | exact (Kd.R_reads' HO_6.out).2.2 | (with_reducible refine Kd.C_alloc ?_ _) | (with_reducible refine Kd.C_drewN ?_ _) | (with_reducible refine Kd.C_drew ?_))); (case side2 => exact (Kd.R_reads' HO_6.out).2.1); rintro e w40 ⟨rfl, hb⟩; refine ⟨_, rfl, ?_⟩; have n0_ := Aside0.mk (Kd.R_below (by (with_reducible repeat (first | apply Kd.R_alloc | apply Kd.R_drewN | apply Kd.R_drew)); exact HO_5.out) hb); have n1_ := Aside0.mk (Kd.R_below (by (with_reducible repeat (first | apply Kd.R_alloc | apply Kd.R_drewN | apply Kd.R_drew)); exact HO_6.out) hb); have n2_ := Aside0.mk (blk_below (g := gb969) (o := .cells #[.int .i64 a0_0, .int .i64 a0_1, .int .i64 a0_2, .int .i64 a0_3, .int .i64 a0_4, .int .i64 a0_5, .int .i64 a0_6, .int .i64 a0_7, .int .i64 a0_8, .int .i64 a0_9] 45 (0, 0)) (by (with_reducible repeat (first | refine blk_drewN ?_ _ | refine blk_drew ?_ | refine blk_alloc ?_ _)); exact BK969.out) hb); have n3_ := Aside0.mk (below_step (by repeat (first | (with_reducible first | exact HB.out | apply below_alloc | apply pw_below_drewN | apply below_drew1 | refine below_set ?_ GE969.out) | exact HB.out)) hb); clear HO_5; clear HO_6; clear BK969; clear HB; have HO_5 := n0_; have HO_6 := n1_; have BK969 := n2_; have HB := n3_; clear n0_ n1_ n2_ n3_; (try clear hb); (try clear hb2); (try clear hk); (try clear hi)) | ((with_reducible refine gate_dst (N := 10) rfl ?_); refine box_event ?hg (N := 10) ?hd (cs := #[.int .i64 0, .int .i64 0]) (t := 23) ?hr ?_; (case hd => rfl); (case hg => rfl); (case hr => first | (go_simp; done) | (go_simp; rfl)); intro gb992 hg w41 hbox hb; have n0_ := Aside0.mk (Kd.R_below (by (with_reducible repeat (first | apply Kd.R_alloc | apply Kd.R_drewN | apply Kd.R_drew)); exact HO_5.out) hb); have n1_ := Aside0.mk (Kd.R_below (by (with_reducible repeat (first | apply Kd.R_alloc | apply Kd.R_drewN | apply Kd.R_drew)); exact HO_6.out) hb); have n2_ := Aside0.mk (blk_below (g := gb969) (o := .cells #[.int .i64 a0_0, .int .i64 a0_1, .int .i64 a0_2, .int .i64 a0_3, .int .i64 a0_4, .int .i64 a0_5, .int .i64 a0_6, .int .i64 a0_7, .int .i64 a0_8, .int .i64 a0_9] 45 (0, 0)) (by (with_reducible repeat (first | refine blk_drewN ?_ _ | refine blk_drew ?_ | refine blk_alloc ?_ _)); exact BK969.out) hb); have n3_ := Aside0.mk (below_step (by repeat (first | (with_reducible first | exact HB.out | apply below_alloc | apply pw_below_drewN | apply below_drew1 | refine below_set ?_ GE969.out) | exact HB.out)) hb); have n4_ := Aside0.mk (hbox); have n5_ := Aside0.mk ((by rw [hg]; exact (below_size (by repeat (first | (with_reducible first | exact HB.out | apply below_alloc | apply pw_below_drewN | apply below_drew1 | refine below_set ?_ GE969.out) | exact HB.out))) : w.heap.size ≤ gb992)); have n6_ := Aside0.mk ((by rw [hg]; exact (below_size (by repeat (first | (with_reducible first | exact HB.out | apply below_alloc | apply pw_below_drewN | apply below_drew1 | refine below_set ?_ GE969.out) | exact HB.out))) : w.heap.size ≤ gb992)); have n7_ := Aside0.mk ((by rw [hg]; exact Nat.ne_of_lt (blk_lt (g := gb969) (o := .cells #[.int .i64 a0_0, .int .i64 a0_1, .int .i64 a0_2, .int .i64 a0_3, .int .i64 a0_4, .int .i64 a0_5, .int .i64 a0_6, .int .i64 a0_7, .int .i64 a0_8, .int .i64 a0_9] 45 (0, 0)) (by (with_reducible repeat (first | refine blk_drewN ?_ _ | refine blk_drew ?_ | refine blk_alloc ?_ _)); exact BK969.out)) : gb969 ≠ gb992)); have n8_ := Aside0.mk ((by rw [hg]; exact Nat.ne_of_gt (blk_lt (g := gb969) (o := .cells #[.int .i64 a0_0, .int .i64 a0_1, .int .i64 a0_2, .int .i64 a0_3, .int .i64 a0_4, .int .i64 a0_5, .int .i64 a0_6, .int .i64 a0_7, .int .i64 a0_8, .int .i64 a0_9] 45 (0, 0)) (by (with_reducible repeat (first | refine blk_drewN ?_ _ | refine blk_drew ?_ | refine blk_alloc ?_ _)); exact BK969.out)) : gb992 ≠ gb969)); clear HO_5; clear HO_6; clear BK969; clear HB; have HO_5 := n0_; have HO_6 := n1_; have BK969 := n2_; have HB := n3_; have BK992 := n4_; have GW992 := n5_; have GE992 := n6_; have NB969_992 := n7_; have NB992_969 := n8_; clear n0_ n1_ n2_ n3_ n4_ n5_ n6_ n7_ n8_; clear hb hbox hg; have hnb42 := NB992_969.out; have hnc42 := NB969_992.out; have hcz43_0 : w41.cell? ⟨gb992, 0, none⟩ = some (.int .i64 0) := (blk_cell BK992.out 0).trans rfl; have hcz43_1 : w41.cell? ⟨gb992, 1, none⟩ = some (.int .i64 0) := (blk_cell BK992.out 1).trans rfl; have hfz43_0 := blk_frozen BK992.out 0; have hfz43_1 := blk_frozen BK992.out 1) | ((with_reducible refine gate_callee (f := 34) rfl ?_); refine goesL_ (some 73) rfl rfl Try.func34 (by kernel_rfl) rfl #[.agg #[.int .i64 t989, .int .i64 t990]] rfl (by (try simp only [List.map_toArray, List.map_cons, List.map_nil]); first | done | rfl | (simp only [List.length_drop, List.length_take]; rfl)) ?_; (with_reducible refine (reeveref02_Bytes.calls t989 t990 t993 t996 _ A35.out).mono ?_); rintro e w44 ⟨v994, rfl, ho0, hb⟩; refine ⟨_, rfl, ?_⟩; have n0_ := Aside0.mk (Kd.R_below (by (with_reducible repeat (first | apply Kd.R_alloc | apply Kd.R_drewN | apply Kd.R_drew)); exact (Kd.R_mono (Kd.R_far (p := ⟨gb992, 1, none⟩) (Kd.R_far (p := ⟨gb992, 0, none⟩) (Kd.R_types HO_5.out BK992.out (by decide)) (fun _ hk => hk.2) (.int .i64 t989)) (fun _ hk => hk.2) (.int .i64 t990)) (fun _ h_ => h_.1))) hb); have n1_ := Aside0.mk (Kd.R_elder' (by (with_reducible repeat (first | apply Kd.R_alloc | apply Kd.R_drewN | apply Kd.R_drew)); exact (Kd.R_mono (Kd.R_far (p := ⟨gb992, 1, none⟩) (Kd.R_far (p := ⟨gb992, 0, none⟩) (Kd.R_types HO_6.out BK992.out (by decide)) (fun _ hk => hk.2) (.int .i64 t989)) (fun _ hk => hk.2) (.int .i64 t990)) (fun _ h_ => h_.1))) (Kd.R_base ho0) hb); have n2_ := Aside0.mk (Kd.R_lower (Kd.R_new' ho0 (Kd.R_lt (by (with_reducible repeat (first | apply Kd.R_alloc | apply Kd.R_drewN | apply Kd.R_drew)); exact (Kd.R_mono (Kd.R_far (p := ⟨gb992, 1, none⟩) (Kd.R_far (p := ⟨gb992, 0, none⟩) (Kd.R_types HO_6.out BK992.out (by decide)) (fun _ hk => hk.2) (.int .i64 t989)) (fun _ hk => hk.2) (.int .i64 t990)) (fun _ h_ => h_.1))))) (below_size (by repeat (first | (with_reducible first | exact HB.out | apply below_alloc | apply pw_below_drewN | apply below_drew1 | refine below_set ?_ GE969.out | refine below_set ?_ GE992.out) | exact HB.out)))); have n3_ := Aside0.mk (blk_below (g := gb969) (o := .cells #[.int .i64 a0_0, .int .i64 a0_1, .int .i64 a0_2, .int .i64 a0_3, .int .i64 a0_4, .int .i64 a0_5, .int .i64 a0_6, .int .i64 a0_7, .int .i64 a0_8, .int .i64 a0_9] 45 (0, 0)) (by (with_reducible repeat (first | refine blk_drewN ?_ _ | refine blk_drew ?_ | refine blk_alloc ?_ _)); refine blk_far ?_ NB969_992.out _; (with_reducible repeat (first | refine blk_drewN ?_ _ | refine blk_drew ?_ | refine blk_alloc ?_ _)); refine blk_far ?_ NB969_992.out _; (with_reducible repeat (first | refine blk_drewN ?_ _ | refine blk_drew ?_ | refine blk_alloc ?_ _)); exact BK969.out) hb); have n4_ := Aside0.mk (blk_below (g := gb992) (o := .cells #[.int .i64 t989, .int .i64 t990] 23 (0, 0)) (by (with_reducible repeat (first | refine blk_drewN ?_ _ | refine blk_drew ?_ | refine blk_alloc ?_ _)); refine blk_put (cs := #[.int .i64 t989, .int .i64 0]) ?_ 1 _ rfl; (with_reducible repeat (first | refine blk_drewN ?_ _ | refine blk_drew ?_ | refine blk_alloc ?_ _)); refine blk_put (cs := #[.int .i64 0, .int .i64 0]) ?_ 0 _ rfl; (with_reducible repeat (first | refine blk_drewN ?_ _ | refine blk_drew ?_ | refine blk_alloc ?_ _)); exact BK992.out) hb); have n5_ := Aside0.mk (below_step (by repeat (first | (with_reducible first | exact HB.out | apply below_alloc | apply pw_below_drewN | apply below_drew1 | refine below_set ?_ GE969.out | refine below_set ?_ GE992.out) | exact HB.out)) hb); clear HO_5; clear HO_6; clear BK969; clear BK992; clear HB; have HO_5 := n0_; have HO_6 := n1_; have HO995 := n2_; have BK969 := n3_; have BK992 := n4_; have HB := n5_; clear n0_ n1_ n2_ n3_ n4_ n5_; (try clear hb); (try clear hb2); (try clear hk); (try clear hi); (try clear ho0); obtain ⟨Ao46, co46, eo46⟩ := Kd.R_slice HO995.out; subst eo46) | ((with_reducible refine gate_builtin (b := .append) (xs := #[.tmp 76, .tmp 77]) rfl ?_); at_builtin; refine Kd.R_append_rows (Kd.int .u8) (w0 := w) w.heap.size rfl (.tmp 76) (.tmp 77) 24 5 (.int .u8 0) 1 rfl Try.underlying24 info5 rfl (by decide) (by omega) (.slice Ao39 x6_2.length co39) x6_2 t993 _ _ _ (fun k_ => some k_ ≠ (.slice Ao46 t993.length co46 : Value).ownBlock) (fun _ => False) rfl rfl ?aO ?aR (fun _ _ h => h) (fun _ h => h.elim) ?aF ?aB ?aS ?aL ?_; (case aR => repeat (first | exact (Kd.R_reads' HO995.out).2.2 | (with_reducible refine Kd.C_alloc ?_ _) | (with_reducible refine Kd.C_drewN ?_ _) | (with_reducible refine Kd.C_drew ?_))); (case aB => exact (by repeat (first | (with_reducible first | exact HB.out | apply below_alloc | apply pw_below_drewN | apply below_drew1 | refine below_set ?_ GE969.out | refine below_set ?_ GE992.out) | exact HB.out))); (case aF => exact (fun k_ hk => Kd.fresh' (Kd.R_lt (by (with_reducible repeat (first | apply Kd.R_alloc | apply Kd.R_drewN | apply Kd.R_drew)); exact HO995.out)) k_ hk)); (case aO => exact (by (with_reducible repeat (first | apply Kd.R_alloc | apply Kd.R_drewN | apply Kd.R_drew)); exact Kd.R_mono HO_6.out (fun _ hk => hk.2))); (case aS => exact (below_size (by repeat (first | (with_reducible first | exact HB.out | apply below_alloc | apply pw_below_drewN | apply below_drew1 | refine below_set ?_ GE969.out | refine below_set ?_ GE992.out) | exact HB.out)))); (case aL => have := LMc36.out; omega); intro v998 w45 ho hb hg hat; rw [← Ny997.out] at ho; have n0_ := Aside0.mk (Kd.R_over' (by (with_reducible repeat (first | apply Kd.R_alloc | apply Kd.R_drewN | apply Kd.R_drew)); exact HO_5.out) (Kd.R_typed (by (with_reducible repeat (first | apply Kd.R_alloc | apply Kd.R_drewN | apply Kd.R_drew)); exact HO_6.out)) (by decide) hg); have n1_ := Aside0.mk (blk_grown (g := gb969) (o := .cells #[.int .i64 a0_0, .int .i64 a0_1, .int .i64 a0_2, .int .i64 a0_3, .int .i64 a0_4, .int .i64 a0_5, .int .i64 a0_6, .int .i64 a0_7, .int .i64 a0_8, .int .i64 a0_9] 45 (0, 0)) (by (with_reducible repeat (first | refine blk_drewN ?_ _ | refine blk_drew ?_ | refine blk_alloc ?_ _)); exact BK969.out) hg (Kd.R_ne HO_6.out BK969.out (by decide))); have n2_ := Aside0.mk (blk_grown (g := gb992) (o := .cells #[.int .i64 t989, .int .i64 t990] 23 (0, 0)) (by (with_reducible repeat (first | refine blk_drewN ?_ _ | refine blk_drew ?_ | refine blk_alloc ?_ _)); exact BK992.out) hg (Kd.R_ne HO_6.out BK992.out (by decide))); have n3_ := Aside0.mk (Kd.R_after (ok := (fun _ => True)) (by (with_reducible repeat (first | apply Kd.R_alloc | apply Kd.R_drewN | apply Kd.R_drew)); exact HO995.out) hg hat); have n4_ := Aside0.mk (hb); have n5_ := Aside0.mk (ho); clear HO_5; clear BK969; clear BK992; clear HO995; clear HB; clear HO_6; have HO_5 := n0_; have BK969 := n1_; have BK992 := n2_; have HO995 := n3_; have HB := n4_; have HO999 := n5_; clear n0_ n1_ n2_ n3_ n4_ n5_; clear ho hb hg hat))
                go_ret2
                exact ⟨_, by first | rfl | (simp [errW_none, errW_some] <;> rfl) | (simp [*, errW_none, errW_some] <;> rfl), by (with_reducible repeat (first | apply Kd.R_alloc | apply Kd.R_drewN | apply Kd.R_drew)); exact Kd.R_mono HO999.out (fun _ hk => trivial), by repeat (first | (with_reducible first | exact HB.out | apply below_alloc | apply pw_below_drewN | apply below_drew1 | refine below_set ?_ GE969.out | refine below_set ?_ GE992.out) | exact HB.out)⟩
              · rw [if_neg c36] at H
                exact absurd H (by simp)
  · rw [if_neg c3] at H
    have c3b0 : (t970 == 0) = false := beq_eq_false_iff_ne.mpr c3
    have c3b1 : (t970 != 0) = true := bne_iff_ne.mpr c3
    simp only [Option.some.injEq, Prod.mk.injEq] at H
    obtain ⟨rfl, rfl⟩ := H
    go_enter Try.func63, Try.ntmps63
    go_wp2_with (first | ((with_reducible refine gate_dst (N := 1) rfl ?_); refine box_event ?hg (N := 1) ?hd (cs := #[.int .i64 a0_0, .int .i64 a0_1, .int .i64 a0_2, .int .i64 a0_3, .int .i64 a0_4, .int .i64 a0_5, .int .i64 a0_6, .int .i64 a0_7, .int .i64 a0_8, .int .i64 a0_9]) (t := 45) ?hr ?_; (case hd => rfl); (case hg => rfl); (case hr => first | (go_simp; done) | (go_simp; rfl)); intro gb969 hg w47 hbox hb; have n0_ := Aside0.mk (below_step (by repeat (first | (with_reducible first | exact HB.out | apply below_alloc | apply pw_below_drewN | apply below_drew1) | exact HB.out)) hb); have n1_ := Aside0.mk (hbox); have n2_ := Aside0.mk ((by rw [hg]; exact (below_size (by repeat (first | (with_reducible first | exact HB.out | apply below_alloc | apply pw_below_drewN | apply below_drew1) | exact HB.out))) : w.heap.size ≤ gb969)); have n3_ := Aside0.mk ((by rw [hg]; exact (below_size (by repeat (first | (with_reducible first | exact HB.out | apply below_alloc | apply pw_below_drewN | apply below_drew1) | exact HB.out))) : w.heap.size ≤ gb969)); clear HB; have HB := n0_; have BK969 := n1_; have GW969 := n2_; have GE969 := n3_; clear n0_ n1_ n2_ n3_; clear hb hbox hg; have hcz48_0 : w47.cell? ⟨gb969, 0, none⟩ = some (.int .i64 a0_0) := (blk_cell BK969.out 0).trans rfl; have hcz48_1 : w47.cell? ⟨gb969, 1, none⟩ = some (.int .i64 a0_1) := (blk_cell BK969.out 1).trans rfl; have hcz48_2 : w47.cell? ⟨gb969, 2, none⟩ = some (.int .i64 a0_2) := (blk_cell BK969.out 2).trans rfl; have hcz48_3 : w47.cell? ⟨gb969, 3, none⟩ = some (.int .i64 a0_3) := (blk_cell BK969.out 3).trans rfl; have hcz48_4 : w47.cell? ⟨gb969, 4, none⟩ = some (.int .i64 a0_4) := (blk_cell BK969.out 4).trans rfl; have hcz48_5 : w47.cell? ⟨gb969, 5, none⟩ = some (.int .i64 a0_5) := (blk_cell BK969.out 5).trans rfl; have hcz48_6 : w47.cell? ⟨gb969, 6, none⟩ = some (.int .i64 a0_6) := (blk_cell BK969.out 6).trans rfl; have hcz48_7 : w47.cell? ⟨gb969, 7, none⟩ = some (.int .i64 a0_7) := (blk_cell BK969.out 7).trans rfl; have hcz48_8 : w47.cell? ⟨gb969, 8, none⟩ = some (.int .i64 a0_8) := (blk_cell BK969.out 8).trans rfl; have hcz48_9 : w47.cell? ⟨gb969, 9, none⟩ = some (.int .i64 a0_9) := (blk_cell BK969.out 9).trans rfl; have hfz48_0 := blk_frozen BK969.out 0; have hfz48_1 := blk_frozen BK969.out 1; have hfz48_2 := blk_frozen BK969.out 2; have hfz48_3 := blk_frozen BK969.out 3; have hfz48_4 := blk_frozen BK969.out 4; have hfz48_5 := blk_frozen BK969.out 5; have hfz48_6 := blk_frozen BK969.out 6; have hfz48_7 := blk_frozen BK969.out 7; have hfz48_8 := blk_frozen BK969.out 8; have hfz48_9 := blk_frozen BK969.out 9) | ((with_reducible refine gate_callee (f := 65) rfl ?_); refine goesL_ (some 15) rfl rfl Try.func65 (by kernel_rfl) rfl #[.agg #[.int .i64 a0_0, .int .i64 a0_1, .int .i64 a0_2, .int .i64 a0_3, .int .i64 a0_4, .int .i64 a0_5, .int .i64 a0_6, .int .i64 a0_7, .int .i64 a0_8, .int .i64 a0_9]] rfl (by (try simp only [List.map_toArray, List.map_cons, List.map_nil]); first | done | rfl | (simp only [List.length_drop, List.length_take]; rfl)) ?_; (with_reducible refine (reeveref04_Right.calls k a0_0 a0_1 a0_2 a0_3 a0_4 a0_5 a0_6 a0_7 a0_8 a0_9 t970 _ A2.out).mono ?_); rintro e w49 ⟨rfl, hb⟩; refine ⟨_, rfl, ?_⟩; have n0_ := Aside0.mk (blk_below (g := gb969) (o := .cells #[.int .i64 a0_0, .int .i64 a0_1, .int .i64 a0_2, .int .i64 a0_3, .int .i64 a0_4, .int .i64 a0_5, .int .i64 a0_6, .int .i64 a0_7, .int .i64 a0_8, .int .i64 a0_9] 45 (0, 0)) (by (with_reducible repeat (first | refine blk_drewN ?_ _ | refine blk_drew ?_ | refine blk_alloc ?_ _)); exact BK969.out) hb); have n1_ := Aside0.mk (below_step (by repeat (first | (with_reducible first | exact HB.out | apply below_alloc | apply pw_below_drewN | apply below_drew1 | refine below_set ?_ GE969.out) | exact HB.out)) hb); clear BK969; clear HB; have BK969 := n0_; have HB := n1_; clear n0_ n1_; (try clear hb); (try clear hb2); (try clear hk); (try clear hi)))
    go_ret2
    exact ⟨_, by first | rfl | (simp [errW_none, errW_some] <;> rfl) | (simp [*, errW_none, errW_some] <;> rfl), by first | exact Kd.R_nil _ _ _ _ _ | exact Kd.N_nil _ _ _ _ _ | exact Kd.V_nil _ _ _ _ _ | exact Kd.Q_nil _ _ _ _ _ | exact Kd.S_nil _ _ _ _ _, by repeat (first | (with_reducible first | exact HB.out | apply below_alloc | apply pw_below_drewN | apply below_drew1 | refine below_set ?_ GE969.out) | exact HB.out)⟩
end Go.Proofs.Ytbiijcehgiibeaa.Q

/- A text that a program of this session wrote (wip/qprint.py, over the kit's printer): Lean functions with the same answers as Go functions of the program, and proofs that the calls come to these answers; where a function is named in wip/ext, its definition and proof were written by hand. -/
import Derived.Test.YtbiijcehgiibeaaKCBackQ0
import Derived.Test.YtbiijcehgiibeaaKCBackQe60
import Derived.Test.YtbiijcehgiibeaaKCBackQg5
import Derived.Test.YtbiijcehgiibeaaKCBackQg7
import Derived.Test.YtbiijcehgiibeaaKCBackQg9
namespace Go.Proofs.Ytbiijcehgiibeaa.Q
open Go.RowKit Go.Proofs.YtbiijcehgiibeaaW.PrintWords Go.Proofs.YtbiijcehgiibeaaW.PrintLast Go.Proofs.YtbiijcehgiibeaaW.PrintMore
attribute [local go_sem] max2_int min2_int max_two min_two max_three min_three max_four min_four   -- for this text's walks alone
set_option linter.unusedVariables false
set_option linter.unusedSimpArgs false
attribute [local go_sem high] eqA60
mutual
def reevelaw03_ChainBack.j0 : Nat → List Int → List Int → Bool → List Int → Bool → Int → Int → Int → Int → Option (Bool)
  | 0, _, _, _, _, _, _, _, _, _ => none
  | k + 1, x1, x2, x7, x8, x30, x964000, x964001, x964002, x964003 => if x30 = true then (some x7) else (if ([] : List Int).length + x1.length < 140737488355328 then ((some (([] : List Int) ++ x1 : List Int)).bind fun y969 => (if y969.length + x8.length < 140737488355328 then ((some (y969 ++ x8 : List Int)).bind fun y972 => (if y972.length + x2.length < 140737488355328 then ((chain_Read.f k (y972 ++ x2) (x1.length : Int)).bind fun bt978 => (if bt978.2.2.2.2.2 = 0 then (if (!(bt978.1 == x964000) || (!(bt978.2.1 == x964001) || ((!(bt978.2.2.1 == x964002) || (!(bt978.2.2.2.1 == x964003)))))) = true then (none) else (reevelaw03_ChainBack.j1 k x2 (bt978.2.2.2.2.1 != (wrap64 ((x1.length : Int) + (x8.length : Int)))))) else (none))) else (none))) else (none))) else (none))
def reevelaw03_ChainBack.j1 : Nat → List Int → Bool → Option (Bool)
  | 0, _, _ => none
  | k + 1, x2, x64 => if x64 = true then (none) else ((chain_Read.f k x2 0).bind fun bt985 => (if bt985.2.2.2.2.2 = 0 then ((chain_Bytes.f k bt985.1 bt985.2.1 bt985.2.2.1 bt985.2.2.2.1).bind fun bt992 => (if bt992.2 = 0 then (if bt985.2.2.2.2.1 < 0 then (none) else (if bt985.2.2.2.2.1 > (x2.length : Int) then (none) else (if 0 ≤ bt985.2.2.2.2.1 then (if bt985.2.2.2.2.1 ≤ (x2.length : Int) then ((reevelaw02_Same.f k bt992.1 (x2.take (bt985.2.2.2.2.1 : Int).toNat)).bind fun t997 => (some t997)) else (none)) else (none)))) else (none))) else (if (bt985.1 == 0 && (bt985.2.1 == 0 && ((bt985.2.2.1 == 0 && (bt985.2.2.2.1 == 0))))) = true then (some (bt985.2.2.2.2.1 == 0)) else (none))))
end
def reevelaw03_ChainBack.f (k : Nat) (a0_0 : Int) (a0_1 : Int) (a0_2 : Int) (a0_3 : Int) (l1 : List Int) (l2 : List Int) : Option (Bool) := (reevelaw03_awake.f k).bind fun t964 => ((chain_Bytes.f k a0_0 a0_1 a0_2 a0_3).bind fun bt965 => (if t964 = true then (reevelaw03_ChainBack.j0 k l1 l2 t964 bt965.1 (bt965.2 != 0) a0_0 a0_1 a0_2 a0_3) else (reevelaw03_ChainBack.j0 k l1 l2 t964 bt965.1 true a0_0 a0_1 a0_2 a0_3)))
set_option maxHeartbeats 8000000 in
set_option maxRecDepth 100000 in
theorem reevelaw03_ChainBack.calls (k : Nat) (a0_0 : Int) (a0_1 : Int) (a0_2 : Int) (a0_3 : Int) (A1 : Option Addr) (c1 : Nat) (l1 : List Int) (A2 : Option Addr) (c2 : Nat) (l2 : List Int) (r : Bool) (w : World) (hr1 : Kd.C (Kd.int .u8) w A1 l1.length l1) (hc1 : l1.length ≤ c1) (hr2 : Kd.C (Kd.int .u8) w A2 l2.length l2) (hc2 : l2.length ≤ c2) (h : reevelaw03_ChainBack.f k a0_0 a0_1 a0_2 a0_3 l1 l2 = some r) :
    Calls Try.prog 20 #[.agg #[.int .i64 a0_0, .int .i64 a0_1, .int .i64 a0_2, .int .i64 a0_3], .slice A1 l1.length c1, .slice A2 l2.length c2] w fun e w' => e = .returned (.bool r) ∧ Below w.heap.size w w' := by
  have hu60 := Try.underlying60
  have HR1 := Aside0.mk hr1
  have HC1 := Aside0.mk hc1
  clear hr1 hc1
  have HR2 := Aside0.mk hr2
  have HC2 := Aside0.mk hc2
  clear hr2 hc2
  have HB := Aside0.mk (Below.refl w.heap.size w)
  have H : ((reevelaw03_awake.f k).bind fun t964 => ((chain_Bytes.f k a0_0 a0_1 a0_2 a0_3).bind fun bt965 => (if t964 = true then (reevelaw03_ChainBack.j0 k l1 l2 t964 bt965.1 (bt965.2 != 0) a0_0 a0_1 a0_2 a0_3) else (reevelaw03_ChainBack.j0 k l1 l2 t964 bt965.1 true a0_0 a0_1 a0_2 a0_3)))) = some r := h
  clear h
  replace H := Option.bind_eq_some_iff.mp H
  obtain ⟨t964, A40, H⟩ := H
  replace H : ((chain_Bytes.f k a0_0 a0_1 a0_2 a0_3).bind fun bt965 => (if t964 = true then (reevelaw03_ChainBack.j0 k l1 l2 t964 bt965.1 (bt965.2 != 0) a0_0 a0_1 a0_2 a0_3) else (reevelaw03_ChainBack.j0 k l1 l2 t964 bt965.1 true a0_0 a0_1 a0_2 a0_3))) = some r := H
  have A4 := Aside0.mk A40
  clear A40
  replace H := Option.bind_eq_some_iff.mp H
  obtain ⟨⟨t965, t968⟩, A50, H⟩ := H
  replace H : (if t964 = true then (reevelaw03_ChainBack.j0 k l1 l2 t964 t965 (t968 != 0) a0_0 a0_1 a0_2 a0_3) else (reevelaw03_ChainBack.j0 k l1 l2 t964 t965 true a0_0 a0_1 a0_2 a0_3)) = some r := H
  have A5 := Aside0.mk A50
  clear A50
  have HC6 := Aside0.mk H
  clear H
  go_enter Try.func20, Try.ntmps20
  go_upto_region 3 with (first | ((with_reducible refine gate_dst (N := 3) rfl ?_); (try (refine gate_guard (by rfl) ?_; dsimp only)); refine box_event ?hg (N := 3) ?hd (cs := #[.int .i64 a0_0, .int .i64 a0_1, .int .i64 a0_2, .int .i64 a0_3]) (t := 60) ?hr ?_; (case hd => rfl); (case hg => rfl); (case hr => first | (go_simp; done) | (go_simp; rfl)); intro gb963 hg w7 hbox hb; have n0_ := Aside0.mk (below_step (by repeat (first | (with_reducible first | exact HB.out | apply below_alloc | apply pw_below_drewN | apply below_drew1) | exact HB.out)) hb); have n1_ := Aside0.mk (hbox); have n2_ := Aside0.mk ((by rw [hg]; exact (below_size (by repeat (first | (with_reducible first | exact HB.out | apply below_alloc | apply pw_below_drewN | apply below_drew1) | exact HB.out))) : w.heap.size ≤ gb963)); have n3_ := Aside0.mk ((by rw [hg]; exact (below_size (by repeat (first | (with_reducible first | exact HB.out | apply below_alloc | apply pw_below_drewN | apply below_drew1) | exact HB.out))) : w.heap.size ≤ gb963)); clear HB; have HB := n0_; have BK963 := n1_; have GW963 := n2_; have GE963 := n3_; clear n0_ n1_ n2_ n3_; clear hb hbox hg) | ((with_reducible refine gate_callee (f := 50) rfl ?_); refine goesL_ (some 19) rfl rfl Try.func50 (by kernel_rfl) rfl #[] rfl (by (try simp only [List.map_toArray, List.map_cons, List.map_nil]); first | done | rfl | (simp only [List.length_drop, List.length_take]; rfl)) ?_; (with_reducible refine (reevelaw03_awake.calls k  t964 _ A4.out).mono ?_); rintro e w8 ⟨rfl, hb⟩; refine ⟨_, rfl, ?_⟩; have n0_ := Aside0.mk (blk_below (g := gb963) (o := .cells #[.int .i64 a0_0, .int .i64 a0_1, .int .i64 a0_2, .int .i64 a0_3] 60 (0, 0)) (by (with_reducible repeat (first | refine blk_drewN ?_ _ | refine blk_drew ?_ | refine blk_alloc ?_ _)); exact BK963.out) hb); have n1_ := Aside0.mk (below_step (by repeat (first | (with_reducible first | exact HB.out | apply below_alloc | apply pw_below_drewN | apply below_drew1 | refine below_set ?_ GE963.out) | exact HB.out)) hb); clear BK963; clear HB; have BK963 := n0_; have HB := n1_; clear n0_ n1_; (try clear hb); (try clear hb2); (try clear hk); (try clear hi); have hcz9_0 : w8.cell? ⟨gb963, 0, none⟩ = some (.int .i64 a0_0) := (blk_cell BK963.out 0).trans rfl; have hcz9_1 : w8.cell? ⟨gb963, 1, none⟩ = some (.int .i64 a0_1) := (blk_cell BK963.out 1).trans rfl; have hcz9_2 : w8.cell? ⟨gb963, 2, none⟩ = some (.int .i64 a0_2) := (blk_cell BK963.out 2).trans rfl; have hcz9_3 : w8.cell? ⟨gb963, 3, none⟩ = some (.int .i64 a0_3) := (blk_cell BK963.out 3).trans rfl; have hfz9_0 := blk_frozen BK963.out 0; have hfz9_1 := blk_frozen BK963.out 1; have hfz9_2 := blk_frozen BK963.out 2; have hfz9_3 := blk_frozen BK963.out 3) | ((with_reducible refine gate_callee (f := 60) rfl ?_); refine goesL_ (some 22) rfl rfl Try.func60 (by kernel_rfl) rfl #[.agg #[.int .i64 a0_0, .int .i64 a0_1, .int .i64 a0_2, .int .i64 a0_3]] rfl (by (try simp only [List.map_toArray, List.map_cons, List.map_nil]); first | done | rfl | (simp only [List.length_drop, List.length_take]; rfl)) ?_; (with_reducible refine (chain_Bytes.calls k a0_0 a0_1 a0_2 a0_3 t965 t968 _ A5.out).mono ?_); rintro e w10 ⟨v966, rfl, ho0, hb⟩; refine ⟨_, rfl, ?_⟩; have n0_ := Aside0.mk (Kd.R_lower ho0 (below_size (by repeat (first | (with_reducible first | exact HB.out | apply below_alloc | apply pw_below_drewN | apply below_drew1 | refine below_set ?_ GE963.out) | exact HB.out)))); have n1_ := Aside0.mk (blk_below (g := gb963) (o := .cells #[.int .i64 a0_0, .int .i64 a0_1, .int .i64 a0_2, .int .i64 a0_3] 60 (0, 0)) (by (with_reducible repeat (first | refine blk_drewN ?_ _ | refine blk_drew ?_ | refine blk_alloc ?_ _)); exact BK963.out) hb); have n2_ := Aside0.mk (below_step (by repeat (first | (with_reducible first | exact HB.out | apply below_alloc | apply pw_below_drewN | apply below_drew1 | refine below_set ?_ GE963.out) | exact HB.out)) hb); clear BK963; clear HB; have HO967 := n0_; have BK963 := n1_; have HB := n2_; clear n0_ n1_ n2_; (try clear hb); (try clear hb2); (try clear hk); (try clear hi); (try clear ho0)))
  (try simp only [Act.put, List.setIfInBounds_toArray, List.set_cons_zero, List.set_cons_succ])
  go_cut [30] (fun v30 wc => ∃ (kq : Nat) (x30_5 : Bool), v30 = .bool x30_5 ∧ Aside0 (reevelaw03_ChainBack.j0 kq l1 l2 t964 t965 x30_5 a0_0 a0_1 a0_2 a0_3 = some r) ∧ Aside0 (kq ≤ k) ∧ Aside0 (Kd.R (Kd.int .u8) 5 wc w.heap.size (fun _ => True) v966 t965) ∧ Aside0 (wc.heap[gb963]? = some (.cells #[.int .i64 a0_0, .int .i64 a0_1, .int .i64 a0_2, .int .i64 a0_3] 60 (0, 0))) ∧ Aside0 (Below w.heap.size w wc))
  case first =>
    have H := HC6.out
    clear HC6
    by_cases c11 : t964 = true
    · subst c11
      have H1 : (reevelaw03_ChainBack.j0 k l1 l2 true t965 (t968 != 0) a0_0 a0_1 a0_2 a0_3) = some r := by rw [if_pos rfl] at H; exact H
      clear H
      have H := H1
      clear H1
      have H' := Aside0.mk H
      clear H
      go_wp2
      go_meet
      case rel => exact ⟨_, ((t968 != 0)), (by first | rfl | (simp; done) | (simp [*]; done)), H', ⟨by first | omega | exact Nat.le_refl _⟩, ⟨by (with_reducible repeat (first | apply Kd.R_alloc | apply Kd.R_drewN | apply Kd.R_drew)); exact HO967.out⟩, ⟨by (with_reducible repeat (first | refine blk_drewN ?_ _ | refine blk_drew ?_ | refine blk_alloc ?_ _)); exact BK963.out⟩, ⟨by repeat (first | (with_reducible first | exact HB.out | apply below_alloc | apply pw_below_drewN | apply below_drew1 | refine below_set ?_ GE963.out) | exact HB.out)⟩⟩
    · replace c11 := Bool.eq_false_iff.mpr c11
      subst c11
      have H1 : (reevelaw03_ChainBack.j0 k l1 l2 false t965 true a0_0 a0_1 a0_2 a0_3) = some r := by rw [if_neg (show ¬ (false = true) by decide)] at H; exact H
      clear H
      have H := H1
      clear H1
      have H' := Aside0.mk H
      clear H
      go_wp2
      go_meet
      case rel => exact ⟨_, (true), (by first | rfl | (simp; done) | (simp [*]; done)), H', ⟨by first | omega | exact Nat.le_refl _⟩, ⟨by (with_reducible repeat (first | apply Kd.R_alloc | apply Kd.R_drewN | apply Kd.R_drew)); exact HO967.out⟩, ⟨by (with_reducible repeat (first | refine blk_drewN ?_ _ | refine blk_drew ?_ | refine blk_alloc ?_ _)); exact BK963.out⟩, ⟨by repeat (first | (with_reducible first | exact HB.out | apply below_alloc | apply pw_below_drewN | apply below_drew1 | refine below_set ?_ GE963.out) | exact HB.out)⟩⟩
  case rest =>
    clear HC6
    try clear c1
    try clear c2
    try clear p2
    try clear c5
    try clear c6
    try clear c11
    try clear hcz9_0
    try clear hcz9_1
    try clear hcz9_2
    try clear hcz9_3
    try clear hfz9_0
    try clear hfz9_1
    try clear hfz9_2
    try clear hfz9_3
    obtain ⟨kq, x30_5, rfl, HA, HJ5, HO_8, BK963, HB⟩ := hcut
    cases kq with
    | zero => exact absurd HA.out (by simp [reevelaw03_ChainBack.j0])
    | succ kj5 =>
      have H := HA.out
      clear HA
      simp only [reevelaw03_ChainBack.j0] at H
      by_cases c12 : x30_5 = true
      · subst c12
        have H1 : (some t964) = some r := by rw [if_pos rfl] at H; exact H
        clear H
        have H := H1
        clear H1
        obtain rfl := Option.some.inj H
        go_wp2
        go_ret
        exact ⟨by first | rfl | (simp [errW_none, errW_some] <;> rfl) | (simp [*, errW_none, errW_some] <;> rfl), by repeat (first | (with_reducible first | exact HB.out | apply below_alloc | apply pw_below_drewN | apply below_drew1 | refine below_set ?_ GE963.out) | exact HB.out)⟩
      · replace c12 := Bool.eq_false_iff.mpr c12
        subst c12
        have H1 : (if ([] : List Int).length + l1.length < 140737488355328 then ((some (([] : List Int) ++ l1 : List Int)).bind fun y969 => (if y969.length + t965.length < 140737488355328 then ((some (y969 ++ t965 : List Int)).bind fun y972 => (if y972.length + l2.length < 140737488355328 then ((chain_Read.f kj5 (y972 ++ l2) (l1.length : Int)).bind fun bt978 => (if bt978.2.2.2.2.2 = 0 then (if (!(bt978.1 == a0_0) || (!(bt978.2.1 == a0_1) || ((!(bt978.2.2.1 == a0_2) || (!(bt978.2.2.2.1 == a0_3)))))) = true then (none) else (reevelaw03_ChainBack.j1 kj5 l2 (bt978.2.2.2.2.1 != (wrap64 ((l1.length : Int) + (t965.length : Int)))))) else (none))) else (none))) else (none))) else (none)) = some r := by rw [if_neg (show ¬ (false = true) by decide)] at H; exact H
        clear H
        have H := H1
        clear H1
        by_cases c13 : ([] : List Int).length + l1.length < 140737488355328
        · rw [if_pos c13] at H
          have LMc13 := Aside0.mk c13
          clear c13
          obtain ⟨y969, hy969⟩ : ∃ y_ : List Int, y_ = (([] : List Int) ++ l1) := ⟨_, rfl⟩
          replace H : (if y969.length + t965.length < 140737488355328 then ((some (y969 ++ t965 : List Int)).bind fun y972 => (if y972.length + l2.length < 140737488355328 then ((chain_Read.f kj5 (y972 ++ l2) (l1.length : Int)).bind fun bt978 => (if bt978.2.2.2.2.2 = 0 then (if (!(bt978.1 == a0_0) || (!(bt978.2.1 == a0_1) || ((!(bt978.2.2.1 == a0_2) || (!(bt978.2.2.2.1 == a0_3)))))) = true then (none) else (reevelaw03_ChainBack.j1 kj5 l2 (bt978.2.2.2.2.1 != (wrap64 ((l1.length : Int) + (t965.length : Int)))))) else (none))) else (none))) else (none)) = some r := by first | (rw [hy969]; with_reducible exact H) | (have H2_ := (Option.bind_some _ _).symm.trans H; rw [hy969]; with_reducible exact H2_) | (have H2_ := (Option.bind_some _ _).symm.trans H; with_reducible exact H2_) | with_reducible exact H | (rw [hy969]; exact H) | exact H
          have Ny969 := Aside0.mk hy969
          clear hy969
          by_cases c14 : y969.length + t965.length < 140737488355328
          · rw [if_pos c14] at H
            have LMc14 := Aside0.mk c14
            clear c14
            obtain ⟨y972, hy972⟩ : ∃ y_ : List Int, y_ = (y969 ++ t965) := ⟨_, rfl⟩
            replace H : (if y972.length + l2.length < 140737488355328 then ((chain_Read.f kj5 (y972 ++ l2) (l1.length : Int)).bind fun bt978 => (if bt978.2.2.2.2.2 = 0 then (if (!(bt978.1 == a0_0) || (!(bt978.2.1 == a0_1) || ((!(bt978.2.2.1 == a0_2) || (!(bt978.2.2.2.1 == a0_3)))))) = true then (none) else (reevelaw03_ChainBack.j1 kj5 l2 (bt978.2.2.2.2.1 != (wrap64 ((l1.length : Int) + (t965.length : Int)))))) else (none))) else (none)) = some r := by first | (rw [hy972]; with_reducible exact H) | (have H2_ := (Option.bind_some _ _).symm.trans H; rw [hy972]; with_reducible exact H2_) | (have H2_ := (Option.bind_some _ _).symm.trans H; with_reducible exact H2_) | with_reducible exact H | (rw [hy972]; exact H) | exact H
            have Ny972 := Aside0.mk hy972
            clear hy972
            by_cases c15 : y972.length + l2.length < 140737488355328
            · rw [if_pos c15] at H
              have LMc15 := Aside0.mk c15
              clear c15
              obtain ⟨y975, hy975⟩ : ∃ y_ : List Int, y_ = (y972 ++ l2) := ⟨_, rfl⟩
              replace H : ((chain_Read.f kj5 y975 (l1.length : Int)).bind fun bt978 => (if bt978.2.2.2.2.2 = 0 then (if (!(bt978.1 == a0_0) || (!(bt978.2.1 == a0_1) || ((!(bt978.2.2.1 == a0_2) || (!(bt978.2.2.2.1 == a0_3)))))) = true then (none) else (reevelaw03_ChainBack.j1 kj5 l2 (bt978.2.2.2.2.1 != (wrap64 ((l1.length : Int) + (t965.length : Int)))))) else (none))) = some r := by first | (rw [hy975]; with_reducible exact H) | (have H2_ := (Option.bind_some _ _).symm.trans H; rw [hy975]; with_reducible exact H2_) | (have H2_ := (Option.bind_some _ _).symm.trans H; with_reducible exact H2_) | with_reducible exact H | (rw [hy975]; exact H) | exact H
              have Ny975 := Aside0.mk hy975
              clear hy975
              replace H := Option.bind_eq_some_iff.mp H
              obtain ⟨⟨t978, t979, t980, t981, t982, t983⟩, A160, H⟩ := H
              replace H : (if t983 = 0 then (if (!(t978 == a0_0) || (!(t979 == a0_1) || ((!(t980 == a0_2) || (!(t981 == a0_3)))))) = true then (none) else (reevelaw03_ChainBack.j1 kj5 l2 (t982 != (wrap64 ((l1.length : Int) + (t965.length : Int)))))) else (none)) = some r := H
              have A16 := Aside0.mk A160
              clear A160
              have HC17 := Aside0.mk H
              clear H
              go_upto_region 10 with (first | ((with_reducible refine gate_builtin (b := .append) (xs := #[.tmp 32, .tmp 33]) rfl ?_); (try (refine gate_guard (by rfl) ?_; dsimp only)); at_builtin; refine Kd.R_append_rows (Kd.int .u8) (w0 := w) w.heap.size rfl (.tmp 32) (.tmp 33) 24 5 (.int .u8 0) 1 rfl Try.underlying24 info5 rfl (by decide) (by omega) (.slice none 0 0) ([] : List Int) l1 _ _ _ (fun k_ => some k_ ≠ (v966 : Value).ownBlock) (fun _ => False) rfl rfl ?aO ?aR (fun _ _ h => h) (fun _ h => h.elim) ?aF ?aB ?aS ?aL ?_; (case aR => repeat (first | exact (Kd.C_below HR1.out HB.out) | (with_reducible refine Kd.C_alloc ?_ _) | (with_reducible refine Kd.C_drewN ?_ _) | (with_reducible refine Kd.C_drew ?_))); (case aB => exact (by repeat (first | (with_reducible first | exact HB.out | apply below_alloc | apply pw_below_drewN | apply below_drew1 | refine below_set ?_ GE963.out) | exact HB.out))); (case aF => exact (fun k_ hk => Kd.fresh' (Kd.R_lt (by (with_reducible repeat (first | apply Kd.R_alloc | apply Kd.R_drewN | apply Kd.R_drew)); exact HO_8.out)) k_ hk)); (case aO => exact ((Kd.R_nil _ _ _ _ (fun k_ => some k_ ≠ (v966 : Value).ownBlock)))); (case aS => exact (below_size (by repeat (first | (with_reducible first | exact HB.out | apply below_alloc | apply pw_below_drewN | apply below_drew1 | refine below_set ?_ GE963.out) | exact HB.out)))); (case aL => have := LMc13.out; omega); intro v970 w18 ho hb hg hat; rw [← Ny969.out] at ho; have n0_ := Aside0.mk (Kd.R_after (Kd.R_apart_nil (by (with_reducible repeat (first | apply Kd.R_alloc | apply Kd.R_drewN | apply Kd.R_drew)); exact HO_8.out)) hg hat); have n1_ := Aside0.mk (blk_grown (g := gb963) (o := .cells #[.int .i64 a0_0, .int .i64 a0_1, .int .i64 a0_2, .int .i64 a0_3] 60 (0, 0)) (by (with_reducible repeat (first | refine blk_drewN ?_ _ | refine blk_drew ?_ | refine blk_alloc ?_ _)); exact BK963.out) hg (by simp [Value.ownBlock])); have n2_ := Aside0.mk (hb); have n3_ := Aside0.mk (ho); clear HO_8; clear BK963; clear HB; have HO_8 := n0_; have BK963 := n1_; have HB := n2_; have HO971 := n3_; clear n0_ n1_ n2_ n3_; clear ho hb hg hat; obtain ⟨Ao20, co20, eo20⟩ := Kd.R_slice HO_8.out; subst eo20) | ((with_reducible refine gate_builtin (b := .append) (xs := #[.tmp 35, .tmp 36]) rfl ?_); (try (refine gate_guard (by rfl) ?_; dsimp only)); at_builtin; refine Kd.R_append_rows (Kd.int .u8) (w0 := w) w.heap.size rfl (.tmp 35) (.tmp 36) 24 5 (.int .u8 0) 1 rfl Try.underlying24 info5 rfl (by decide) (by omega) v970 y969 t965 _ _ _ (fun k_ => some k_ ≠ (.slice Ao20 t965.length co20 : Value).ownBlock) (fun _ => False) rfl rfl ?aO ?aR (fun _ _ h => h) (fun _ h => h.elim) ?aF ?aB ?aS ?aL ?_; (case aR => repeat (first | exact (Kd.R_reads' HO_8.out).2.2 | (with_reducible refine Kd.C_alloc ?_ _) | (with_reducible refine Kd.C_drewN ?_ _) | (with_reducible refine Kd.C_drew ?_))); (case aB => exact (by repeat (first | (with_reducible first | exact HB.out | apply below_alloc | apply pw_below_drewN | apply below_drew1 | refine below_set ?_ GE963.out) | exact HB.out))); (case aF => exact (fun k_ hk => Kd.fresh' (Kd.R_lt (by (with_reducible repeat (first | apply Kd.R_alloc | apply Kd.R_drewN | apply Kd.R_drew)); exact HO_8.out)) k_ hk)); (case aO => exact (by (with_reducible repeat (first | apply Kd.R_alloc | apply Kd.R_drewN | apply Kd.R_drew)); exact HO971.out)); (case aS => exact (below_size (by repeat (first | (with_reducible first | exact HB.out | apply below_alloc | apply pw_below_drewN | apply below_drew1 | refine below_set ?_ GE963.out) | exact HB.out)))); (case aL => have := LMc14.out; omega); intro v973 w19 ho hb hg hat; rw [← Ny972.out] at ho; have n0_ := Aside0.mk (Kd.R_after (ok := (fun _ => True)) (by (with_reducible repeat (first | apply Kd.R_alloc | apply Kd.R_drewN | apply Kd.R_drew)); exact HO_8.out) hg hat); have n1_ := Aside0.mk (blk_grown (g := gb963) (o := .cells #[.int .i64 a0_0, .int .i64 a0_1, .int .i64 a0_2, .int .i64 a0_3] 60 (0, 0)) (by (with_reducible repeat (first | refine blk_drewN ?_ _ | refine blk_drew ?_ | refine blk_alloc ?_ _)); exact BK963.out) hg (Kd.R_ne HO971.out BK963.out (by decide))); have n2_ := Aside0.mk (hb); have n3_ := Aside0.mk (ho); clear HO_8; clear BK963; clear HB; clear HO971; have HO_8 := n0_; have BK963 := n1_; have HB := n2_; have HO974 := n3_; clear n0_ n1_ n2_ n3_; clear ho hb hg hat) | ((with_reducible refine gate_builtin (b := .append) (xs := #[.tmp 38, .tmp 39]) rfl ?_); (try (refine gate_guard (by rfl) ?_; dsimp only)); at_builtin; refine Kd.R_append_rows (Kd.int .u8) (w0 := w) w.heap.size rfl (.tmp 38) (.tmp 39) 24 5 (.int .u8 0) 1 rfl Try.underlying24 info5 rfl (by decide) (by omega) v973 y972 l2 _ _ _ (fun k_ => some k_ ≠ (.slice Ao20 t965.length co20 : Value).ownBlock) (fun _ => False) rfl rfl ?aO ?aR (fun _ _ h => h) (fun _ h => h.elim) ?aF ?aB ?aS ?aL ?_; (case aR => repeat (first | exact (Kd.C_below HR2.out HB.out) | (with_reducible refine Kd.C_alloc ?_ _) | (with_reducible refine Kd.C_drewN ?_ _) | (with_reducible refine Kd.C_drew ?_))); (case aB => exact (by repeat (first | (with_reducible first | exact HB.out | apply below_alloc | apply pw_below_drewN | apply below_drew1 | refine below_set ?_ GE963.out) | exact HB.out))); (case aF => exact (fun k_ hk => Kd.fresh' (Kd.R_lt (by (with_reducible repeat (first | apply Kd.R_alloc | apply Kd.R_drewN | apply Kd.R_drew)); exact HO_8.out)) k_ hk)); (case aO => exact (by (with_reducible repeat (first | apply Kd.R_alloc | apply Kd.R_drewN | apply Kd.R_drew)); exact HO974.out)); (case aS => exact (below_size (by repeat (first | (with_reducible first | exact HB.out | apply below_alloc | apply pw_below_drewN | apply below_drew1 | refine below_set ?_ GE963.out) | exact HB.out)))); (case aL => have := LMc15.out; omega); intro v976 w21 ho hb hg hat; rw [← Ny975.out] at ho; have n0_ := Aside0.mk (Kd.R_after (ok := (fun _ => True)) (by (with_reducible repeat (first | apply Kd.R_alloc | apply Kd.R_drewN | apply Kd.R_drew)); exact HO_8.out) hg hat); have n1_ := Aside0.mk (blk_grown (g := gb963) (o := .cells #[.int .i64 a0_0, .int .i64 a0_1, .int .i64 a0_2, .int .i64 a0_3] 60 (0, 0)) (by (with_reducible repeat (first | refine blk_drewN ?_ _ | refine blk_drew ?_ | refine blk_alloc ?_ _)); exact BK963.out) hg (Kd.R_ne HO974.out BK963.out (by decide))); have n2_ := Aside0.mk (hb); have n3_ := Aside0.mk (ho); clear HO_8; clear BK963; clear HB; clear HO974; have HO_8 := n0_; have BK963 := n1_; have HB := n2_; have HO977 := n3_; clear n0_ n1_ n2_ n3_; clear ho hb hg hat; obtain ⟨Ao22, co22, eo22⟩ := Kd.R_slice HO977.out; subst eo22) | ((with_reducible refine gate_callee (f := 62) rfl ?_); refine goesL_ (some 45) rfl rfl Try.func62 (by kernel_rfl) rfl #[.slice Ao22 y975.length co22, .int .i64 (l1.length : Int)] rfl (by (try simp only [List.map_toArray, List.map_cons, List.map_nil]); first | done | rfl | (simp only [List.length_drop, List.length_take]; rfl)) ?_; (with_reducible refine (chain_Read.calls kj5 _ _ y975 (l1.length : Int) t978 t979 t980 t981 t982 t983 _ ?side1 ?side2 A16.out).mono ?_); (case side1 => repeat (first | exact (Kd.R_reads' HO977.out).2.2 | (with_reducible refine Kd.C_alloc ?_ _) | (with_reducible refine Kd.C_drewN ?_ _) | (with_reducible refine Kd.C_drew ?_))); (case side2 => exact (Kd.R_reads' HO977.out).2.1); rintro e w23 ⟨rfl, hb⟩; refine ⟨_, rfl, ?_⟩; have n0_ := Aside0.mk (Kd.R_below (by (with_reducible repeat (first | apply Kd.R_alloc | apply Kd.R_drewN | apply Kd.R_drew)); exact HO_8.out) hb); have n1_ := Aside0.mk (Kd.R_below (by (with_reducible repeat (first | apply Kd.R_alloc | apply Kd.R_drewN | apply Kd.R_drew)); exact HO977.out) hb); have n2_ := Aside0.mk (blk_below (g := gb963) (o := .cells #[.int .i64 a0_0, .int .i64 a0_1, .int .i64 a0_2, .int .i64 a0_3] 60 (0, 0)) (by (with_reducible repeat (first | refine blk_drewN ?_ _ | refine blk_drew ?_ | refine blk_alloc ?_ _)); exact BK963.out) hb); have n3_ := Aside0.mk (below_step (by repeat (first | (with_reducible first | exact HB.out | apply below_alloc | apply pw_below_drewN | apply below_drew1 | refine below_set ?_ GE963.out) | exact HB.out)) hb); clear HO_8; clear HO977; clear BK963; clear HB; have HO_8 := n0_; have HO977 := n1_; have BK963 := n2_; have HB := n3_; clear n0_ n1_ n2_ n3_; (try clear hb); (try clear hb2); (try clear hk); (try clear hi)) | ((with_reducible refine gate_dst (N := 11) rfl ?_); (try (refine gate_guard (by rfl) ?_; dsimp only)); refine box_event ?hg (N := 11) ?hd (cs := #[.int .i64 0, .int .i64 0, .int .i64 0, .int .i64 0]) (t := 60) ?hr ?_; (case hd => rfl); (case hg => rfl); (case hr => first | (go_simp; done) | (go_simp; rfl)); intro gb984 hg w24 hbox hb; have n0_ := Aside0.mk (Kd.R_below (by (with_reducible repeat (first | apply Kd.R_alloc | apply Kd.R_drewN | apply Kd.R_drew)); exact HO_8.out) hb); have n1_ := Aside0.mk (Kd.R_below (by (with_reducible repeat (first | apply Kd.R_alloc | apply Kd.R_drewN | apply Kd.R_drew)); exact HO977.out) hb); have n2_ := Aside0.mk (blk_below (g := gb963) (o := .cells #[.int .i64 a0_0, .int .i64 a0_1, .int .i64 a0_2, .int .i64 a0_3] 60 (0, 0)) (by (with_reducible repeat (first | refine blk_drewN ?_ _ | refine blk_drew ?_ | refine blk_alloc ?_ _)); exact BK963.out) hb); have n3_ := Aside0.mk (below_step (by repeat (first | (with_reducible first | exact HB.out | apply below_alloc | apply pw_below_drewN | apply below_drew1 | refine below_set ?_ GE963.out) | exact HB.out)) hb); have n4_ := Aside0.mk (hbox); have n5_ := Aside0.mk ((by rw [hg]; exact (below_size (by repeat (first | (with_reducible first | exact HB.out | apply below_alloc | apply pw_below_drewN | apply below_drew1 | refine below_set ?_ GE963.out) | exact HB.out))) : w.heap.size ≤ gb984)); have n6_ := Aside0.mk ((by rw [hg]; exact (below_size (by repeat (first | (with_reducible first | exact HB.out | apply below_alloc | apply pw_below_drewN | apply below_drew1 | refine below_set ?_ GE963.out) | exact HB.out))) : w.heap.size ≤ gb984)); have n7_ := Aside0.mk ((by rw [hg]; exact Nat.ne_of_lt (blk_lt (g := gb963) (o := .cells #[.int .i64 a0_0, .int .i64 a0_1, .int .i64 a0_2, .int .i64 a0_3] 60 (0, 0)) (by (with_reducible repeat (first | refine blk_drewN ?_ _ | refine blk_drew ?_ | refine blk_alloc ?_ _)); exact BK963.out)) : gb963 ≠ gb984)); have n8_ := Aside0.mk ((by rw [hg]; exact Nat.ne_of_gt (blk_lt (g := gb963) (o := .cells #[.int .i64 a0_0, .int .i64 a0_1, .int .i64 a0_2, .int .i64 a0_3] 60 (0, 0)) (by (with_reducible repeat (first | refine blk_drewN ?_ _ | refine blk_drew ?_ | refine blk_alloc ?_ _)); exact BK963.out)) : gb984 ≠ gb963)); clear HO_8; clear HO977; clear BK963; clear HB; have HO_8 := n0_; have HO977 := n1_; have BK963 := n2_; have HB := n3_; have BK984 := n4_; have GW984 := n5_; have GE984 := n6_; have NB963_984 := n7_; have NB984_963 := n8_; clear n0_ n1_ n2_ n3_ n4_ n5_ n6_ n7_ n8_; clear hb hbox hg; have hnb25 := NB984_963.out; have hnc25 := NB963_984.out; have hcz26_0 : w24.cell? ⟨gb984, 0, none⟩ = some (.int .i64 0) := (blk_cell BK984.out 0).trans rfl; have hcz26_1 : w24.cell? ⟨gb984, 1, none⟩ = some (.int .i64 0) := (blk_cell BK984.out 1).trans rfl; have hcz26_2 : w24.cell? ⟨gb984, 2, none⟩ = some (.int .i64 0) := (blk_cell BK984.out 2).trans rfl; have hcz26_3 : w24.cell? ⟨gb984, 3, none⟩ = some (.int .i64 0) := (blk_cell BK984.out 3).trans rfl; have hfz26_0 := blk_frozen BK984.out 0; have hfz26_1 := blk_frozen BK984.out 1; have hfz26_2 := blk_frozen BK984.out 2; have hfz26_3 := blk_frozen BK984.out 3))
              (try simp only [Act.put, List.setIfInBounds_toArray, List.set_cons_zero, List.set_cons_succ])
              go_cut [64] (fun v64 wc => ∃ (kq : Nat) (x64_16 : Bool), v64 = .bool x64_16 ∧ Aside0 (reevelaw03_ChainBack.j1 kq l2 x64_16 = some r) ∧ Aside0 (kq ≤ kj5) ∧ Aside0 (wc.heap[gb963]? = some (.cells #[.int .i64 a0_0, .int .i64 a0_1, .int .i64 a0_2, .int .i64 a0_3] 60 (0, 0))) ∧ Aside0 (wc.heap[gb984]? = some (.cells #[.int .i64 t978, .int .i64 t979, .int .i64 t980, .int .i64 t981] 60 (0, 0))) ∧ Aside0 (Below w.heap.size w wc))
              case first =>
                have H := HC17.out
                clear HC17
                by_cases c27 : t983 = 0
                · rw [if_pos c27] at H
                  have c27b0 : (t983 == 0) = true := beq_iff_eq.mpr c27
                  have c27b1 : (t983 != 0) = false := bne_eq_false_iff_eq.mpr c27
                  clear c27
                  (first | rw [c27b0] | (simp only [i64_w, i32_w]; rw [c27b0]) | skip)
                  by_cases c28 : (!(t978 == a0_0) || (!(t979 == a0_1) || ((!(t980 == a0_2) || (!(t981 == a0_3)))))) = true
                  · rw [if_pos c28] at H
                    exact absurd H (by simp)
                  · rw [if_neg c28] at H
                    have c28b0 : (!(t978 == a0_0) || (!(t979 == a0_1) || ((!(t980 == a0_2) || (!(t981 == a0_3)))))) = false := by simpa using c28
                    clear c28
                    have H' := Aside0.mk H
                    clear H
                    have hnb29 := NB984_963.out
                    have hnc29 := NB963_984.out
                    have hcz30_0 : w24.cell? ⟨gb984, 0, none⟩ = some (.int .i64 0) := (blk_cell BK984.out 0).trans rfl
                    have hcz30_1 : w24.cell? ⟨gb984, 1, none⟩ = some (.int .i64 0) := (blk_cell BK984.out 1).trans rfl
                    have hcz30_2 : w24.cell? ⟨gb984, 2, none⟩ = some (.int .i64 0) := (blk_cell BK984.out 2).trans rfl
                    have hcz30_3 : w24.cell? ⟨gb984, 3, none⟩ = some (.int .i64 0) := (blk_cell BK984.out 3).trans rfl
                    have hfz30_0 := blk_frozen BK984.out 0
                    have hfz30_1 := blk_frozen BK984.out 1
                    have hfz30_2 := blk_frozen BK984.out 2
                    have hfz30_3 := blk_frozen BK984.out 3
                    have hcz31_0 : w24.cell? ⟨gb963, 0, none⟩ = some (.int .i64 a0_0) := (blk_cell BK963.out 0).trans rfl
                    have hcz31_1 : w24.cell? ⟨gb963, 1, none⟩ = some (.int .i64 a0_1) := (blk_cell BK963.out 1).trans rfl
                    have hcz31_2 : w24.cell? ⟨gb963, 2, none⟩ = some (.int .i64 a0_2) := (blk_cell BK963.out 2).trans rfl
                    have hcz31_3 : w24.cell? ⟨gb963, 3, none⟩ = some (.int .i64 a0_3) := (blk_cell BK963.out 3).trans rfl
                    have hfz31_0 := blk_frozen BK963.out 0
                    have hfz31_1 := blk_frozen BK963.out 1
                    have hfz31_2 := blk_frozen BK963.out 2
                    have hfz31_3 := blk_frozen BK963.out 3
                    go_wp2
                    go_meet
                    case rel => exact ⟨_, ((t982 != (wrap64 ((l1.length : Int) + (t965.length : Int))))), (by first | rfl | (simp; done) | (simp [*]; done)), H', ⟨by have := HJ5.out; first | omega | exact Nat.le_refl _⟩, ⟨by (with_reducible repeat (first | refine blk_drewN ?_ _ | refine blk_drew ?_ | refine blk_alloc ?_ _)); refine blk_far ?_ NB963_984.out _; (with_reducible repeat (first | refine blk_drewN ?_ _ | refine blk_drew ?_ | refine blk_alloc ?_ _)); refine blk_far ?_ NB963_984.out _; (with_reducible repeat (first | refine blk_drewN ?_ _ | refine blk_drew ?_ | refine blk_alloc ?_ _)); refine blk_far ?_ NB963_984.out _; (with_reducible repeat (first | refine blk_drewN ?_ _ | refine blk_drew ?_ | refine blk_alloc ?_ _)); refine blk_far ?_ NB963_984.out _; (with_reducible repeat (first | refine blk_drewN ?_ _ | refine blk_drew ?_ | refine blk_alloc ?_ _)); exact BK963.out⟩, ⟨by (with_reducible repeat (first | refine blk_drewN ?_ _ | refine blk_drew ?_ | refine blk_alloc ?_ _)); refine blk_put (cs := #[.int .i64 t978, .int .i64 t979, .int .i64 t980, .int .i64 0]) ?_ 3 _ rfl; (with_reducible repeat (first | refine blk_drewN ?_ _ | refine blk_drew ?_ | refine blk_alloc ?_ _)); refine blk_put (cs := #[.int .i64 t978, .int .i64 t979, .int .i64 0, .int .i64 0]) ?_ 2 _ rfl; (with_reducible repeat (first | refine blk_drewN ?_ _ | refine blk_drew ?_ | refine blk_alloc ?_ _)); refine blk_put (cs := #[.int .i64 t978, .int .i64 0, .int .i64 0, .int .i64 0]) ?_ 1 _ rfl; (with_reducible repeat (first | refine blk_drewN ?_ _ | refine blk_drew ?_ | refine blk_alloc ?_ _)); refine blk_put (cs := #[.int .i64 0, .int .i64 0, .int .i64 0, .int .i64 0]) ?_ 0 _ rfl; (with_reducible repeat (first | refine blk_drewN ?_ _ | refine blk_drew ?_ | refine blk_alloc ?_ _)); exact BK984.out⟩, ⟨by repeat (first | (with_reducible first | exact HB.out | apply below_alloc | apply pw_below_drewN | apply below_drew1 | refine below_set ?_ GE963.out | refine below_set ?_ GE984.out) | exact HB.out)⟩⟩
                · rw [if_neg c27] at H
                  exact absurd H (by simp)
              case rest =>
                clear HC17
                try clear c1
                try clear c2
                try clear p2
                try clear c5
                try clear c6
                try clear p6
                try clear c11
                try clear c12
                try clear c13
                try clear c14
                try clear c15
                try clear c20
                try clear c25
                try clear c27
                try clear c27b0
                try clear c27b1
                try clear c28
                try clear c28b0
                try clear c29
                try clear hcz26_0
                try clear hcz26_1
                try clear hcz26_2
                try clear hcz26_3
                try clear hcz30_0
                try clear hcz30_1
                try clear hcz30_2
                try clear hcz30_3
                try clear hcz31_0
                try clear hcz31_1
                try clear hcz31_2
                try clear hcz31_3
                try clear hcz9_0
                try clear hcz9_1
                try clear hcz9_2
                try clear hcz9_3
                try clear hfz26_0
                try clear hfz26_1
                try clear hfz26_2
                try clear hfz26_3
                try clear hfz30_0
                try clear hfz30_1
                try clear hfz30_2
                try clear hfz30_3
                try clear hfz31_0
                try clear hfz31_1
                try clear hfz31_2
                try clear hfz31_3
                try clear hfz9_0
                try clear hfz9_1
                try clear hfz9_2
                try clear hfz9_3
                try clear p2
                obtain ⟨kq, x64_16, rfl, HA, HJ16, BK963, BK984, HB⟩ := hcut
                cases kq with
                | zero => exact absurd HA.out (by simp [reevelaw03_ChainBack.j1])
                | succ kj16 =>
                  have H := HA.out
                  clear HA
                  simp only [reevelaw03_ChainBack.j1] at H
                  by_cases c32 : x64_16 = true
                  · subst c32
                    have H1 : (none) = some r := by rw [if_pos rfl] at H; exact H
                    clear H
                    have H := H1
                    clear H1
                    exact absurd H (by simp)
                  · replace c32 := Bool.eq_false_iff.mpr c32
                    subst c32
                    have H1 : ((chain_Read.f kj16 l2 0).bind fun bt985 => (if bt985.2.2.2.2.2 = 0 then ((chain_Bytes.f kj16 bt985.1 bt985.2.1 bt985.2.2.1 bt985.2.2.2.1).bind fun bt992 => (if bt992.2 = 0 then (if bt985.2.2.2.2.1 < 0 then (none) else (if bt985.2.2.2.2.1 > (l2.length : Int) then (none) else (if 0 ≤ bt985.2.2.2.2.1 then (if bt985.2.2.2.2.1 ≤ (l2.length : Int) then ((reevelaw02_Same.f kj16 bt992.1 (l2.take (bt985.2.2.2.2.1 : Int).toNat)).bind fun t997 => (some t997)) else (none)) else (none)))) else (none))) else (if (bt985.1 == 0 && (bt985.2.1 == 0 && ((bt985.2.2.1 == 0 && (bt985.2.2.2.1 == 0))))) = true then (some (bt985.2.2.2.2.1 == 0)) else (none)))) = some r := by rw [if_neg (show ¬ (false = true) by decide)] at H; exact H
                    clear H
                    have H := H1
                    clear H1
                    replace H := Option.bind_eq_some_iff.mp H
                    obtain ⟨⟨t985, t986, t987, t988, t989, t990⟩, A330, H⟩ := H
                    replace H : (if t990 = 0 then ((chain_Bytes.f kj16 t985 t986 t987 t988).bind fun bt992 => (if bt992.2 = 0 then (if t989 < 0 then (none) else (if t989 > (l2.length : Int) then (none) else (if 0 ≤ t989 then (if t989 ≤ (l2.length : Int) then ((reevelaw02_Same.f kj16 bt992.1 (l2.take (t989 : Int).toNat)).bind fun t997 => (some t997)) else (none)) else (none)))) else (none))) else (if (t985 == 0 && (t986 == 0 && ((t987 == 0 && (t988 == 0))))) = true then (some (t989 == 0)) else (none))) = some r := H
                    have A33 := Aside0.mk A330
                    clear A330
                    by_cases c34 : t990 = 0
                    · rw [if_pos c34] at H
                      have c34b0 : (t990 == 0) = true := beq_iff_eq.mpr c34
                      have c34b1 : (t990 != 0) = false := bne_eq_false_iff_eq.mpr c34
                      clear c34
                      replace H := Option.bind_eq_some_iff.mp H
                      obtain ⟨⟨t992, t995⟩, A350, H⟩ := H
                      replace H : (if t995 = 0 then (if t989 < 0 then (none) else (if t989 > (l2.length : Int) then (none) else (if 0 ≤ t989 then (if t989 ≤ (l2.length : Int) then ((reevelaw02_Same.f kj16 t992 (l2.take (t989 : Int).toNat)).bind fun t997 => (some t997)) else (none)) else (none)))) else (none)) = some r := H
                      have A35 := Aside0.mk A350
                      clear A350
                      by_cases c36 : t995 = 0
                      · rw [if_pos c36] at H
                        have c36b0 : (t995 == 0) = true := beq_iff_eq.mpr c36
                        have c36b1 : (t995 != 0) = false := bne_eq_false_iff_eq.mpr c36
                        clear c36
                        by_cases c37 : t989 < 0
                        · rw [if_pos c37] at H
                          exact absurd H (by simp)
                        · rw [if_neg c37] at H
                          have c37b0 : decide (t989 < 0) = false := decide_eq_false c37
                          clear c37
                          by_cases c38 : t989 > (l2.length : Int)
                          · rw [if_pos c38] at H
                            exact absurd H (by simp)
                          · rw [if_neg c38] at H
                            have c38b0 : decide ((l2.length : Int) < t989) = false := decide_eq_false c38
                            clear c38
                            by_cases c39 : 0 ≤ t989
                            · rw [if_pos c39] at H
                              have c39b0 := eq_true c39
                              have c39b1 : decide (0 ≤ t989) = true := decide_eq_true c39
                              clear c39
                              by_cases c40 : t989 ≤ (l2.length : Int)
                              · rw [if_pos c40] at H
                                have c40b0 := eq_true c40
                                have c40b1 : decide (t989 ≤ (l2.length : Int)) = true := decide_eq_true c40
                                clear c40
                                replace H := Option.bind_eq_some_iff.mp H
                                obtain ⟨t997, A410, H⟩ := H
                                replace H : (some t997) = some r := H
                                have A41 := Aside0.mk A410
                                clear A410
                                obtain rfl := Option.some.inj H
                                go_wp2_with (first | ((with_reducible refine gate_callee (f := 62) rfl ?_); refine goesL_ (some 67) rfl rfl Try.func62 (by kernel_rfl) rfl #[.slice A2 l2.length c2, .int .i64 0] rfl (by (try simp only [List.map_toArray, List.map_cons, List.map_nil]); first | done | rfl | (simp only [List.length_drop, List.length_take]; rfl)) ?_; (with_reducible refine (chain_Read.calls kj16 _ _ l2 0 t985 t986 t987 t988 t989 t990 _ ?side1 ?side2 A33.out).mono ?_); (case side1 => repeat (first | exact (Kd.C_below HR2.out HB.out) | (with_reducible refine Kd.C_alloc ?_ _) | (with_reducible refine Kd.C_drewN ?_ _) | (with_reducible refine Kd.C_drew ?_))); (case side2 => exact HC2.out); rintro e w42 ⟨rfl, hb⟩; refine ⟨_, rfl, ?_⟩; have n0_ := Aside0.mk (blk_below (g := gb963) (o := .cells #[.int .i64 a0_0, .int .i64 a0_1, .int .i64 a0_2, .int .i64 a0_3] 60 (0, 0)) (by (with_reducible repeat (first | refine blk_drewN ?_ _ | refine blk_drew ?_ | refine blk_alloc ?_ _)); exact BK963.out) hb); have n1_ := Aside0.mk (blk_below (g := gb984) (o := .cells #[.int .i64 t978, .int .i64 t979, .int .i64 t980, .int .i64 t981] 60 (0, 0)) (by (with_reducible repeat (first | refine blk_drewN ?_ _ | refine blk_drew ?_ | refine blk_alloc ?_ _)); exact BK984.out) hb); have n2_ := Aside0.mk (below_step (by repeat (first | (with_reducible first | exact HB.out | apply below_alloc | apply pw_below_drewN | apply below_drew1 | refine below_set ?_ GE963.out | refine below_set ?_ GE984.out) | exact HB.out)) hb); clear BK963; clear BK984; clear HB; have BK963 := n0_; have BK984 := n1_; have HB := n2_; clear n0_ n1_ n2_; (try clear hb); (try clear hb2); (try clear hk); (try clear hi)) | ((with_reducible refine gate_dst (N := 14) rfl ?_); (try (refine gate_guard (by rfl) ?_; dsimp only)); refine box_event ?hg (N := 14) ?hd (cs := #[.int .i64 0, .int .i64 0, .int .i64 0, .int .i64 0]) (t := 60) ?hr ?_; (case hd => rfl); (case hg => rfl); (case hr => first | (go_simp; done) | (go_simp; rfl)); intro gb991 hg w43 hbox hb; have n0_ := Aside0.mk (blk_below (g := gb963) (o := .cells #[.int .i64 a0_0, .int .i64 a0_1, .int .i64 a0_2, .int .i64 a0_3] 60 (0, 0)) (by (with_reducible repeat (first | refine blk_drewN ?_ _ | refine blk_drew ?_ | refine blk_alloc ?_ _)); exact BK963.out) hb); have n1_ := Aside0.mk (blk_below (g := gb984) (o := .cells #[.int .i64 t978, .int .i64 t979, .int .i64 t980, .int .i64 t981] 60 (0, 0)) (by (with_reducible repeat (first | refine blk_drewN ?_ _ | refine blk_drew ?_ | refine blk_alloc ?_ _)); exact BK984.out) hb); have n2_ := Aside0.mk (below_step (by repeat (first | (with_reducible first | exact HB.out | apply below_alloc | apply pw_below_drewN | apply below_drew1 | refine below_set ?_ GE963.out | refine below_set ?_ GE984.out) | exact HB.out)) hb); have n3_ := Aside0.mk (hbox); have n4_ := Aside0.mk ((by rw [hg]; exact (below_size (by repeat (first | (with_reducible first | exact HB.out | apply below_alloc | apply pw_below_drewN | apply below_drew1 | refine below_set ?_ GE963.out | refine below_set ?_ GE984.out) | exact HB.out))) : w.heap.size ≤ gb991)); have n5_ := Aside0.mk ((by rw [hg]; exact (below_size (by repeat (first | (with_reducible first | exact HB.out | apply below_alloc | apply pw_below_drewN | apply below_drew1 | refine below_set ?_ GE963.out | refine below_set ?_ GE984.out) | exact HB.out))) : w.heap.size ≤ gb991)); have n6_ := Aside0.mk ((by rw [hg]; exact Nat.ne_of_lt (blk_lt (g := gb963) (o := .cells #[.int .i64 a0_0, .int .i64 a0_1, .int .i64 a0_2, .int .i64 a0_3] 60 (0, 0)) (by (with_reducible repeat (first | refine blk_drewN ?_ _ | refine blk_drew ?_ | refine blk_alloc ?_ _)); exact BK963.out)) : gb963 ≠ gb991)); have n7_ := Aside0.mk ((by rw [hg]; exact Nat.ne_of_gt (blk_lt (g := gb963) (o := .cells #[.int .i64 a0_0, .int .i64 a0_1, .int .i64 a0_2, .int .i64 a0_3] 60 (0, 0)) (by (with_reducible repeat (first | refine blk_drewN ?_ _ | refine blk_drew ?_ | refine blk_alloc ?_ _)); exact BK963.out)) : gb991 ≠ gb963)); have n8_ := Aside0.mk ((by rw [hg]; exact Nat.ne_of_lt (blk_lt (g := gb984) (o := .cells #[.int .i64 t978, .int .i64 t979, .int .i64 t980, .int .i64 t981] 60 (0, 0)) (by (with_reducible repeat (first | refine blk_drewN ?_ _ | refine blk_drew ?_ | refine blk_alloc ?_ _)); exact BK984.out)) : gb984 ≠ gb991)); have n9_ := Aside0.mk ((by rw [hg]; exact Nat.ne_of_gt (blk_lt (g := gb984) (o := .cells #[.int .i64 t978, .int .i64 t979, .int .i64 t980, .int .i64 t981] 60 (0, 0)) (by (with_reducible repeat (first | refine blk_drewN ?_ _ | refine blk_drew ?_ | refine blk_alloc ?_ _)); exact BK984.out)) : gb991 ≠ gb984)); clear BK963; clear BK984; clear HB; have BK963 := n0_; have BK984 := n1_; have HB := n2_; have BK991 := n3_; have GW991 := n4_; have GE991 := n5_; have NB963_991 := n6_; have NB991_963 := n7_; have NB984_991 := n8_; have NB991_984 := n9_; clear n0_ n1_ n2_ n3_ n4_ n5_ n6_ n7_ n8_ n9_; clear hb hbox hg; have hnb44 := NB991_963.out; have hnc44 := NB963_991.out; have hnb45 := NB991_984.out; have hnc45 := NB984_991.out; have hcz46_0 : w43.cell? ⟨gb991, 0, none⟩ = some (.int .i64 0) := (blk_cell BK991.out 0).trans rfl; have hcz46_1 : w43.cell? ⟨gb991, 1, none⟩ = some (.int .i64 0) := (blk_cell BK991.out 1).trans rfl; have hcz46_2 : w43.cell? ⟨gb991, 2, none⟩ = some (.int .i64 0) := (blk_cell BK991.out 2).trans rfl; have hcz46_3 : w43.cell? ⟨gb991, 3, none⟩ = some (.int .i64 0) := (blk_cell BK991.out 3).trans rfl; have hfz46_0 := blk_frozen BK991.out 0; have hfz46_1 := blk_frozen BK991.out 1; have hfz46_2 := blk_frozen BK991.out 2; have hfz46_3 := blk_frozen BK991.out 3) | ((with_reducible refine gate_callee (f := 60) rfl ?_); refine goesL_ (some 82) rfl rfl Try.func60 (by kernel_rfl) rfl #[.agg #[.int .i64 t985, .int .i64 t986, .int .i64 t987, .int .i64 t988]] rfl (by (try simp only [List.map_toArray, List.map_cons, List.map_nil]); first | done | rfl | (simp only [List.length_drop, List.length_take]; rfl)) ?_; (with_reducible refine (chain_Bytes.calls kj16 t985 t986 t987 t988 t992 t995 _ A35.out).mono ?_); rintro e w47 ⟨v993, rfl, ho0, hb⟩; refine ⟨_, rfl, ?_⟩; have n0_ := Aside0.mk (Kd.R_lower ho0 (below_size (by repeat (first | (with_reducible first | exact HB.out | apply below_alloc | apply pw_below_drewN | apply below_drew1 | refine below_set ?_ GE963.out | refine below_set ?_ GE984.out | refine below_set ?_ GE991.out) | exact HB.out)))); have n1_ := Aside0.mk (blk_below (g := gb963) (o := .cells #[.int .i64 a0_0, .int .i64 a0_1, .int .i64 a0_2, .int .i64 a0_3] 60 (0, 0)) (by (with_reducible repeat (first | refine blk_drewN ?_ _ | refine blk_drew ?_ | refine blk_alloc ?_ _)); refine blk_far ?_ NB963_991.out _; (with_reducible repeat (first | refine blk_drewN ?_ _ | refine blk_drew ?_ | refine blk_alloc ?_ _)); refine blk_far ?_ NB963_991.out _; (with_reducible repeat (first | refine blk_drewN ?_ _ | refine blk_drew ?_ | refine blk_alloc ?_ _)); refine blk_far ?_ NB963_991.out _; (with_reducible repeat (first | refine blk_drewN ?_ _ | refine blk_drew ?_ | refine blk_alloc ?_ _)); refine blk_far ?_ NB963_991.out _; (with_reducible repeat (first | refine blk_drewN ?_ _ | refine blk_drew ?_ | refine blk_alloc ?_ _)); exact BK963.out) hb); have n2_ := Aside0.mk (blk_below (g := gb984) (o := .cells #[.int .i64 t978, .int .i64 t979, .int .i64 t980, .int .i64 t981] 60 (0, 0)) (by (with_reducible repeat (first | refine blk_drewN ?_ _ | refine blk_drew ?_ | refine blk_alloc ?_ _)); refine blk_far ?_ NB984_991.out _; (with_reducible repeat (first | refine blk_drewN ?_ _ | refine blk_drew ?_ | refine blk_alloc ?_ _)); refine blk_far ?_ NB984_991.out _; (with_reducible repeat (first | refine blk_drewN ?_ _ | refine blk_drew ?_ | refine blk_alloc ?_ _)); refine blk_far ?_ NB984_991.out _; (with_reducible repeat (first | refine blk_drewN ?_ _ | refine blk_drew ?_ | refine blk_alloc ?_ _)); refine blk_far ?_ NB984_991.out _; (with_reducible repeat (first | refine blk_drewN ?_ _ | refine blk_drew ?_ | refine blk_alloc ?_ _)); exact BK984.out) hb); have n3_ := Aside0.mk (blk_below (g := gb991) (o := .cells #[.int .i64 t985, .int .i64 t986, .int .i64 t987, .int .i64 t988] 60 (0, 0)) (by (with_reducible repeat (first | refine blk_drewN ?_ _ | refine blk_drew ?_ | refine blk_alloc ?_ _)); refine blk_put (cs := #[.int .i64 t985, .int .i64 t986, .int .i64 t987, .int .i64 0]) ?_ 3 _ rfl; (with_reducible repeat (first | refine blk_drewN ?_ _ | refine blk_drew ?_ | refine blk_alloc ?_ _)); refine blk_put (cs := #[.int .i64 t985, .int .i64 t986, .int .i64 0, .int .i64 0]) ?_ 2 _ rfl; (with_reducible repeat (first | refine blk_drewN ?_ _ | refine blk_drew ?_ | refine blk_alloc ?_ _)); refine blk_put (cs := #[.int .i64 t985, .int .i64 0, .int .i64 0, .int .i64 0]) ?_ 1 _ rfl; (with_reducible repeat (first | refine blk_drewN ?_ _ | refine blk_drew ?_ | refine blk_alloc ?_ _)); refine blk_put (cs := #[.int .i64 0, .int .i64 0, .int .i64 0, .int .i64 0]) ?_ 0 _ rfl; (with_reducible repeat (first | refine blk_drewN ?_ _ | refine blk_drew ?_ | refine blk_alloc ?_ _)); exact BK991.out) hb); have n4_ := Aside0.mk (below_step (by repeat (first | (with_reducible first | exact HB.out | apply below_alloc | apply pw_below_drewN | apply below_drew1 | refine below_set ?_ GE963.out | refine below_set ?_ GE984.out | refine below_set ?_ GE991.out) | exact HB.out)) hb); clear BK963; clear BK984; clear BK991; clear HB; have HO994 := n0_; have BK963 := n1_; have BK984 := n2_; have BK991 := n3_; have HB := n4_; clear n0_ n1_ n2_ n3_ n4_; (try clear hb); (try clear hb2); (try clear hk); (try clear hi); (try clear ho0); obtain ⟨i048, hi048, _, hsz48, _⟩ := info_parts info5; obtain ⟨hcut48, hA48, hC48⟩ := print_take_of (P := Try.prog) (Value.int .u8) 0 24 5 .i64 Try.underlying24 hi048 hsz48 A2 c2 l2 t989 (of_decide_eq_true (by first | (with_reducible assumption) | assumption)) (of_decide_eq_true (by first | (with_reducible assumption) | assumption)) HC2.out; have HR996 := Aside0.mk (Kd.C_of_reads (h1 := fun _ => rfl) (hA48 _ (Kd.reads_of_C HR2.out))); have HC996 := Aside0.mk hC48; clear hA48 hC48 hi048 hsz48; obtain ⟨Ao49, co49, eo49⟩ := Kd.R_slice HO994.out; subst eo49) | ((with_reducible refine gate_callee (f := 38) rfl ?_); refine goesL_ (some 101) rfl rfl Try.func38 (by kernel_rfl) rfl #[.slice Ao49 t992.length co49, .slice A2 (l2.take (t989 : Int).toNat).length c2] rfl (by (try simp only [List.map_toArray, List.map_cons, List.map_nil]); first | done | (rw [show (l2.take (t989 : Int).toNat).length = t989.toNat from (by rw [List.length_take]; have h_ : (t989 : Int) ≤ (l2.length : Int) := of_decide_eq_true (by first | (with_reducible assumption) | assumption); omega)] <;> rfl) | rfl | (simp only [List.length_drop, List.length_take]; rfl)) ?_; (with_reducible refine (reevelaw02_Same.calls kj16 _ _ t992 _ _ (l2.take (t989 : Int).toNat) t997 _ ?side1 ?side2 ?side3 ?side4 A41.out).mono ?_); (case side1 => repeat (first | exact (Kd.R_reads' HO994.out).2.2 | (with_reducible refine Kd.C_alloc ?_ _) | (with_reducible refine Kd.C_drewN ?_ _) | (with_reducible refine Kd.C_drew ?_))); (case side2 => exact (Kd.R_reads' HO994.out).2.1); (case side3 => repeat (first | exact (Kd.C_below HR996.out HB.out) | (with_reducible refine Kd.C_alloc ?_ _) | (with_reducible refine Kd.C_drewN ?_ _) | (with_reducible refine Kd.C_drew ?_))); (case side4 => exact HC996.out); rintro e w' ⟨rfl, ⟨nd, rfl⟩⟩; refine ⟨_, rfl, ?_⟩))
                                go_ret
                                exact ⟨by first | rfl | (simp [errW_none, errW_some] <;> rfl) | (simp [*, errW_none, errW_some] <;> rfl), by repeat (first | (with_reducible first | exact HB.out | apply below_alloc | apply pw_below_drewN | apply below_drew1 | refine below_set ?_ GE963.out | refine below_set ?_ GE984.out | refine below_set ?_ GE991.out) | exact HB.out)⟩
                              · rw [if_neg c40] at H
                                exact absurd H (by simp)
                            · rw [if_neg c39] at H
                              exact absurd H (by simp)
                      · rw [if_neg c36] at H
                        exact absurd H (by simp)
                    · rw [if_neg c34] at H
                      have c34b0 : (t990 == 0) = false := beq_eq_false_iff_ne.mpr c34
                      have c34b1 : (t990 != 0) = true := bne_iff_ne.mpr c34
                      by_cases c50 : (t985 == 0 && (t986 == 0 && ((t987 == 0 && (t988 == 0))))) = true
                      · rw [if_pos c50] at H
                        have c50b0 : (t985 == 0 && (t986 == 0 && ((t987 == 0 && (t988 == 0))))) = true := c50
                        (try (have c50b1 : decide (t985 = 0 && (t986 == 0 && ((t987 == 0 && (t988 == 0))))) = true := by simpa using c50))
                        (try (have c50b2 : (t985 == 0 && (t986 == 0 && ((t987 == 0 && (t988 == 0))))) = true := by simpa using c50))
                        clear c50
                        obtain rfl := Option.some.inj H
                        go_wp2_with (first | ((with_reducible refine gate_callee (f := 62) rfl ?_); refine goesL_ (some 67) rfl rfl Try.func62 (by kernel_rfl) rfl #[.slice A2 l2.length c2, .int .i64 0] rfl (by (try simp only [List.map_toArray, List.map_cons, List.map_nil]); first | done | rfl | (simp only [List.length_drop, List.length_take]; rfl)) ?_; (with_reducible refine (chain_Read.calls kj16 _ _ l2 0 t985 t986 t987 t988 t989 t990 _ ?side1 ?side2 A33.out).mono ?_); (case side1 => repeat (first | exact (Kd.C_below HR2.out HB.out) | (with_reducible refine Kd.C_alloc ?_ _) | (with_reducible refine Kd.C_drewN ?_ _) | (with_reducible refine Kd.C_drew ?_))); (case side2 => exact HC2.out); rintro e w51 ⟨rfl, hb⟩; refine ⟨_, rfl, ?_⟩; have n0_ := Aside0.mk (blk_below (g := gb963) (o := .cells #[.int .i64 a0_0, .int .i64 a0_1, .int .i64 a0_2, .int .i64 a0_3] 60 (0, 0)) (by (with_reducible repeat (first | refine blk_drewN ?_ _ | refine blk_drew ?_ | refine blk_alloc ?_ _)); exact BK963.out) hb); have n1_ := Aside0.mk (blk_below (g := gb984) (o := .cells #[.int .i64 t978, .int .i64 t979, .int .i64 t980, .int .i64 t981] 60 (0, 0)) (by (with_reducible repeat (first | refine blk_drewN ?_ _ | refine blk_drew ?_ | refine blk_alloc ?_ _)); exact BK984.out) hb); have n2_ := Aside0.mk (below_step (by repeat (first | (with_reducible first | exact HB.out | apply below_alloc | apply pw_below_drewN | apply below_drew1 | refine below_set ?_ GE963.out | refine below_set ?_ GE984.out) | exact HB.out)) hb); clear BK963; clear BK984; clear HB; have BK963 := n0_; have BK984 := n1_; have HB := n2_; clear n0_ n1_ n2_; (try clear hb); (try clear hb2); (try clear hk); (try clear hi)) | ((with_reducible refine gate_dst (N := 14) rfl ?_); (try (refine gate_guard (by rfl) ?_; dsimp only)); refine box_event ?hg (N := 14) ?hd (cs := #[.int .i64 0, .int .i64 0, .int .i64 0, .int .i64 0]) (t := 60) ?hr ?_; (case hd => rfl); (case hg => rfl); (case hr => first | (go_simp; done) | (go_simp; rfl)); intro gb991 hg w52 hbox hb; have n0_ := Aside0.mk (blk_below (g := gb963) (o := .cells #[.int .i64 a0_0, .int .i64 a0_1, .int .i64 a0_2, .int .i64 a0_3] 60 (0, 0)) (by (with_reducible repeat (first | refine blk_drewN ?_ _ | refine blk_drew ?_ | refine blk_alloc ?_ _)); exact BK963.out) hb); have n1_ := Aside0.mk (blk_below (g := gb984) (o := .cells #[.int .i64 t978, .int .i64 t979, .int .i64 t980, .int .i64 t981] 60 (0, 0)) (by (with_reducible repeat (first | refine blk_drewN ?_ _ | refine blk_drew ?_ | refine blk_alloc ?_ _)); exact BK984.out) hb); have n2_ := Aside0.mk (below_step (by repeat (first | (with_reducible first | exact HB.out | apply below_alloc | apply pw_below_drewN | apply below_drew1 | refine below_set ?_ GE963.out | refine below_set ?_ GE984.out) | exact HB.out)) hb); have n3_ := Aside0.mk (hbox); have n4_ := Aside0.mk ((by rw [hg]; exact (below_size (by repeat (first | (with_reducible first | exact HB.out | apply below_alloc | apply pw_below_drewN | apply below_drew1 | refine below_set ?_ GE963.out | refine below_set ?_ GE984.out) | exact HB.out))) : w.heap.size ≤ gb991)); have n5_ := Aside0.mk ((by rw [hg]; exact (below_size (by repeat (first | (with_reducible first | exact HB.out | apply below_alloc | apply pw_below_drewN | apply below_drew1 | refine below_set ?_ GE963.out | refine below_set ?_ GE984.out) | exact HB.out))) : w.heap.size ≤ gb991)); have n6_ := Aside0.mk ((by rw [hg]; exact Nat.ne_of_lt (blk_lt (g := gb963) (o := .cells #[.int .i64 a0_0, .int .i64 a0_1, .int .i64 a0_2, .int .i64 a0_3] 60 (0, 0)) (by (with_reducible repeat (first | refine blk_drewN ?_ _ | refine blk_drew ?_ | refine blk_alloc ?_ _)); exact BK963.out)) : gb963 ≠ gb991)); have n7_ := Aside0.mk ((by rw [hg]; exact Nat.ne_of_gt (blk_lt (g := gb963) (o := .cells #[.int .i64 a0_0, .int .i64 a0_1, .int .i64 a0_2, .int .i64 a0_3] 60 (0, 0)) (by (with_reducible repeat (first | refine blk_drewN ?_ _ | refine blk_drew ?_ | refine blk_alloc ?_ _)); exact BK963.out)) : gb991 ≠ gb963)); have n8_ := Aside0.mk ((by rw [hg]; exact Nat.ne_of_lt (blk_lt (g := gb984) (o := .cells #[.int .i64 t978, .int .i64 t979, .int .i64 t980, .int .i64 t981] 60 (0, 0)) (by (with_reducible repeat (first | refine blk_drewN ?_ _ | refine blk_drew ?_ | refine blk_alloc ?_ _)); exact BK984.out)) : gb984 ≠ gb991)); have n9_ := Aside0.mk ((by rw [hg]; exact Nat.ne_of_gt (blk_lt (g := gb984) (o := .cells #[.int .i64 t978, .int .i64 t979, .int .i64 t980, .int .i64 t981] 60 (0, 0)) (by (with_reducible repeat (first | refine blk_drewN ?_ _ | refine blk_drew ?_ | refine blk_alloc ?_ _)); exact BK984.out)) : gb991 ≠ gb984)); clear BK963; clear BK984; clear HB; have BK963 := n0_; have BK984 := n1_; have HB := n2_; have BK991 := n3_; have GW991 := n4_; have GE991 := n5_; have NB963_991 := n6_; have NB991_963 := n7_; have NB984_991 := n8_; have NB991_984 := n9_; clear n0_ n1_ n2_ n3_ n4_ n5_ n6_ n7_ n8_ n9_; clear hb hbox hg; have hnb53 := NB991_963.out; have hnc53 := NB963_991.out; have hnb54 := NB991_984.out; have hnc54 := NB984_991.out; have hcz55_0 : w52.cell? ⟨gb991, 0, none⟩ = some (.int .i64 0) := (blk_cell BK991.out 0).trans rfl; have hcz55_1 : w52.cell? ⟨gb991, 1, none⟩ = some (.int .i64 0) := (blk_cell BK991.out 1).trans rfl; have hcz55_2 : w52.cell? ⟨gb991, 2, none⟩ = some (.int .i64 0) := (blk_cell BK991.out 2).trans rfl; have hcz55_3 : w52.cell? ⟨gb991, 3, none⟩ = some (.int .i64 0) := (blk_cell BK991.out 3).trans rfl; have hfz55_0 := blk_frozen BK991.out 0; have hfz55_1 := blk_frozen BK991.out 1; have hfz55_2 := blk_frozen BK991.out 2; have hfz55_3 := blk_frozen BK991.out 3))
                        go_ret
                        exact ⟨by first | rfl | (simp [errW_none, errW_some] <;> rfl) | (simp [*, errW_none, errW_some] <;> rfl), by repeat (first | (with_reducible first | exact HB.out | apply below_alloc | apply pw_below_drewN | apply below_drew1 | refine below_set ?_ GE963.out | refine below_set ?_ GE984.out | refine below_set ?_ GE991.out) | exact HB.out)⟩
                      · rw [if_neg c50] at H
                        exact absurd H (by simp)
            · rw [if_neg c15] at H
              exact absurd H (by simp)
          · rw [if_neg c14] at H
            exact absurd H (by simp)
        · rw [if_neg c13] at H
          exact absurd H (by simp)
end Go.Proofs.Ytbiijcehgiibeaa.Q

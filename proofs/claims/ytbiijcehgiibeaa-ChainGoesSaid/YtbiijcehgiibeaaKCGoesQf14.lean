/- A text that a program of this session wrote (wip/qprint.py, over the kit's printer): Lean functions with the same answers as Go functions of the program, and proofs that the calls come to these answers; where a function is named in wip/ext, its definition and proof were written by hand. -/
import Derived.Test.YtbiijcehgiibeaaKCGoesQ0
import Derived.Test.YtbiijcehgiibeaaKCGoesQe60
import Derived.Test.YtbiijcehgiibeaaKCGoesQg5
import Derived.Test.YtbiijcehgiibeaaKCGoesQg7
import Derived.Test.YtbiijcehgiibeaaKCGoesQg9
import Derived.Test.YtbiijcehgiibeaaKCGoesQg8
namespace Go.Proofs.Ytbiijcehgiibeaa.Q
open Go.RowKit Go.Proofs.YtbiijcehgiibeaaW.PrintWords Go.Proofs.YtbiijcehgiibeaaW.PrintLast Go.Proofs.YtbiijcehgiibeaaW.PrintMore
attribute [local go_sem] max2_int min2_int max_two min_two max_three min_three max_four min_four   -- for this text's walks alone
set_option linter.unusedVariables false
set_option linter.unusedSimpArgs false
attribute [local go_sem high] eqA60
def reevelaw03_ChainGoes.f (k : Nat) (a0_0 : Int) (a0_1 : Int) (a0_2 : Int) (a0_3 : Int) (l1 : List Int) : Option (Bool) := (reevelaw03_awake.f k).bind fun t649 => ((reeveref03_Next.f k a0_0 a0_1 a0_2 a0_3 l1).bind fun bt650 => ((reevelaw02_Lent.f l1).bind fun t656 => ((chain_Next.f a0_0 a0_1 a0_2 a0_3 t656).bind fun bt659 => ((reevelaw02_Kept.f k t656 l1).bind fun t665 => ((chain_First.f).bind fun bt666 => (if t649 = true then (if t665 = true then (if (bt659.1 == bt650.1 && (bt659.2.1 == bt650.2.1 && ((bt659.2.2.1 == bt650.2.2.1 && (bt659.2.2.2.1 == bt650.2.2.2.1))))) = true then (if bt650.2.2.2.2 = bt659.2.2.2.2 then ((reeveref03_First.f).bind fun bt671 => (some (bt666.1 == bt671.1 && (bt666.2.1 == bt671.2.1 && ((bt666.2.2.1 == bt671.2.2.1 && (bt666.2.2.2 == bt671.2.2.2))))))) else (none)) else (none)) else (none)) else (none)))))))
def reevelaw03_ChainGoes.T7 : Bool × List (List Nat × List Nat) := (true, [([], []), ([0], [0]), ([1], [1]), ([1, 2], [1, 2]), ([3, 1], [3]), ([4], [4]), ([4], [4]), ([5, 6, 4], [4, 5, 6]), ([4, 7], [4, 7]), ([8, 4], [8]), ([9], [9]), ([9], [9]), ([10, 11, 9], [9, 10, 11]), ([9, 12], [9, 12]), ([13, 9], [13]), ([14], [14]), ([14, 14], [14]), ([15, 16, 14], [14, 15, 16]), ([14, 17], [14, 17]), ([18, 16, 0, 1, 2, 3, 4, 5, 6, 7, 8, 9, 10, 11, 12, 13, 14, 15, 16, 17, 18], [18])])
def reevelaw03_ChainGoes.B7 : List Nat := [0, 1, 3, 7, 15, 31, 31, 127, 255, 511, 1023, 1023, 4095, 8191, 16383, 32767, 32767, 131071, 262143, 524287]
theorem reevelaw03_ChainGoes.tab7 : rtab .any (opsOf Try.f14 7) = reevelaw03_ChainGoes.T7 := by kernel_rfl
theorem reevelaw03_ChainGoes.bits7 : waitsOk reevelaw03_ChainGoes.T7.2 reevelaw03_ChainGoes.B7 = true := by kernel_rfl
set_option maxHeartbeats 8000000 in
set_option maxRecDepth 100000 in
theorem reevelaw03_ChainGoes.calls (k : Nat) (a0_0 : Int) (a0_1 : Int) (a0_2 : Int) (a0_3 : Int) (A1 : Option Addr) (c1 : Nat) (l1 : List Int) (r : Bool) (w : World) (hr1 : Kd.C (Kd.int .u8) w A1 l1.length l1) (hc1 : l1.length ≤ c1) (h : reevelaw03_ChainGoes.f k a0_0 a0_1 a0_2 a0_3 l1 = some r) :
    Calls Try.prog 14 #[.agg #[.int .i64 a0_0, .int .i64 a0_1, .int .i64 a0_2, .int .i64 a0_3], .slice A1 l1.length c1] w fun e w' => e = .returned (.bool r) ∧ Below w.heap.size w w' := by
  have hu60 := Try.underlying60
  have HR1 := Aside0.mk hr1
  have HC1 := Aside0.mk hc1
  clear hr1 hc1
  have HB := Aside0.mk (Below.refl w.heap.size w)
  have H : ((reevelaw03_awake.f k).bind fun t649 => ((reeveref03_Next.f k a0_0 a0_1 a0_2 a0_3 l1).bind fun bt650 => ((reevelaw02_Lent.f l1).bind fun t656 => ((chain_Next.f a0_0 a0_1 a0_2 a0_3 t656).bind fun bt659 => ((reevelaw02_Kept.f k t656 l1).bind fun t665 => ((chain_First.f).bind fun bt666 => (if t649 = true then (if t665 = true then (if (bt659.1 == bt650.1 && (bt659.2.1 == bt650.2.1 && ((bt659.2.2.1 == bt650.2.2.1 && (bt659.2.2.2.1 == bt650.2.2.2.1))))) = true then (if bt650.2.2.2.2 = bt659.2.2.2.2 then ((reeveref03_First.f).bind fun bt671 => (some (bt666.1 == bt671.1 && (bt666.2.1 == bt671.2.1 && ((bt666.2.2.1 == bt671.2.2.1 && (bt666.2.2.2 == bt671.2.2.2))))))) else (none)) else (none)) else (none)) else (none)))))))) = some r := h
  clear h
  replace H := Option.bind_eq_some_iff.mp H
  obtain ⟨t649, A30, H⟩ := H
  replace H : ((reeveref03_Next.f k a0_0 a0_1 a0_2 a0_3 l1).bind fun bt650 => ((reevelaw02_Lent.f l1).bind fun t656 => ((chain_Next.f a0_0 a0_1 a0_2 a0_3 t656).bind fun bt659 => ((reevelaw02_Kept.f k t656 l1).bind fun t665 => ((chain_First.f).bind fun bt666 => (if t649 = true then (if t665 = true then (if (bt659.1 == bt650.1 && (bt659.2.1 == bt650.2.1 && ((bt659.2.2.1 == bt650.2.2.1 && (bt659.2.2.2.1 == bt650.2.2.2.1))))) = true then (if bt650.2.2.2.2 = bt659.2.2.2.2 then ((reeveref03_First.f).bind fun bt671 => (some (bt666.1 == bt671.1 && (bt666.2.1 == bt671.2.1 && ((bt666.2.2.1 == bt671.2.2.1 && (bt666.2.2.2 == bt671.2.2.2))))))) else (none)) else (none)) else (none)) else (none))))))) = some r := H
  have A3 := Aside0.mk A30
  clear A30
  replace H := Option.bind_eq_some_iff.mp H
  obtain ⟨⟨t650, t651, t652, t653, t654⟩, A40, H⟩ := H
  replace H : ((reevelaw02_Lent.f l1).bind fun t656 => ((chain_Next.f a0_0 a0_1 a0_2 a0_3 t656).bind fun bt659 => ((reevelaw02_Kept.f k t656 l1).bind fun t665 => ((chain_First.f).bind fun bt666 => (if t649 = true then (if t665 = true then (if (bt659.1 == t650 && (bt659.2.1 == t651 && ((bt659.2.2.1 == t652 && (bt659.2.2.2.1 == t653))))) = true then (if t654 = bt659.2.2.2.2 then ((reeveref03_First.f).bind fun bt671 => (some (bt666.1 == bt671.1 && (bt666.2.1 == bt671.2.1 && ((bt666.2.2.1 == bt671.2.2.1 && (bt666.2.2.2 == bt671.2.2.2))))))) else (none)) else (none)) else (none)) else (none)))))) = some r := H
  have A4 := Aside0.mk A40
  clear A40
  replace H := Option.bind_eq_some_iff.mp H
  obtain ⟨t656, A50, H⟩ := H
  replace H : ((chain_Next.f a0_0 a0_1 a0_2 a0_3 t656).bind fun bt659 => ((reevelaw02_Kept.f k t656 l1).bind fun t665 => ((chain_First.f).bind fun bt666 => (if t649 = true then (if t665 = true then (if (bt659.1 == t650 && (bt659.2.1 == t651 && ((bt659.2.2.1 == t652 && (bt659.2.2.2.1 == t653))))) = true then (if t654 = bt659.2.2.2.2 then ((reeveref03_First.f).bind fun bt671 => (some (bt666.1 == bt671.1 && (bt666.2.1 == bt671.2.1 && ((bt666.2.2.1 == bt671.2.2.1 && (bt666.2.2.2 == bt671.2.2.2))))))) else (none)) else (none)) else (none)) else (none))))) = some r := H
  have A5 := Aside0.mk A50
  clear A50
  replace H := Option.bind_eq_some_iff.mp H
  obtain ⟨⟨t659, t660, t661, t662, t663⟩, A60, H⟩ := H
  replace H : ((reevelaw02_Kept.f k t656 l1).bind fun t665 => ((chain_First.f).bind fun bt666 => (if t649 = true then (if t665 = true then (if (t659 == t650 && (t660 == t651 && ((t661 == t652 && (t662 == t653))))) = true then (if t654 = t663 then ((reeveref03_First.f).bind fun bt671 => (some (bt666.1 == bt671.1 && (bt666.2.1 == bt671.2.1 && ((bt666.2.2.1 == bt671.2.2.1 && (bt666.2.2.2 == bt671.2.2.2))))))) else (none)) else (none)) else (none)) else (none)))) = some r := H
  have A6 := Aside0.mk A60
  clear A60
  replace H := Option.bind_eq_some_iff.mp H
  obtain ⟨t665, A70, H⟩ := H
  replace H : ((chain_First.f).bind fun bt666 => (if t649 = true then (if t665 = true then (if (t659 == t650 && (t660 == t651 && ((t661 == t652 && (t662 == t653))))) = true then (if t654 = t663 then ((reeveref03_First.f).bind fun bt671 => (some (bt666.1 == bt671.1 && (bt666.2.1 == bt671.2.1 && ((bt666.2.2.1 == bt671.2.2.1 && (bt666.2.2.2 == bt671.2.2.2))))))) else (none)) else (none)) else (none)) else (none))) = some r := H
  have A7 := Aside0.mk A70
  clear A70
  replace H := Option.bind_eq_some_iff.mp H
  obtain ⟨⟨t666, t667, t668, t669⟩, A80, H⟩ := H
  replace H : (if t649 = true then (if t665 = true then (if (t659 == t650 && (t660 == t651 && ((t661 == t652 && (t662 == t653))))) = true then (if t654 = t663 then ((reeveref03_First.f).bind fun bt671 => (some (t666 == bt671.1 && (t667 == bt671.2.1 && ((t668 == bt671.2.2.1 && (t669 == bt671.2.2.2))))))) else (none)) else (none)) else (none)) else (none)) = some r := H
  have A8 := Aside0.mk A80
  clear A80
  by_cases c9 : t649 = true
  · subst c9
    have H1 : (if t665 = true then (if (t659 == t650 && (t660 == t651 && ((t661 == t652 && (t662 == t653))))) = true then (if t654 = t663 then ((reeveref03_First.f).bind fun bt671 => (some (t666 == bt671.1 && (t667 == bt671.2.1 && ((t668 == bt671.2.2.1 && (t669 == bt671.2.2.2))))))) else (none)) else (none)) else (none)) = some r := by rw [if_pos rfl] at H; exact H
    clear H
    have H := H1
    clear H1
    by_cases c10 : t665 = true
    · subst c10
      have H1 : (if (t659 == t650 && (t660 == t651 && ((t661 == t652 && (t662 == t653))))) = true then (if t654 = t663 then ((reeveref03_First.f).bind fun bt671 => (some (t666 == bt671.1 && (t667 == bt671.2.1 && ((t668 == bt671.2.2.1 && (t669 == bt671.2.2.2))))))) else (none)) else (none)) = some r := by rw [if_pos rfl] at H; exact H
      clear H
      have H := H1
      clear H1
      by_cases c11 : (t659 == t650 && (t660 == t651 && ((t661 == t652 && (t662 == t653))))) = true
      · rw [if_pos c11] at H
        have c11b0 : (t659 == t650 && (t660 == t651 && ((t661 == t652 && (t662 == t653))))) = true := c11
        (try (have c11b1 : decide (t659 = t650 && (t660 == t651 && ((t661 == t652 && (t662 == t653))))) = true := by simpa using c11))
        (try (have c11b2 : (t659 == t650 && (t660 == t651 && ((t661 == t652 && (t662 == t653))))) = true := by simpa using c11))
        clear c11
        by_cases c12 : t654 = t663
        · rw [if_pos c12] at H
          have c12b0 : (t654 == t663) = true := beq_iff_eq.mpr c12
          have c12b1 : (t654 != t663) = false := bne_eq_false_iff_eq.mpr c12
          clear c12
          replace H := Option.bind_eq_some_iff.mp H
          obtain ⟨⟨t671, t672, t673, t674⟩, A130, H⟩ := H
          replace H : (some (t666 == t671 && (t667 == t672 && ((t668 == t673 && (t669 == t674)))))) = some r := H
          have A13 := Aside0.mk A130
          clear A130
          obtain rfl := Option.some.inj H
          go_enter Try.func14, Try.ntmps14
          try go_wp2_with (first | ((with_reducible refine gate_dst (N := 2) rfl ?_); refine box_event ?hg (N := 2) ?hd (cs := #[.int .i64 a0_0, .int .i64 a0_1, .int .i64 a0_2, .int .i64 a0_3]) (t := 60) ?hr ?_; (case hd => rfl); (case hg => rfl); (case hr => first | (go_simp; done) | (go_simp; rfl)); intro gb648 hg w14 hbox hb; have n0_ := Aside0.mk (below_step (by repeat (first | (with_reducible first | exact HB.out | apply below_alloc | apply pw_below_drewN | apply below_drew1) | exact HB.out)) hb); have n1_ := Aside0.mk (hbox); have n2_ := Aside0.mk ((by rw [hg]; exact (below_size (by repeat (first | (with_reducible first | exact HB.out | apply below_alloc | apply pw_below_drewN | apply below_drew1) | exact HB.out))) : w.heap.size ≤ gb648)); have n3_ := Aside0.mk ((by rw [hg]; exact (below_size (by repeat (first | (with_reducible first | exact HB.out | apply below_alloc | apply pw_below_drewN | apply below_drew1) | exact HB.out))) : w.heap.size ≤ gb648)); clear HB; have HB := n0_; have BK648 := n1_; have GW648 := n2_; have GE648 := n3_; clear n0_ n1_ n2_ n3_; clear hb hbox hg) | ((with_reducible refine gate_callee (f := 50) rfl ?_); refine goesL_ (some 13) rfl rfl Try.func50 (by kernel_rfl) rfl #[] rfl (by (try simp only [List.map_toArray, List.map_cons, List.map_nil]); first | done | rfl | (simp only [List.length_drop, List.length_take]; rfl)) ?_; (with_reducible refine (reevelaw03_awake.calls k  true _ A3.out).mono ?_); rintro e w15 ⟨rfl, hb⟩; refine ⟨_, rfl, ?_⟩; have n0_ := Aside0.mk (blk_below (g := gb648) (o := .cells #[.int .i64 a0_0, .int .i64 a0_1, .int .i64 a0_2, .int .i64 a0_3] 60 (0, 0)) (by (with_reducible repeat (first | refine blk_drewN ?_ _ | refine blk_drew ?_ | refine blk_alloc ?_ _)); exact BK648.out) hb); have n1_ := Aside0.mk (below_step (by repeat (first | (with_reducible first | exact HB.out | apply below_alloc | apply pw_below_drewN | apply below_drew1 | refine below_set ?_ GE648.out) | exact HB.out)) hb); clear BK648; clear HB; have BK648 := n0_; have HB := n1_; clear n0_ n1_; (try clear hb); (try clear hb2); (try clear hk); (try clear hi); have hcz16_0 : w15.cell? ⟨gb648, 0, none⟩ = some (.int .i64 a0_0) := (blk_cell BK648.out 0).trans rfl; have hcz16_1 : w15.cell? ⟨gb648, 1, none⟩ = some (.int .i64 a0_1) := (blk_cell BK648.out 1).trans rfl; have hcz16_2 : w15.cell? ⟨gb648, 2, none⟩ = some (.int .i64 a0_2) := (blk_cell BK648.out 2).trans rfl; have hcz16_3 : w15.cell? ⟨gb648, 3, none⟩ = some (.int .i64 a0_3) := (blk_cell BK648.out 3).trans rfl; have hfz16_0 := blk_frozen BK648.out 0; have hfz16_1 := blk_frozen BK648.out 1; have hfz16_2 := blk_frozen BK648.out 2; have hfz16_3 := blk_frozen BK648.out 3) | ((with_reducible refine gate_callee (f := 51) rfl ?_); refine goesL_ (some 17) rfl rfl Try.func51 (by kernel_rfl) rfl #[.agg #[.int .i64 a0_0, .int .i64 a0_1, .int .i64 a0_2, .int .i64 a0_3], .slice A1 l1.length c1] rfl (by (try simp only [List.map_toArray, List.map_cons, List.map_nil]); first | done | rfl | (simp only [List.length_drop, List.length_take]; rfl)) ?_; (with_reducible refine (reeveref03_Next.calls k a0_0 a0_1 a0_2 a0_3 _ _ l1 t650 t651 t652 t653 t654 _ ?side1 ?side2 A4.out).mono ?_); (case side1 => repeat (first | exact (Kd.C_below HR1.out HB.out) | (with_reducible refine Kd.C_alloc ?_ _) | (with_reducible refine Kd.C_drewN ?_ _) | (with_reducible refine Kd.C_drew ?_))); (case side2 => exact HC1.out); rintro e w17 ⟨rfl, hb⟩; refine ⟨_, rfl, ?_⟩; have n0_ := Aside0.mk (blk_below (g := gb648) (o := .cells #[.int .i64 a0_0, .int .i64 a0_1, .int .i64 a0_2, .int .i64 a0_3] 60 (0, 0)) (by (with_reducible repeat (first | refine blk_drewN ?_ _ | refine blk_drew ?_ | refine blk_alloc ?_ _)); exact BK648.out) hb); have n1_ := Aside0.mk (below_step (by repeat (first | (with_reducible first | exact HB.out | apply below_alloc | apply pw_below_drewN | apply below_drew1 | refine below_set ?_ GE648.out) | exact HB.out)) hb); clear BK648; clear HB; have BK648 := n0_; have HB := n1_; clear n0_ n1_; (try clear hb); (try clear hb2); (try clear hk); (try clear hi)) | ((with_reducible refine gate_dst (N := 6) rfl ?_); refine box_event ?hg (N := 6) ?hd (cs := #[.int .i64 0, .int .i64 0, .int .i64 0, .int .i64 0]) (t := 60) ?hr ?_; (case hd => rfl); (case hg => rfl); (case hr => first | (go_simp; done) | (go_simp; rfl)); intro gb655 hg w18 hbox hb; have n0_ := Aside0.mk (blk_below (g := gb648) (o := .cells #[.int .i64 a0_0, .int .i64 a0_1, .int .i64 a0_2, .int .i64 a0_3] 60 (0, 0)) (by (with_reducible repeat (first | refine blk_drewN ?_ _ | refine blk_drew ?_ | refine blk_alloc ?_ _)); exact BK648.out) hb); have n1_ := Aside0.mk (below_step (by repeat (first | (with_reducible first | exact HB.out | apply below_alloc | apply pw_below_drewN | apply below_drew1 | refine below_set ?_ GE648.out) | exact HB.out)) hb); have n2_ := Aside0.mk (hbox); have n3_ := Aside0.mk ((by rw [hg]; exact (below_size (by repeat (first | (with_reducible first | exact HB.out | apply below_alloc | apply pw_below_drewN | apply below_drew1 | refine below_set ?_ GE648.out) | exact HB.out))) : w.heap.size ≤ gb655)); have n4_ := Aside0.mk ((by rw [hg]; exact (below_size (by repeat (first | (with_reducible first | exact HB.out | apply below_alloc | apply pw_below_drewN | apply below_drew1 | refine below_set ?_ GE648.out) | exact HB.out))) : w.heap.size ≤ gb655)); have n5_ := Aside0.mk ((by rw [hg]; exact Nat.ne_of_lt (blk_lt (g := gb648) (o := .cells #[.int .i64 a0_0, .int .i64 a0_1, .int .i64 a0_2, .int .i64 a0_3] 60 (0, 0)) (by (with_reducible repeat (first | refine blk_drewN ?_ _ | refine blk_drew ?_ | refine blk_alloc ?_ _)); exact BK648.out)) : gb648 ≠ gb655)); have n6_ := Aside0.mk ((by rw [hg]; exact Nat.ne_of_gt (blk_lt (g := gb648) (o := .cells #[.int .i64 a0_0, .int .i64 a0_1, .int .i64 a0_2, .int .i64 a0_3] 60 (0, 0)) (by (with_reducible repeat (first | refine blk_drewN ?_ _ | refine blk_drew ?_ | refine blk_alloc ?_ _)); exact BK648.out)) : gb655 ≠ gb648)); clear BK648; clear HB; have BK648 := n0_; have HB := n1_; have BK655 := n2_; have GW655 := n3_; have GE655 := n4_; have NB648_655 := n5_; have NB655_648 := n6_; clear n0_ n1_ n2_ n3_ n4_ n5_ n6_; clear hb hbox hg; have hnb19 := NB655_648.out; have hnc19 := NB648_655.out; have hcz20_0 : w18.cell? ⟨gb655, 0, none⟩ = some (.int .i64 0) := (blk_cell BK655.out 0).trans rfl; have hcz20_1 : w18.cell? ⟨gb655, 1, none⟩ = some (.int .i64 0) := (blk_cell BK655.out 1).trans rfl; have hcz20_2 : w18.cell? ⟨gb655, 2, none⟩ = some (.int .i64 0) := (blk_cell BK655.out 2).trans rfl; have hcz20_3 : w18.cell? ⟨gb655, 3, none⟩ = some (.int .i64 0) := (blk_cell BK655.out 3).trans rfl; have hfz20_0 := blk_frozen BK655.out 0; have hfz20_1 := blk_frozen BK655.out 1; have hfz20_2 := blk_frozen BK655.out 2; have hfz20_3 := blk_frozen BK655.out 3) | ((with_reducible refine gate_callee (f := 26) rfl ?_); refine goesL_ (some 21) rfl rfl Try.func26 (by kernel_rfl) rfl #[.slice A1 l1.length c1] rfl (by (try simp only [List.map_toArray, List.map_cons, List.map_nil]); first | done | rfl | (simp only [List.length_drop, List.length_take]; rfl)) ?_; (with_reducible refine (reevelaw02_Lent.calls _ _ l1 t656 _ ?side1 ?side2 A5.out).mono ?_); (case side1 => exact Kd.C_below HR1.out (by repeat (first | (with_reducible first | exact HB.out | apply below_alloc | apply pw_below_drewN | apply below_drew1 | refine below_set ?_ GE648.out | refine below_set ?_ GE655.out) | exact HB.out))); (case side2 => exact HC1.out); rintro e w21 ⟨v657, rfl, _, hb, Ao23, co23, rfl, ho0⟩; refine ⟨_, rfl, ?_⟩; have n0_ := Aside0.mk (Kd.R_lower ho0 (below_size (by repeat (first | (with_reducible first | exact HB.out | apply below_alloc | apply pw_below_drewN | apply below_drew1 | refine below_set ?_ GE648.out | refine below_set ?_ GE655.out) | exact HB.out)))); have n1_ := Aside0.mk (blk_below (g := gb648) (o := .cells #[.int .i64 a0_0, .int .i64 a0_1, .int .i64 a0_2, .int .i64 a0_3] 60 (0, 0)) (by (with_reducible repeat (first | refine blk_drewN ?_ _ | refine blk_drew ?_ | refine blk_alloc ?_ _)); refine blk_far ?_ NB648_655.out _; (with_reducible repeat (first | refine blk_drewN ?_ _ | refine blk_drew ?_ | refine blk_alloc ?_ _)); refine blk_far ?_ NB648_655.out _; (with_reducible repeat (first | refine blk_drewN ?_ _ | refine blk_drew ?_ | refine blk_alloc ?_ _)); refine blk_far ?_ NB648_655.out _; (with_reducible repeat (first | refine blk_drewN ?_ _ | refine blk_drew ?_ | refine blk_alloc ?_ _)); refine blk_far ?_ NB648_655.out _; (with_reducible repeat (first | refine blk_drewN ?_ _ | refine blk_drew ?_ | refine blk_alloc ?_ _)); exact BK648.out) hb); have n2_ := Aside0.mk (blk_below (g := gb655) (o := .cells #[.int .i64 t650, .int .i64 t651, .int .i64 t652, .int .i64 t653] 60 (0, 0)) (by (with_reducible repeat (first | refine blk_drewN ?_ _ | refine blk_drew ?_ | refine blk_alloc ?_ _)); refine blk_put (cs := #[.int .i64 t650, .int .i64 t651, .int .i64 t652, .int .i64 0]) ?_ 3 _ rfl; (with_reducible repeat (first | refine blk_drewN ?_ _ | refine blk_drew ?_ | refine blk_alloc ?_ _)); refine blk_put (cs := #[.int .i64 t650, .int .i64 t651, .int .i64 0, .int .i64 0]) ?_ 2 _ rfl; (with_reducible repeat (first | refine blk_drewN ?_ _ | refine blk_drew ?_ | refine blk_alloc ?_ _)); refine blk_put (cs := #[.int .i64 t650, .int .i64 0, .int .i64 0, .int .i64 0]) ?_ 1 _ rfl; (with_reducible repeat (first | refine blk_drewN ?_ _ | refine blk_drew ?_ | refine blk_alloc ?_ _)); refine blk_put (cs := #[.int .i64 0, .int .i64 0, .int .i64 0, .int .i64 0]) ?_ 0 _ rfl; (with_reducible repeat (first | refine blk_drewN ?_ _ | refine blk_drew ?_ | refine blk_alloc ?_ _)); exact BK655.out) hb); have n3_ := Aside0.mk (below_step (by repeat (first | (with_reducible first | exact HB.out | apply below_alloc | apply pw_below_drewN | apply below_drew1 | refine below_set ?_ GE648.out | refine below_set ?_ GE655.out) | exact HB.out)) hb); clear BK648; clear BK655; clear HB; have HO658 := n0_; have BK648 := n1_; have BK655 := n2_; have HB := n3_; clear n0_ n1_ n2_ n3_; (try clear hb); (try clear hb2); (try clear hk); (try clear hi); (try clear ho0); have hcz22_0 : w21.cell? ⟨gb648, 0, none⟩ = some (.int .i64 a0_0) := (blk_cell BK648.out 0).trans rfl; have hcz22_1 : w21.cell? ⟨gb648, 1, none⟩ = some (.int .i64 a0_1) := (blk_cell BK648.out 1).trans rfl; have hcz22_2 : w21.cell? ⟨gb648, 2, none⟩ = some (.int .i64 a0_2) := (blk_cell BK648.out 2).trans rfl; have hcz22_3 : w21.cell? ⟨gb648, 3, none⟩ = some (.int .i64 a0_3) := (blk_cell BK648.out 3).trans rfl; have hfz22_0 := blk_frozen BK648.out 0; have hfz22_1 := blk_frozen BK648.out 1; have hfz22_2 := blk_frozen BK648.out 2; have hfz22_3 := blk_frozen BK648.out 3) | ((with_reducible refine gate_callee (f := 52) rfl ?_); refine goesL_ (some 25) rfl rfl Try.func52 (by kernel_rfl) rfl #[.agg #[.int .i64 a0_0, .int .i64 a0_1, .int .i64 a0_2, .int .i64 a0_3], .slice Ao23 t656.length co23] rfl (by (try simp only [List.map_toArray, List.map_cons, List.map_nil]); first | done | rfl | (simp only [List.length_drop, List.length_take]; rfl)) ?_; (with_reducible refine (chain_Next.calls a0_0 a0_1 a0_2 a0_3 _ _ t656 t659 t660 t661 t662 t663 _ ?side1 ?side2 A6.out).mono ?_); (case side1 => repeat (first | exact (reevelaw02_Lent.reads (l := t656) HO658.out).1 | (with_reducible refine Kd.C_alloc ?_ _) | (with_reducible refine Kd.C_drewN ?_ _) | (with_reducible refine Kd.C_drew ?_))); (case side2 => exact (reevelaw02_Lent.reads (l := t656) HO658.out).2); rintro e w24 ⟨rfl, hb⟩; refine ⟨_, rfl, ?_⟩; have n0_ := Aside0.mk (Kd.R_below (by (with_reducible repeat (first | apply Kd.R_alloc | apply Kd.R_drewN | apply Kd.R_drew)); exact HO658.out) hb); have n1_ := Aside0.mk (blk_below (g := gb648) (o := .cells #[.int .i64 a0_0, .int .i64 a0_1, .int .i64 a0_2, .int .i64 a0_3] 60 (0, 0)) (by (with_reducible repeat (first | refine blk_drewN ?_ _ | refine blk_drew ?_ | refine blk_alloc ?_ _)); exact BK648.out) hb); have n2_ := Aside0.mk (blk_below (g := gb655) (o := .cells #[.int .i64 t650, .int .i64 t651, .int .i64 t652, .int .i64 t653] 60 (0, 0)) (by (with_reducible repeat (first | refine blk_drewN ?_ _ | refine blk_drew ?_ | refine blk_alloc ?_ _)); exact BK655.out) hb); have n3_ := Aside0.mk (below_step (by repeat (first | (with_reducible first | exact HB.out | apply below_alloc | apply pw_below_drewN | apply below_drew1 | refine below_set ?_ GE648.out | refine below_set ?_ GE655.out) | exact HB.out)) hb); clear HO658; clear BK648; clear BK655; clear HB; have HO658 := n0_; have BK648 := n1_; have BK655 := n2_; have HB := n3_; clear n0_ n1_ n2_ n3_; (try clear hb); (try clear hb2); (try clear hk); (try clear hi)) | ((with_reducible refine gate_dst (N := 9) rfl ?_); refine box_event ?hg (N := 9) ?hd (cs := #[.int .i64 0, .int .i64 0, .int .i64 0, .int .i64 0]) (t := 60) ?hr ?_; (case hd => rfl); (case hg => rfl); (case hr => first | (go_simp; done) | (go_simp; rfl)); intro gb664 hg w25 hbox hb; have n0_ := Aside0.mk (Kd.R_below (by (with_reducible repeat (first | apply Kd.R_alloc | apply Kd.R_drewN | apply Kd.R_drew)); exact HO658.out) hb); have n1_ := Aside0.mk (blk_below (g := gb648) (o := .cells #[.int .i64 a0_0, .int .i64 a0_1, .int .i64 a0_2, .int .i64 a0_3] 60 (0, 0)) (by (with_reducible repeat (first | refine blk_drewN ?_ _ | refine blk_drew ?_ | refine blk_alloc ?_ _)); exact BK648.out) hb); have n2_ := Aside0.mk (blk_below (g := gb655) (o := .cells #[.int .i64 t650, .int .i64 t651, .int .i64 t652, .int .i64 t653] 60 (0, 0)) (by (with_reducible repeat (first | refine blk_drewN ?_ _ | refine blk_drew ?_ | refine blk_alloc ?_ _)); exact BK655.out) hb); have n3_ := Aside0.mk (below_step (by repeat (first | (with_reducible first | exact HB.out | apply below_alloc | apply pw_below_drewN | apply below_drew1 | refine below_set ?_ GE648.out | refine below_set ?_ GE655.out) | exact HB.out)) hb); have n4_ := Aside0.mk (hbox); have n5_ := Aside0.mk ((by rw [hg]; exact (below_size (by repeat (first | (with_reducible first | exact HB.out | apply below_alloc | apply pw_below_drewN | apply below_drew1 | refine below_set ?_ GE648.out | refine below_set ?_ GE655.out) | exact HB.out))) : w.heap.size ≤ gb664)); have n6_ := Aside0.mk ((by rw [hg]; exact (below_size (by repeat (first | (with_reducible first | exact HB.out | apply below_alloc | apply pw_below_drewN | apply below_drew1 | refine below_set ?_ GE648.out | refine below_set ?_ GE655.out) | exact HB.out))) : w.heap.size ≤ gb664)); have n7_ := Aside0.mk ((by rw [hg]; exact Nat.ne_of_lt (blk_lt (g := gb648) (o := .cells #[.int .i64 a0_0, .int .i64 a0_1, .int .i64 a0_2, .int .i64 a0_3] 60 (0, 0)) (by (with_reducible repeat (first | refine blk_drewN ?_ _ | refine blk_drew ?_ | refine blk_alloc ?_ _)); exact BK648.out)) : gb648 ≠ gb664)); have n8_ := Aside0.mk ((by rw [hg]; exact Nat.ne_of_gt (blk_lt (g := gb648) (o := .cells #[.int .i64 a0_0, .int .i64 a0_1, .int .i64 a0_2, .int .i64 a0_3] 60 (0, 0)) (by (with_reducible repeat (first | refine blk_drewN ?_ _ | refine blk_drew ?_ | refine blk_alloc ?_ _)); exact BK648.out)) : gb664 ≠ gb648)); have n9_ := Aside0.mk ((by rw [hg]; exact Nat.ne_of_lt (blk_lt (g := gb655) (o := .cells #[.int .i64 t650, .int .i64 t651, .int .i64 t652, .int .i64 t653] 60 (0, 0)) (by (with_reducible repeat (first | refine blk_drewN ?_ _ | refine blk_drew ?_ | refine blk_alloc ?_ _)); exact BK655.out)) : gb655 ≠ gb664)); have n10_ := Aside0.mk ((by rw [hg]; exact Nat.ne_of_gt (blk_lt (g := gb655) (o := .cells #[.int .i64 t650, .int .i64 t651, .int .i64 t652, .int .i64 t653] 60 (0, 0)) (by (with_reducible repeat (first | refine blk_drewN ?_ _ | refine blk_drew ?_ | refine blk_alloc ?_ _)); exact BK655.out)) : gb664 ≠ gb655)); clear HO658; clear BK648; clear BK655; clear HB; have HO658 := n0_; have BK648 := n1_; have BK655 := n2_; have HB := n3_; have BK664 := n4_; have GW664 := n5_; have GE664 := n6_; have NB648_664 := n7_; have NB664_648 := n8_; have NB655_664 := n9_; have NB664_655 := n10_; clear n0_ n1_ n2_ n3_ n4_ n5_ n6_ n7_ n8_ n9_ n10_; clear hb hbox hg; have hnb26 := NB664_648.out; have hnc26 := NB648_664.out; have hnb27 := NB664_655.out; have hnc27 := NB655_664.out; have hcz28_0 : w25.cell? ⟨gb664, 0, none⟩ = some (.int .i64 0) := (blk_cell BK664.out 0).trans rfl; have hcz28_1 : w25.cell? ⟨gb664, 1, none⟩ = some (.int .i64 0) := (blk_cell BK664.out 1).trans rfl; have hcz28_2 : w25.cell? ⟨gb664, 2, none⟩ = some (.int .i64 0) := (blk_cell BK664.out 2).trans rfl; have hcz28_3 : w25.cell? ⟨gb664, 3, none⟩ = some (.int .i64 0) := (blk_cell BK664.out 3).trans rfl; have hfz28_0 := blk_frozen BK664.out 0; have hfz28_1 := blk_frozen BK664.out 1; have hfz28_2 := blk_frozen BK664.out 2; have hfz28_3 := blk_frozen BK664.out 3) | ((with_reducible refine gate_callee (f := 28) rfl ?_); refine goesL_ (some 30) rfl rfl Try.func28 (by kernel_rfl) rfl #[.slice Ao23 t656.length co23, .slice A1 l1.length c1] rfl (by (try simp only [List.map_toArray, List.map_cons, List.map_nil]); first | done | rfl | (simp only [List.length_drop, List.length_take]; rfl)) ?_; (with_reducible refine (reevelaw02_Kept.calls k _ _ t656 _ _ l1 true _ ?side1 ?side2 ?side3 ?side4 ?side5 A7.out).mono ?_); (case side1 => refine (reevelaw02_Lent.reads (base := w.heap.size) (ok := fun k_ => True) (l := t656) (c := co23) ?_).1; exact (by (with_reducible repeat (first | apply Kd.R_alloc | apply Kd.R_drewN | apply Kd.R_drew)); exact (Kd.R_mono (Kd.R_far (p := ⟨gb664, 3, none⟩) (Kd.R_far (p := ⟨gb664, 2, none⟩) (Kd.R_far (p := ⟨gb664, 1, none⟩) (Kd.R_far (p := ⟨gb664, 0, none⟩) (Kd.R_types HO658.out BK664.out (by decide)) (fun _ hk => hk.2) (.int .i64 t659)) (fun _ hk => hk.2) (.int .i64 t660)) (fun _ hk => hk.2) (.int .i64 t661)) (fun _ hk => hk.2) (.int .i64 t662)) (fun _ h_ => h_.1)))); (case side5 => refine reevelaw02_Lent.marks (base := w.heap.size) (ok := fun k_ => True) (l := t656) (c := co23) ?_; exact (by (with_reducible repeat (first | apply Kd.R_alloc | apply Kd.R_drewN | apply Kd.R_drew)); exact (Kd.R_mono (Kd.R_far (p := ⟨gb664, 3, none⟩) (Kd.R_far (p := ⟨gb664, 2, none⟩) (Kd.R_far (p := ⟨gb664, 1, none⟩) (Kd.R_far (p := ⟨gb664, 0, none⟩) (Kd.R_types HO658.out BK664.out (by decide)) (fun _ hk => hk.2) (.int .i64 t659)) (fun _ hk => hk.2) (.int .i64 t660)) (fun _ hk => hk.2) (.int .i64 t661)) (fun _ hk => hk.2) (.int .i64 t662)) (fun _ h_ => h_.1)))); (case side2 => exact (reevelaw02_Lent.reads (l := t656) HO658.out).2); (case side3 => exact Kd.C_below HR1.out (by repeat (first | (with_reducible first | exact HB.out | apply below_alloc | apply pw_below_drewN | apply below_drew1 | refine below_set ?_ GE648.out | refine below_set ?_ GE655.out | refine below_set ?_ GE664.out) | exact HB.out))); (case side4 => exact HC1.out); rintro e w29 ⟨rfl, hb⟩; refine ⟨_, rfl, ?_⟩; have n0_ := Aside0.mk (Kd.R_below (by (with_reducible repeat (first | apply Kd.R_alloc | apply Kd.R_drewN | apply Kd.R_drew)); exact (Kd.R_mono (Kd.R_far (p := ⟨gb664, 3, none⟩) (Kd.R_far (p := ⟨gb664, 2, none⟩) (Kd.R_far (p := ⟨gb664, 1, none⟩) (Kd.R_far (p := ⟨gb664, 0, none⟩) (Kd.R_types HO658.out BK664.out (by decide)) (fun _ hk => hk.2) (.int .i64 t659)) (fun _ hk => hk.2) (.int .i64 t660)) (fun _ hk => hk.2) (.int .i64 t661)) (fun _ hk => hk.2) (.int .i64 t662)) (fun _ h_ => h_.1))) hb); have n1_ := Aside0.mk (blk_below (g := gb648) (o := .cells #[.int .i64 a0_0, .int .i64 a0_1, .int .i64 a0_2, .int .i64 a0_3] 60 (0, 0)) (by (with_reducible repeat (first | refine blk_drewN ?_ _ | refine blk_drew ?_ | refine blk_alloc ?_ _)); refine blk_far ?_ NB648_664.out _; (with_reducible repeat (first | refine blk_drewN ?_ _ | refine blk_drew ?_ | refine blk_alloc ?_ _)); refine blk_far ?_ NB648_664.out _; (with_reducible repeat (first | refine blk_drewN ?_ _ | refine blk_drew ?_ | refine blk_alloc ?_ _)); refine blk_far ?_ NB648_664.out _; (with_reducible repeat (first | refine blk_drewN ?_ _ | refine blk_drew ?_ | refine blk_alloc ?_ _)); refine blk_far ?_ NB648_664.out _; (with_reducible repeat (first | refine blk_drewN ?_ _ | refine blk_drew ?_ | refine blk_alloc ?_ _)); exact BK648.out) hb); have n2_ := Aside0.mk (blk_below (g := gb655) (o := .cells #[.int .i64 t650, .int .i64 t651, .int .i64 t652, .int .i64 t653] 60 (0, 0)) (by (with_reducible repeat (first | refine blk_drewN ?_ _ | refine blk_drew ?_ | refine blk_alloc ?_ _)); refine blk_far ?_ NB655_664.out _; (with_reducible repeat (first | refine blk_drewN ?_ _ | refine blk_drew ?_ | refine blk_alloc ?_ _)); refine blk_far ?_ NB655_664.out _; (with_reducible repeat (first | refine blk_drewN ?_ _ | refine blk_drew ?_ | refine blk_alloc ?_ _)); refine blk_far ?_ NB655_664.out _; (with_reducible repeat (first | refine blk_drewN ?_ _ | refine blk_drew ?_ | refine blk_alloc ?_ _)); refine blk_far ?_ NB655_664.out _; (with_reducible repeat (first | refine blk_drewN ?_ _ | refine blk_drew ?_ | refine blk_alloc ?_ _)); exact BK655.out) hb); have n3_ := Aside0.mk (blk_below (g := gb664) (o := .cells #[.int .i64 t659, .int .i64 t660, .int .i64 t661, .int .i64 t662] 60 (0, 0)) (by (with_reducible repeat (first | refine blk_drewN ?_ _ | refine blk_drew ?_ | refine blk_alloc ?_ _)); refine blk_put (cs := #[.int .i64 t659, .int .i64 t660, .int .i64 t661, .int .i64 0]) ?_ 3 _ rfl; (with_reducible repeat (first | refine blk_drewN ?_ _ | refine blk_drew ?_ | refine blk_alloc ?_ _)); refine blk_put (cs := #[.int .i64 t659, .int .i64 t660, .int .i64 0, .int .i64 0]) ?_ 2 _ rfl; (with_reducible repeat (first | refine blk_drewN ?_ _ | refine blk_drew ?_ | refine blk_alloc ?_ _)); refine blk_put (cs := #[.int .i64 t659, .int .i64 0, .int .i64 0, .int .i64 0]) ?_ 1 _ rfl; (with_reducible repeat (first | refine blk_drewN ?_ _ | refine blk_drew ?_ | refine blk_alloc ?_ _)); refine blk_put (cs := #[.int .i64 0, .int .i64 0, .int .i64 0, .int .i64 0]) ?_ 0 _ rfl; (with_reducible repeat (first | refine blk_drewN ?_ _ | refine blk_drew ?_ | refine blk_alloc ?_ _)); exact BK664.out) hb); have n4_ := Aside0.mk (below_step (by repeat (first | (with_reducible first | exact HB.out | apply below_alloc | apply pw_below_drewN | apply below_drew1 | refine below_set ?_ GE648.out | refine below_set ?_ GE655.out | refine below_set ?_ GE664.out) | exact HB.out)) hb); clear HO658; clear BK648; clear BK655; clear BK664; clear HB; have HO658 := n0_; have BK648 := n1_; have BK655 := n2_; have BK664 := n3_; have HB := n4_; clear n0_ n1_ n2_ n3_ n4_; (try clear hb); (try clear hb2); (try clear hk); (try clear hi)) | ((with_reducible refine gate_callee (f := 53) rfl ?_); refine goesL_ (some 31) rfl rfl Try.func53 (by kernel_rfl) rfl #[] rfl (by (try simp only [List.map_toArray, List.map_cons, List.map_nil]); first | done | rfl | (simp only [List.length_drop, List.length_take]; rfl)) ?_; (with_reducible refine (chain_First.calls  t666 t667 t668 t669 _ A8.out).mono ?_); rintro e w30 ⟨rfl, hb⟩; refine ⟨_, rfl, ?_⟩; have n0_ := Aside0.mk (Kd.R_below (by (with_reducible repeat (first | apply Kd.R_alloc | apply Kd.R_drewN | apply Kd.R_drew)); exact HO658.out) hb); have n1_ := Aside0.mk (blk_below (g := gb648) (o := .cells #[.int .i64 a0_0, .int .i64 a0_1, .int .i64 a0_2, .int .i64 a0_3] 60 (0, 0)) (by (with_reducible repeat (first | refine blk_drewN ?_ _ | refine blk_drew ?_ | refine blk_alloc ?_ _)); exact BK648.out) hb); have n2_ := Aside0.mk (blk_below (g := gb655) (o := .cells #[.int .i64 t650, .int .i64 t651, .int .i64 t652, .int .i64 t653] 60 (0, 0)) (by (with_reducible repeat (first | refine blk_drewN ?_ _ | refine blk_drew ?_ | refine blk_alloc ?_ _)); exact BK655.out) hb); have n3_ := Aside0.mk (blk_below (g := gb664) (o := .cells #[.int .i64 t659, .int .i64 t660, .int .i64 t661, .int .i64 t662] 60 (0, 0)) (by (with_reducible repeat (first | refine blk_drewN ?_ _ | refine blk_drew ?_ | refine blk_alloc ?_ _)); exact BK664.out) hb); have n4_ := Aside0.mk (below_step (by repeat (first | (with_reducible first | exact HB.out | apply below_alloc | apply pw_below_drewN | apply below_drew1 | refine below_set ?_ GE648.out | refine below_set ?_ GE655.out | refine below_set ?_ GE664.out) | exact HB.out)) hb); clear HO658; clear BK648; clear BK655; clear BK664; clear HB; have HO658 := n0_; have BK648 := n1_; have BK655 := n2_; have BK664 := n3_; have HB := n4_; clear n0_ n1_ n2_ n3_ n4_; (try clear hb); (try clear hb2); (try clear hk); (try clear hi)) | ((with_reducible refine gate_dst (N := 12) rfl ?_); refine box_event ?hg (N := 12) ?hd (cs := #[.int .i64 0, .int .i64 0, .int .i64 0, .int .i64 0]) (t := 60) ?hr ?_; (case hd => rfl); (case hg => rfl); (case hr => first | (go_simp; done) | (go_simp; rfl)); intro gb670 hg w31 hbox hb; have n0_ := Aside0.mk (Kd.R_below (by (with_reducible repeat (first | apply Kd.R_alloc | apply Kd.R_drewN | apply Kd.R_drew)); exact HO658.out) hb); have n1_ := Aside0.mk (blk_below (g := gb648) (o := .cells #[.int .i64 a0_0, .int .i64 a0_1, .int .i64 a0_2, .int .i64 a0_3] 60 (0, 0)) (by (with_reducible repeat (first | refine blk_drewN ?_ _ | refine blk_drew ?_ | refine blk_alloc ?_ _)); exact BK648.out) hb); have n2_ := Aside0.mk (blk_below (g := gb655) (o := .cells #[.int .i64 t650, .int .i64 t651, .int .i64 t652, .int .i64 t653] 60 (0, 0)) (by (with_reducible repeat (first | refine blk_drewN ?_ _ | refine blk_drew ?_ | refine blk_alloc ?_ _)); exact BK655.out) hb); have n3_ := Aside0.mk (blk_below (g := gb664) (o := .cells #[.int .i64 t659, .int .i64 t660, .int .i64 t661, .int .i64 t662] 60 (0, 0)) (by (with_reducible repeat (first | refine blk_drewN ?_ _ | refine blk_drew ?_ | refine blk_alloc ?_ _)); exact BK664.out) hb); have n4_ := Aside0.mk (below_step (by repeat (first | (with_reducible first | exact HB.out | apply below_alloc | apply pw_below_drewN | apply below_drew1 | refine below_set ?_ GE648.out | refine below_set ?_ GE655.out | refine below_set ?_ GE664.out) | exact HB.out)) hb); have n5_ := Aside0.mk (hbox); have n6_ := Aside0.mk ((by rw [hg]; exact (below_size (by repeat (first | (with_reducible first | exact HB.out | apply below_alloc | apply pw_below_drewN | apply below_drew1 | refine below_set ?_ GE648.out | refine below_set ?_ GE655.out | refine below_set ?_ GE664.out) | exact HB.out))) : w.heap.size ≤ gb670)); have n7_ := Aside0.mk ((by rw [hg]; exact (below_size (by repeat (first | (with_reducible first | exact HB.out | apply below_alloc | apply pw_below_drewN | apply below_drew1 | refine below_set ?_ GE648.out | refine below_set ?_ GE655.out | refine below_set ?_ GE664.out) | exact HB.out))) : w.heap.size ≤ gb670)); have n8_ := Aside0.mk ((by rw [hg]; exact Nat.ne_of_lt (blk_lt (g := gb648) (o := .cells #[.int .i64 a0_0, .int .i64 a0_1, .int .i64 a0_2, .int .i64 a0_3] 60 (0, 0)) (by (with_reducible repeat (first | refine blk_drewN ?_ _ | refine blk_drew ?_ | refine blk_alloc ?_ _)); exact BK648.out)) : gb648 ≠ gb670)); have n9_ := Aside0.mk ((by rw [hg]; exact Nat.ne_of_gt (blk_lt (g := gb648) (o := .cells #[.int .i64 a0_0, .int .i64 a0_1, .int .i64 a0_2, .int .i64 a0_3] 60 (0, 0)) (by (with_reducible repeat (first | refine blk_drewN ?_ _ | refine blk_drew ?_ | refine blk_alloc ?_ _)); exact BK648.out)) : gb670 ≠ gb648)); have n10_ := Aside0.mk ((by rw [hg]; exact Nat.ne_of_lt (blk_lt (g := gb655) (o := .cells #[.int .i64 t650, .int .i64 t651, .int .i64 t652, .int .i64 t653] 60 (0, 0)) (by (with_reducible repeat (first | refine blk_drewN ?_ _ | refine blk_drew ?_ | refine blk_alloc ?_ _)); exact BK655.out)) : gb655 ≠ gb670)); have n11_ := Aside0.mk ((by rw [hg]; exact Nat.ne_of_gt (blk_lt (g := gb655) (o := .cells #[.int .i64 t650, .int .i64 t651, .int .i64 t652, .int .i64 t653] 60 (0, 0)) (by (with_reducible repeat (first | refine blk_drewN ?_ _ | refine blk_drew ?_ | refine blk_alloc ?_ _)); exact BK655.out)) : gb670 ≠ gb655)); have n12_ := Aside0.mk ((by rw [hg]; exact Nat.ne_of_lt (blk_lt (g := gb664) (o := .cells #[.int .i64 t659, .int .i64 t660, .int .i64 t661, .int .i64 t662] 60 (0, 0)) (by (with_reducible repeat (first | refine blk_drewN ?_ _ | refine blk_drew ?_ | refine blk_alloc ?_ _)); exact BK664.out)) : gb664 ≠ gb670)); have n13_ := Aside0.mk ((by rw [hg]; exact Nat.ne_of_gt (blk_lt (g := gb664) (o := .cells #[.int .i64 t659, .int .i64 t660, .int .i64 t661, .int .i64 t662] 60 (0, 0)) (by (with_reducible repeat (first | refine blk_drewN ?_ _ | refine blk_drew ?_ | refine blk_alloc ?_ _)); exact BK664.out)) : gb670 ≠ gb664)); clear HO658; clear BK648; clear BK655; clear BK664; clear HB; have HO658 := n0_; have BK648 := n1_; have BK655 := n2_; have BK664 := n3_; have HB := n4_; have BK670 := n5_; have GW670 := n6_; have GE670 := n7_; have NB648_670 := n8_; have NB670_648 := n9_; have NB655_670 := n10_; have NB670_655 := n11_; have NB664_670 := n12_; have NB670_664 := n13_; clear n0_ n1_ n2_ n3_ n4_ n5_ n6_ n7_ n8_ n9_ n10_ n11_ n12_ n13_; clear hb hbox hg; have hnb32 := NB670_648.out; have hnc32 := NB648_670.out; have hnb33 := NB670_655.out; have hnc33 := NB655_670.out; have hnb34 := NB670_664.out; have hnc34 := NB664_670.out; have hcz35_0 : w31.cell? ⟨gb670, 0, none⟩ = some (.int .i64 0) := (blk_cell BK670.out 0).trans rfl; have hcz35_1 : w31.cell? ⟨gb670, 1, none⟩ = some (.int .i64 0) := (blk_cell BK670.out 1).trans rfl; have hcz35_2 : w31.cell? ⟨gb670, 2, none⟩ = some (.int .i64 0) := (blk_cell BK670.out 2).trans rfl; have hcz35_3 : w31.cell? ⟨gb670, 3, none⟩ = some (.int .i64 0) := (blk_cell BK670.out 3).trans rfl; have hfz35_0 := blk_frozen BK670.out 0; have hfz35_1 := blk_frozen BK670.out 1; have hfz35_2 := blk_frozen BK670.out 2; have hfz35_3 := blk_frozen BK670.out 3))
          have n0_ : Aside0 (Kd.R (Kd.int .u8) 5 ((((w31.setCell ⟨gb670, 0, none⟩ (.int .i64 t666)).setCell ⟨gb670, 1, none⟩ (.int .i64 t667)).setCell ⟨gb670, 2, none⟩ (.int .i64 t668)).setCell ⟨gb670, 3, none⟩ (.int .i64 t669)) w.heap.size (fun _ => True) (.slice Ao23 (t656.length + 2) co23) (t656 ++ [171, 172])) := ⟨by (with_reducible repeat (first | apply Kd.R_alloc | apply Kd.R_drewN | apply Kd.R_drew)); exact Kd.R_mono (Kd.R_far (p := ⟨gb670, 3, none⟩) (Kd.R_far (p := ⟨gb670, 2, none⟩) (Kd.R_far (p := ⟨gb670, 1, none⟩) (Kd.R_far (p := ⟨gb670, 0, none⟩) (Kd.R_types HO658.out BK670.out (by decide)) (fun _ hk => hk.2) (.int .i64 t666)) (fun _ hk => hk.2) (.int .i64 t667)) (fun _ hk => hk.2) (.int .i64 t668)) (fun _ hk => hk.2) (.int .i64 t669)) (fun _ hk => trivial)⟩
          have n1_ : Aside0 (((((w31.setCell ⟨gb670, 0, none⟩ (.int .i64 t666)).setCell ⟨gb670, 1, none⟩ (.int .i64 t667)).setCell ⟨gb670, 2, none⟩ (.int .i64 t668)).setCell ⟨gb670, 3, none⟩ (.int .i64 t669)).heap[gb648]? = some (.cells #[.int .i64 a0_0, .int .i64 a0_1, .int .i64 a0_2, .int .i64 a0_3] 60 (0, 0))) := ⟨by (with_reducible repeat (first | refine blk_drewN ?_ _ | refine blk_drew ?_ | refine blk_alloc ?_ _)); refine blk_far ?_ NB648_670.out _; (with_reducible repeat (first | refine blk_drewN ?_ _ | refine blk_drew ?_ | refine blk_alloc ?_ _)); refine blk_far ?_ NB648_670.out _; (with_reducible repeat (first | refine blk_drewN ?_ _ | refine blk_drew ?_ | refine blk_alloc ?_ _)); refine blk_far ?_ NB648_670.out _; (with_reducible repeat (first | refine blk_drewN ?_ _ | refine blk_drew ?_ | refine blk_alloc ?_ _)); refine blk_far ?_ NB648_670.out _; (with_reducible repeat (first | refine blk_drewN ?_ _ | refine blk_drew ?_ | refine blk_alloc ?_ _)); exact BK648.out⟩
          have n2_ : Aside0 (((((w31.setCell ⟨gb670, 0, none⟩ (.int .i64 t666)).setCell ⟨gb670, 1, none⟩ (.int .i64 t667)).setCell ⟨gb670, 2, none⟩ (.int .i64 t668)).setCell ⟨gb670, 3, none⟩ (.int .i64 t669)).heap[gb655]? = some (.cells #[.int .i64 t650, .int .i64 t651, .int .i64 t652, .int .i64 t653] 60 (0, 0))) := ⟨by (with_reducible repeat (first | refine blk_drewN ?_ _ | refine blk_drew ?_ | refine blk_alloc ?_ _)); refine blk_far ?_ NB655_670.out _; (with_reducible repeat (first | refine blk_drewN ?_ _ | refine blk_drew ?_ | refine blk_alloc ?_ _)); refine blk_far ?_ NB655_670.out _; (with_reducible repeat (first | refine blk_drewN ?_ _ | refine blk_drew ?_ | refine blk_alloc ?_ _)); refine blk_far ?_ NB655_670.out _; (with_reducible repeat (first | refine blk_drewN ?_ _ | refine blk_drew ?_ | refine blk_alloc ?_ _)); refine blk_far ?_ NB655_670.out _; (with_reducible repeat (first | refine blk_drewN ?_ _ | refine blk_drew ?_ | refine blk_alloc ?_ _)); exact BK655.out⟩
          have n3_ : Aside0 (((((w31.setCell ⟨gb670, 0, none⟩ (.int .i64 t666)).setCell ⟨gb670, 1, none⟩ (.int .i64 t667)).setCell ⟨gb670, 2, none⟩ (.int .i64 t668)).setCell ⟨gb670, 3, none⟩ (.int .i64 t669)).heap[gb664]? = some (.cells #[.int .i64 t659, .int .i64 t660, .int .i64 t661, .int .i64 t662] 60 (0, 0))) := ⟨by (with_reducible repeat (first | refine blk_drewN ?_ _ | refine blk_drew ?_ | refine blk_alloc ?_ _)); refine blk_far ?_ NB664_670.out _; (with_reducible repeat (first | refine blk_drewN ?_ _ | refine blk_drew ?_ | refine blk_alloc ?_ _)); refine blk_far ?_ NB664_670.out _; (with_reducible repeat (first | refine blk_drewN ?_ _ | refine blk_drew ?_ | refine blk_alloc ?_ _)); refine blk_far ?_ NB664_670.out _; (with_reducible repeat (first | refine blk_drewN ?_ _ | refine blk_drew ?_ | refine blk_alloc ?_ _)); refine blk_far ?_ NB664_670.out _; (with_reducible repeat (first | refine blk_drewN ?_ _ | refine blk_drew ?_ | refine blk_alloc ?_ _)); exact BK664.out⟩
          have n4_ : Aside0 (((((w31.setCell ⟨gb670, 0, none⟩ (.int .i64 t666)).setCell ⟨gb670, 1, none⟩ (.int .i64 t667)).setCell ⟨gb670, 2, none⟩ (.int .i64 t668)).setCell ⟨gb670, 3, none⟩ (.int .i64 t669)).heap[gb670]? = some (.cells #[.int .i64 t666, .int .i64 t667, .int .i64 t668, .int .i64 t669] 60 (0, 0))) := ⟨by (with_reducible repeat (first | refine blk_drewN ?_ _ | refine blk_drew ?_ | refine blk_alloc ?_ _)); refine blk_put (cs := #[.int .i64 t666, .int .i64 t667, .int .i64 t668, .int .i64 0]) ?_ 3 _ rfl; (with_reducible repeat (first | refine blk_drewN ?_ _ | refine blk_drew ?_ | refine blk_alloc ?_ _)); refine blk_put (cs := #[.int .i64 t666, .int .i64 t667, .int .i64 0, .int .i64 0]) ?_ 2 _ rfl; (with_reducible repeat (first | refine blk_drewN ?_ _ | refine blk_drew ?_ | refine blk_alloc ?_ _)); refine blk_put (cs := #[.int .i64 t666, .int .i64 0, .int .i64 0, .int .i64 0]) ?_ 1 _ rfl; (with_reducible repeat (first | refine blk_drewN ?_ _ | refine blk_drew ?_ | refine blk_alloc ?_ _)); refine blk_put (cs := #[.int .i64 0, .int .i64 0, .int .i64 0, .int .i64 0]) ?_ 0 _ rfl; (with_reducible repeat (first | refine blk_drewN ?_ _ | refine blk_drew ?_ | refine blk_alloc ?_ _)); exact BK670.out⟩
          have n5_ : Aside0 (Below w.heap.size w ((((w31.setCell ⟨gb670, 0, none⟩ (.int .i64 t666)).setCell ⟨gb670, 1, none⟩ (.int .i64 t667)).setCell ⟨gb670, 2, none⟩ (.int .i64 t668)).setCell ⟨gb670, 3, none⟩ (.int .i64 t669))) := ⟨by repeat (first | (with_reducible first | exact HB.out | apply below_alloc | apply pw_below_drewN | apply below_drew1 | refine below_set ?_ GE648.out | refine below_set ?_ GE655.out | refine below_set ?_ GE664.out | refine below_set ?_ GE670.out) | exact HB.out)⟩
          (try clear HO658)
          (try clear BK648)
          (try clear BK655)
          (try clear BK664)
          (try clear BK670)
          (try clear HB)
          generalize ((((w31.setCell ⟨gb670, 0, none⟩ (.int .i64 t666)).setCell ⟨gb670, 1, none⟩ (.int .i64 t667)).setCell ⟨gb670, 2, none⟩ (.int .i64 t668)).setCell ⟨gb670, 3, none⟩ (.int .i64 t669)) = w36 at n0_ n1_ n2_ n3_ n4_ n5_ ⊢
          have HO658 := n0_
          have BK648 := n1_
          have BK655 := n2_
          have BK664 := n3_
          have BK670 := n4_
          have HB := n5_
          clear n0_ n1_ n2_ n3_ n4_ n5_
          have n0_ := Aside0.mk (Kd.R_drew HO658.out)
          have n1_ := Aside0.mk (blk_drew BK648.out)
          have n2_ := Aside0.mk (blk_drew BK655.out)
          have n3_ := Aside0.mk (blk_drew BK664.out)
          have n4_ := Aside0.mk (blk_drew BK670.out)
          have n5_ := Aside0.mk (below_drew1 HB.out)
          clear HO658
          clear BK648
          clear BK655
          clear BK664
          clear BK670
          clear HB
          have HO658 := n0_
          have BK648 := n1_
          have BK655 := n2_
          have BK664 := n3_
          have BK670 := n4_
          have HB := n5_
          clear n0_ n1_ n2_ n3_ n4_ n5_
          refine start_ (n := 20) (S := fun w' => w'.cell? ⟨gb664, 0, none⟩ = some (.int .i64 t659) ∧ w'.cell? ⟨gb664, 1, none⟩ = some (.int .i64 t660) ∧ w'.cell? ⟨gb664, 2, none⟩ = some (.int .i64 t661) ∧ w'.cell? ⟨gb664, 3, none⟩ = some (.int .i64 t662) ∧ w'.cell? ⟨gb655, 0, none⟩ = some (.int .i64 t650) ∧ w'.cell? ⟨gb655, 1, none⟩ = some (.int .i64 t651) ∧ w'.cell? ⟨gb655, 2, none⟩ = some (.int .i64 t652) ∧ w'.cell? ⟨gb655, 3, none⟩ = some (.int .i64 t653) ∧ w'.cell? ⟨gb670, 0, none⟩ = some (.int .i64 t666) ∧ w'.cell? ⟨gb670, 1, none⟩ = some (.int .i64 t667) ∧ w'.cell? ⟨gb670, 2, none⟩ = some (.int .i64 t668) ∧ w'.cell? ⟨gb670, 3, none⟩ = some (.int .i64 t669)) (ds := []) #[false, false, false, false, false, false, false, false, false, false, false, false, false, false, false, false, false, false, false, false] (by kernel_rfl) rfl rfl ⟨(blk_cell BK664.out 0).trans rfl, (blk_cell BK664.out 1).trans rfl, (blk_cell BK664.out 2).trans rfl, (blk_cell BK664.out 3).trans rfl, (blk_cell BK655.out 0).trans rfl, (blk_cell BK655.out 1).trans rfl, (blk_cell BK655.out 2).trans rfl, (blk_cell BK655.out 3).trans rfl, (blk_cell BK670.out 0).trans rfl, (blk_cell BK670.out 1).trans rfl, (blk_cell BK670.out 2).trans rfl, (blk_cell BK670.out 3).trans rfl⟩ (fun hHeld => ?_); refine with_tabW reevelaw03_ChainGoes.tab7 reevelaw03_ChainGoes.bits7 (fun HT_ HW_ => ?_)
          generalize w36.drew = w37 at HO658 BK648 BK655 BK664 BK670 HB hHeld ⊢
          refine pure_ (i := 0) (N := some 32) (v := ?_) (a' := ?_) #[true, false, false, false, false, false, false, false, false, false, false, false, false, false, false, false, false, false, false, false] rfl rfl (any_of HT_.out (by kernel_rfl)) (fun _ _ _ h => h) (Or.inl ⟨by rfl, ?_⟩) ?_ ?_
          rotate_left
          · intro w'
            go_simp
            with_reducible rfl
          rotate_left
          · simp only [Act.put, List.setIfInBounds_toArray, List.set_cons_zero, List.set_cons_succ, i64_w, i32_w]
            rfl
          refine pure_ (i := 1) (N := some 33) (v := ?_) (a' := ?_) #[true, true, false, false, false, false, false, false, false, false, false, false, false, false, false, false, false, false, false, false] rfl rfl (any_of HT_.out (by kernel_rfl)) (fun _ _ _ h => h) (Or.inl ⟨by rfl, ?_⟩) ?_ ?_
          rotate_left
          · intro w'
            go_simp
            with_reducible rfl
          rotate_left
          · simp only [Act.put, List.setIfInBounds_toArray, List.set_cons_zero, List.set_cons_succ, i64_w, i32_w]
            rfl
          refine pure_ (i := 2) (N := some 34) (v := ?_) (a' := ?_) #[true, true, true, false, false, false, false, false, false, false, false, false, false, false, false, false, false, false, false, false] rfl rfl (any_of HT_.out (by kernel_rfl)) (fun _ _ _ h => h) (Or.inl ⟨by rfl, ?_⟩) ?_ ?_
          rotate_left
          · intro w'
            go_simp
            with_reducible rfl
          rotate_left
          · simp only [Act.put, List.setIfInBounds_toArray, List.set_cons_zero, List.set_cons_succ, i64_w, i32_w]
            rfl
          refine pure_ (i := 3) (N := some 35) (v := ?_) (a' := ?_) #[true, true, true, true, false, false, false, false, false, false, false, false, false, false, false, false, false, false, false, false] rfl rfl (any_of HT_.out (by kernel_rfl)) (fun _ _ _ h => h) (Or.inl ⟨by rfl, ?_⟩) ?_ ?_
          rotate_left
          · intro w'
            go_simp
            with_reducible rfl
          rotate_left
          · simp only [Act.put, List.setIfInBounds_toArray, List.set_cons_zero, List.set_cons_succ, i64_w, i32_w]
            rfl
          refine pure_ (i := 4) (N := some 36) (v := ?_) (a' := ?_) #[true, true, true, true, true, false, false, false, false, false, false, false, false, false, false, false, false, false, false, false] rfl rfl (any_of HT_.out (by kernel_rfl)) (fun _ _ _ h => h) (Or.inl ⟨by rfl, ?_⟩) ?_ ?_
          rotate_left
          · intro w'
            go_simp
            with_reducible rfl
          rotate_left
          · simp only [Act.put, List.setIfInBounds_toArray, List.set_cons_zero, List.set_cons_succ, i64_w, i32_w]
            rfl
          refine take_ (i := 5) (N := some 37) (v := ?_) (a' := ?_) #[true, true, true, true, true, true, false, false, false, false, false, false, false, false, false, false, false, false, false, false] rfl rfl (take_ofW HT_.out HW_.out (by kernel_rfl)) (fun _ _ _ h => h) (Or.inl ⟨by rfl, ?_⟩) hHeld ?_ ?_
          rotate_left
          · rintro w' ⟨s0, s1, s2, s3, s4, s5, s6, s7, s8, s9, s10, s11⟩
            go_simp
            with_reducible rfl
          rotate_left
          · simp only [Act.put, List.setIfInBounds_toArray, List.set_cons_zero, List.set_cons_succ, i64_w, i32_w]
            rfl
          refine take_ (i := 6) (N := some 38) (v := ?_) (a' := ?_) #[true, true, true, true, true, true, true, false, false, false, false, false, false, false, false, false, false, false, false, false] rfl rfl (take_ofW HT_.out HW_.out (by kernel_rfl)) (fun _ _ _ h => h) (Or.inl ⟨by rfl, ?_⟩) hHeld ?_ ?_
          rotate_left
          · rintro w' ⟨s0, s1, s2, s3, s4, s5, s6, s7, s8, s9, s10, s11⟩
            go_simp
            with_reducible rfl
          rotate_left
          · simp only [Act.put, List.setIfInBounds_toArray, List.set_cons_zero, List.set_cons_succ, i64_w, i32_w]
            rfl
          refine pure_ (i := 7) (N := some 39) (v := ?_) (a' := ?_) #[true, true, true, true, true, true, true, true, false, false, false, false, false, false, false, false, false, false, false, false] rfl rfl (any_of HT_.out (by kernel_rfl)) (fun _ _ _ h => h) (Or.inl ⟨by rfl, ?_⟩) ?_ ?_
          rotate_left
          · intro w'
            go_simp
            with_reducible rfl
          rotate_left
          · simp only [Act.put, List.setIfInBounds_toArray, List.set_cons_zero, List.set_cons_succ, i64_w, i32_w]
            rfl
          refine pure_ (i := 8) (N := some 40) (v := ?_) (a' := ?_) #[true, true, true, true, true, true, true, true, true, false, false, false, false, false, false, false, false, false, false, false] rfl rfl (any_of HT_.out (by kernel_rfl)) (fun _ _ _ h => h) (Or.inl ⟨by rfl, ?_⟩) ?_ ?_
          rotate_left
          · intro w'
            go_simp
            with_reducible rfl
          rotate_left
          · simp only [Act.put, List.setIfInBounds_toArray, List.set_cons_zero, List.set_cons_succ, i64_w, i32_w]
            rfl
          refine pure_ (i := 9) (N := some 41) (v := ?_) (a' := ?_) #[true, true, true, true, true, true, true, true, true, true, false, false, false, false, false, false, false, false, false, false] rfl rfl (any_of HT_.out (by kernel_rfl)) (fun _ _ _ h => h) (Or.inl ⟨by rfl, ?_⟩) ?_ ?_
          rotate_left
          · intro w'
            go_simp
            with_reducible rfl
          rotate_left
          · simp only [Act.put, List.setIfInBounds_toArray, List.set_cons_zero, List.set_cons_succ, i64_w, i32_w]
            rfl
          refine pure_ (i := 10) (N := some 42) (v := ?_) (a' := ?_) #[true, true, true, true, true, true, true, true, true, true, true, false, false, false, false, false, false, false, false, false] rfl rfl (any_of HT_.out (by kernel_rfl)) (fun _ _ _ h => h) (Or.inl ⟨by rfl, ?_⟩) ?_ ?_
          rotate_left
          · intro w'
            go_simp
            with_reducible rfl
          rotate_left
          · simp only [Act.put, List.setIfInBounds_toArray, List.set_cons_zero, List.set_cons_succ, i64_w, i32_w]
            rfl
          refine pure_ (i := 11) (N := some 43) (v := ?_) (a' := ?_) #[true, true, true, true, true, true, true, true, true, true, true, true, false, false, false, false, false, false, false, false] rfl rfl (any_of HT_.out (by kernel_rfl)) (fun _ _ _ h => h) (Or.inl ⟨by rfl, ?_⟩) ?_ ?_
          rotate_left
          · intro w'
            go_simp
            with_reducible rfl
          rotate_left
          · simp only [Act.put, List.setIfInBounds_toArray, List.set_cons_zero, List.set_cons_succ, i64_w, i32_w]
            rfl
          refine pure_ (i := 12) (N := some 44) (v := ?_) (a' := ?_) #[true, true, true, true, true, true, true, true, true, true, true, true, true, false, false, false, false, false, false, false] rfl rfl (any_of HT_.out (by kernel_rfl)) (fun _ _ _ h => h) (Or.inl ⟨by rfl, ?_⟩) ?_ ?_
          rotate_left
          · intro w'
            go_simp
            with_reducible rfl
          rotate_left
          · simp only [Act.put, List.setIfInBounds_toArray, List.set_cons_zero, List.set_cons_succ, i64_w, i32_w]
            rfl
          refine pure_ (i := 13) (N := some 45) (v := ?_) (a' := ?_) #[true, true, true, true, true, true, true, true, true, true, true, true, true, true, false, false, false, false, false, false] rfl rfl (any_of HT_.out (by kernel_rfl)) (fun _ _ _ h => h) (Or.inl ⟨by rfl, ?_⟩) ?_ ?_
          rotate_left
          · intro w'
            go_simp
            with_reducible rfl
          rotate_left
          · simp only [Act.put, List.setIfInBounds_toArray, List.set_cons_zero, List.set_cons_succ, i64_w, i32_w]
            rfl
          refine pure_ (i := 14) (N := some 46) (v := ?_) (a' := ?_) #[true, true, true, true, true, true, true, true, true, true, true, true, true, true, true, false, false, false, false, false] rfl rfl (any_of HT_.out (by kernel_rfl)) (fun _ _ _ h => h) (Or.inl ⟨by rfl, ?_⟩) ?_ ?_
          rotate_left
          · intro w'
            go_simp
            with_reducible rfl
          rotate_left
          · simp only [Act.put, List.setIfInBounds_toArray, List.set_cons_zero, List.set_cons_succ, i64_w, i32_w]
            rfl
          refine take_ (i := 15) (N := some 47) (v := ?_) (a' := ?_) #[true, true, true, true, true, true, true, true, true, true, true, true, true, true, true, true, false, false, false, false] rfl rfl (take_ofW HT_.out HW_.out (by kernel_rfl)) (fun _ _ _ h => h) (Or.inl ⟨by rfl, ?_⟩) hHeld ?_ ?_
          rotate_left
          · rintro w' ⟨s0, s1, s2, s3, s4, s5, s6, s7, s8, s9, s10, s11⟩
            go_simp
            with_reducible rfl
          rotate_left
          · simp only [Act.put, List.setIfInBounds_toArray, List.set_cons_zero, List.set_cons_succ, i64_w, i32_w]
            rfl
          refine one_ (i := 16) (N := some 48) #[true, true, true, true, true, true, true, true, true, true, true, true, true, true, true, true, true, false, false, false] rfl rfl (one_of HT_.out (by kernel_rfl)) (by decide) (fun K hK => ?_)
          refine goes_ Try.func54 (by kernel_rfl) rfl #[] (by rfl) rfl rfl (by (try simp only [List.map_toArray, List.map_cons, List.map_nil]); first | done | rfl | (simp only [List.length_drop, List.length_take]; rfl)) ?_
          with_reducible refine (reeveref03_First.calls  t671 t672 t673 t674 _ A13.out).mono ?_
          rintro e w38 ⟨rfl, hb⟩
          refine ⟨_, rfl, ?_⟩
          have n0_ := Aside0.mk (Kd.R_below (by (with_reducible repeat (first | apply Kd.R_alloc | apply Kd.R_drewN | apply Kd.R_drew)); exact HO658.out) hb)
          have n1_ := Aside0.mk (blk_below (g := gb648) (o := .cells #[.int .i64 a0_0, .int .i64 a0_1, .int .i64 a0_2, .int .i64 a0_3] 60 (0, 0)) (by (with_reducible repeat (first | refine blk_drewN ?_ _ | refine blk_drew ?_ | refine blk_alloc ?_ _)); exact BK648.out) hb)
          have n2_ := Aside0.mk (blk_below (g := gb655) (o := .cells #[.int .i64 t650, .int .i64 t651, .int .i64 t652, .int .i64 t653] 60 (0, 0)) (by (with_reducible repeat (first | refine blk_drewN ?_ _ | refine blk_drew ?_ | refine blk_alloc ?_ _)); exact BK655.out) hb)
          have n3_ := Aside0.mk (blk_below (g := gb664) (o := .cells #[.int .i64 t659, .int .i64 t660, .int .i64 t661, .int .i64 t662] 60 (0, 0)) (by (with_reducible repeat (first | refine blk_drewN ?_ _ | refine blk_drew ?_ | refine blk_alloc ?_ _)); exact BK664.out) hb)
          have n4_ := Aside0.mk (blk_below (g := gb670) (o := .cells #[.int .i64 t666, .int .i64 t667, .int .i64 t668, .int .i64 t669] 60 (0, 0)) (by (with_reducible repeat (first | refine blk_drewN ?_ _ | refine blk_drew ?_ | refine blk_alloc ?_ _)); exact BK670.out) hb)
          have n5_ := Aside0.mk (below_step (by repeat (first | (with_reducible first | exact HB.out | apply below_alloc | apply pw_below_drewN | apply below_drew1 | refine below_set ?_ GE648.out | refine below_set ?_ GE655.out | refine below_set ?_ GE664.out | refine below_set ?_ GE670.out) | exact HB.out)) hb)
          clear HO658
          clear BK648
          clear BK655
          clear BK664
          clear BK670
          clear HB
          have HO658 := n0_
          have BK648 := n1_
          have BK655 := n2_
          have BK664 := n3_
          have BK670 := n4_
          have HB := n5_
          clear n0_ n1_ n2_ n3_ n4_ n5_
          (try clear hb)
          (try clear hb2)
          (try clear hk)
          (try clear hi)
          refine hK.out _ _ ⟨(blk_cell BK664.out 0).trans rfl, (blk_cell BK664.out 1).trans rfl, (blk_cell BK664.out 2).trans rfl, (blk_cell BK664.out 3).trans rfl, (blk_cell BK655.out 0).trans rfl, (blk_cell BK655.out 1).trans rfl, (blk_cell BK655.out 2).trans rfl, (blk_cell BK655.out 3).trans rfl, (blk_cell BK670.out 0).trans rfl, (blk_cell BK670.out 1).trans rfl, (blk_cell BK670.out 2).trans rfl, (blk_cell BK670.out 3).trans rfl⟩ (fun hHeld => ?_)
          clear hK K
          refine norm_ (a' := ?_) ?_ ?_
          rotate_left
          · show Act.put _ (some 48) _ = _
            simp only [Act.put, List.setIfInBounds_toArray, List.set_cons_zero, List.set_cons_succ, i64_w, i32_w]
            rfl
          refine pure_ (i := 17) (N := some 49) (v := ?_) (a' := ?_) #[true, true, true, true, true, true, true, true, true, true, true, true, true, true, true, true, true, true, false, false] rfl rfl (any_of HT_.out (by kernel_rfl)) (fun _ _ _ h => h) (Or.inl ⟨by rfl, ?_⟩) ?_ ?_
          rotate_left
          · intro w'
            go_simp
            with_reducible rfl
          rotate_left
          · simp only [Act.put, List.setIfInBounds_toArray, List.set_cons_zero, List.set_cons_succ, i64_w, i32_w]
            rfl
          refine pure_ (i := 18) (N := some 50) (v := ?_) (a' := ?_) #[true, true, true, true, true, true, true, true, true, true, true, true, true, true, true, true, true, true, true, false] rfl rfl (any_of HT_.out (by kernel_rfl)) (fun _ _ _ h => h) (Or.inl ⟨by rfl, ?_⟩) ?_ ?_
          rotate_left
          · intro w'
            go_simp
            with_reducible rfl
          rotate_left
          · simp only [Act.put, List.setIfInBounds_toArray, List.set_cons_zero, List.set_cons_succ, i64_w, i32_w]
            rfl
          refine pure_ (i := 19) (N := some 4) (v := ?_) (a' := ?_) #[true, true, true, true, true, true, true, true, true, true, true, true, true, true, true, true, true, true, true, true] rfl rfl (any_of HT_.out (by kernel_rfl)) (fun _ _ _ h => h) (Or.inl ⟨by rfl, ?_⟩) ?_ ?_
          rotate_left
          · intro w'
            go_simp
            with_reducible rfl
          rotate_left
          · simp only [Act.put, List.setIfInBounds_toArray, List.set_cons_zero, List.set_cons_succ, i64_w, i32_w]
            rfl
          refine done_ (done_of HT_.out (by kernel_rfl)) ?_
          try go_wp2
          go_ret
          exact ⟨by first | rfl | (simp [errW_none, errW_some] <;> rfl) | (simp [*, errW_none, errW_some] <;> rfl), by repeat (first | (with_reducible first | exact HB.out | apply below_alloc | apply pw_below_drewN | apply below_drew1 | refine below_set ?_ GE648.out | refine below_set ?_ GE655.out | refine below_set ?_ GE664.out | refine below_set ?_ GE670.out) | exact HB.out)⟩
        · rw [if_neg c12] at H
          exact absurd H (by simp)
      · rw [if_neg c11] at H
        exact absurd H (by simp)
    · replace c10 := Bool.eq_false_iff.mpr c10
      subst c10
      have H1 : (none) = some r := by rw [if_neg (show ¬ (false = true) by decide)] at H; exact H
      clear H
      have H := H1
      clear H1
      exact absurd H (by simp)
  · replace c9 := Bool.eq_false_iff.mpr c9
    subst c9
    have H1 : (none) = some r := by rw [if_neg (show ¬ (false = true) by decide)] at H; exact H
    clear H
    have H := H1
    clear H1
    exact absurd H (by simp)
end Go.Proofs.Ytbiijcehgiibeaa.Q

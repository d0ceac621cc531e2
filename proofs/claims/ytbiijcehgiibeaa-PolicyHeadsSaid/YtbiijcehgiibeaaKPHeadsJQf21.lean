/- A text that a program of this session wrote (wip/qprint.py, over the kit's printer): Lean functions with the same answers as Go functions of the program, and proofs that the calls come to these answers; where a function is named in wip/ext, its definition and proof were written by hand. · Proved here: the document's Right answers 0 where a policy may be (Pol.ok), else 40. · Proved here: what the document's answers of layer 2 (Right, Mul, Raise, Times, Power, Join) come to. · Proved here: what chain.Next, chain.Check, links, long and the document's answers of layer 3 come to. · Proved here: what Lent and Kept come to. · Proved here: what the document's Read and Bytes of layer 2, and Owned, come to. · Proved here: the document's Header comes to Pol.header. · Proved here: Owned answers true for any two rows of its own that are not too long. · Proved here: the small case that each statement of layer 4 begins with comes out right. · Proved here: the plain law of PolicyHeads. · Proved here: an argument that is a struct of whole numbers is an aggregate of whole numbers that fit. No program in sight. -/
import Derived.Test.YtbiijcehgiibeaaKPHeadsJFloat
import Derived.Test.YtbiijcehgiibeaaKPHeadsQf39
import Derived.Test.YtbiijcehgiibeaaKPHeadsJQg10
import Derived.Test.YtbiijcehgiibeaaKPHeadsQg11
import Derived.Test.YtbiijcehgiibeaaKPHeadsQf63
import Derived.Test.YtbiijcehgiibeaaKPHeadsJPolg
import Derived.Test.YtbiijcehgiibeaaKPHeadsJQe23
import Derived.Test.YtbiijcehgiibeaaKPHeadsQg3
import Derived.Test.YtbiijcehgiibeaaKPHeadsJSix
import Derived.Test.YtbiijcehgiibeaaKPHeadsQf37
import Derived.LoopN
import Derived.Test.YtbiijcehgiibeaaKPHeadsHp2
import Derived.WalkKit
import Derived.ProofKit
import Derived.OpenShut
namespace Go.Proofs.Ytbiijcehgiibeaa.Q
open Go.RowKit Go.Proofs.YtbiijcehgiibeaaW.PrintWords Go.Proofs.YtbiijcehgiibeaaW.PrintLast Go.Proofs.YtbiijcehgiibeaaW.PrintMore
attribute [local go_sem] max2_int min2_int max_two min_two max_three min_three max_four min_four   -- for this text's walks alone
set_option linter.unusedVariables false
set_option linter.unusedSimpArgs false
def reevelaw04_PolicyHeads.f (k : Nat) (a0_0 : Int) (a0_1 : Int) (a0_2 : Int) (a0_3 : Int) (a0_4 : Int) (a0_5 : Int) (a0_6 : Int) (a0_7 : Int) (a0_8 : Int) (a0_9 : Int) : Option (Bool) := (reevelaw04_awake.f).bind fun t1001 => ((reeveref04_Header.f k a0_0 a0_1 a0_2 a0_3 a0_4 a0_5 a0_6 a0_7 a0_8 a0_9).bind fun bt1002 => ((policy_Header.f a0_0 a0_1 a0_2 a0_3 a0_4 a0_5 a0_6 a0_7 a0_8 a0_9).bind fun bt1006 => ((policy_Header.f a0_0 a0_1 a0_2 a0_3 a0_4 a0_5 a0_6 a0_7 a0_8 a0_9).bind fun bt1010 => ((policy_Right.f a0_0 a0_1 a0_2 a0_3 a0_4 a0_5 a0_6 a0_7 a0_8 a0_9).bind fun t1014 => ((reevelaw02_Same.f k bt1006.1 bt1002.1).bind fun t1015 => ((reevelaw02_Same.f k bt1010.1 bt1002.1).bind fun t1016 => ((reevelaw02_Owned.f k bt1006.1 bt1010.1).bind fun t1017 => (if t1001 = true then (if t1015 = true then (if t1016 = true then (if t1017 = true then (if bt1002.2 = bt1006.2 then (if bt1002.2 = bt1010.2 then ((reeveref04_Right.f k a0_0 a0_1 a0_2 a0_3 a0_4 a0_5 a0_6 a0_7 a0_8 a0_9).bind fun t1018 => (some (t1014 == t1018))) else (none)) else (none)) else (none)) else (none)) else (none)) else (none)))))))))
set_option maxHeartbeats 8000000 in
set_option maxRecDepth 100000 in
theorem reevelaw04_PolicyHeads.calls (k : Nat) (a0_0 : Int) (a0_1 : Int) (a0_2 : Int) (a0_3 : Int) (a0_4 : Int) (a0_5 : Int) (a0_6 : Int) (a0_7 : Int) (a0_8 : Int) (a0_9 : Int) (r : Bool) (w : World) (h : reevelaw04_PolicyHeads.f k a0_0 a0_1 a0_2 a0_3 a0_4 a0_5 a0_6 a0_7 a0_8 a0_9 = some r) :
    Calls Try.prog 21 #[.agg #[.int .i64 a0_0, .int .i64 a0_1, .int .i64 a0_2, .int .i64 a0_3, .int .i64 a0_4, .int .i64 a0_5, .int .i64 a0_6, .int .i64 a0_7, .int .i64 a0_8, .int .i64 a0_9]] w fun e w' => e = .returned (.bool r) ∧ Below w.heap.size w w' := by
  have hu45 := Try.underlying45
  have HB := Aside0.mk (Below.refl w.heap.size w)
  have H : ((reevelaw04_awake.f).bind fun t1001 => ((reeveref04_Header.f k a0_0 a0_1 a0_2 a0_3 a0_4 a0_5 a0_6 a0_7 a0_8 a0_9).bind fun bt1002 => ((policy_Header.f a0_0 a0_1 a0_2 a0_3 a0_4 a0_5 a0_6 a0_7 a0_8 a0_9).bind fun bt1006 => ((policy_Header.f a0_0 a0_1 a0_2 a0_3 a0_4 a0_5 a0_6 a0_7 a0_8 a0_9).bind fun bt1010 => ((policy_Right.f a0_0 a0_1 a0_2 a0_3 a0_4 a0_5 a0_6 a0_7 a0_8 a0_9).bind fun t1014 => ((reevelaw02_Same.f k bt1006.1 bt1002.1).bind fun t1015 => ((reevelaw02_Same.f k bt1010.1 bt1002.1).bind fun t1016 => ((reevelaw02_Owned.f k bt1006.1 bt1010.1).bind fun t1017 => (if t1001 = true then (if t1015 = true then (if t1016 = true then (if t1017 = true then (if bt1002.2 = bt1006.2 then (if bt1002.2 = bt1010.2 then ((reeveref04_Right.f k a0_0 a0_1 a0_2 a0_3 a0_4 a0_5 a0_6 a0_7 a0_8 a0_9).bind fun t1018 => (some (t1014 == t1018))) else (none)) else (none)) else (none)) else (none)) else (none)) else (none)))))))))) = some r := h
  clear h
  replace H := Option.bind_eq_some_iff.mp H
  obtain ⟨t1001, A20, H⟩ := H
  replace H : ((reeveref04_Header.f k a0_0 a0_1 a0_2 a0_3 a0_4 a0_5 a0_6 a0_7 a0_8 a0_9).bind fun bt1002 => ((policy_Header.f a0_0 a0_1 a0_2 a0_3 a0_4 a0_5 a0_6 a0_7 a0_8 a0_9).bind fun bt1006 => ((policy_Header.f a0_0 a0_1 a0_2 a0_3 a0_4 a0_5 a0_6 a0_7 a0_8 a0_9).bind fun bt1010 => ((policy_Right.f a0_0 a0_1 a0_2 a0_3 a0_4 a0_5 a0_6 a0_7 a0_8 a0_9).bind fun t1014 => ((reevelaw02_Same.f k bt1006.1 bt1002.1).bind fun t1015 => ((reevelaw02_Same.f k bt1010.1 bt1002.1).bind fun t1016 => ((reevelaw02_Owned.f k bt1006.1 bt1010.1).bind fun t1017 => (if t1001 = true then (if t1015 = true then (if t1016 = true then (if t1017 = true then (if bt1002.2 = bt1006.2 then (if bt1002.2 = bt1010.2 then ((reeveref04_Right.f k a0_0 a0_1 a0_2 a0_3 a0_4 a0_5 a0_6 a0_7 a0_8 a0_9).bind fun t1018 => (some (t1014 == t1018))) else (none)) else (none)) else (none)) else (none)) else (none)) else (none))))))))) = some r := H
  have A2 := Aside0.mk A20
  clear A20
  replace H := Option.bind_eq_some_iff.mp H
  obtain ⟨⟨t1002, t1005⟩, A30, H⟩ := H
  replace H : ((policy_Header.f a0_0 a0_1 a0_2 a0_3 a0_4 a0_5 a0_6 a0_7 a0_8 a0_9).bind fun bt1006 => ((policy_Header.f a0_0 a0_1 a0_2 a0_3 a0_4 a0_5 a0_6 a0_7 a0_8 a0_9).bind fun bt1010 => ((policy_Right.f a0_0 a0_1 a0_2 a0_3 a0_4 a0_5 a0_6 a0_7 a0_8 a0_9).bind fun t1014 => ((reevelaw02_Same.f k bt1006.1 t1002).bind fun t1015 => ((reevelaw02_Same.f k bt1010.1 t1002).bind fun t1016 => ((reevelaw02_Owned.f k bt1006.1 bt1010.1).bind fun t1017 => (if t1001 = true then (if t1015 = true then (if t1016 = true then (if t1017 = true then (if t1005 = bt1006.2 then (if t1005 = bt1010.2 then ((reeveref04_Right.f k a0_0 a0_1 a0_2 a0_3 a0_4 a0_5 a0_6 a0_7 a0_8 a0_9).bind fun t1018 => (some (t1014 == t1018))) else (none)) else (none)) else (none)) else (none)) else (none)) else (none)))))))) = some r := H
  have A3 := Aside0.mk A30
  clear A30
  replace H := Option.bind_eq_some_iff.mp H
  obtain ⟨⟨t1006, t1009⟩, A40, H⟩ := H
  replace H : ((policy_Header.f a0_0 a0_1 a0_2 a0_3 a0_4 a0_5 a0_6 a0_7 a0_8 a0_9).bind fun bt1010 => ((policy_Right.f a0_0 a0_1 a0_2 a0_3 a0_4 a0_5 a0_6 a0_7 a0_8 a0_9).bind fun t1014 => ((reevelaw02_Same.f k t1006 t1002).bind fun t1015 => ((reevelaw02_Same.f k bt1010.1 t1002).bind fun t1016 => ((reevelaw02_Owned.f k t1006 bt1010.1).bind fun t1017 => (if t1001 = true then (if t1015 = true then (if t1016 = true then (if t1017 = true then (if t1005 = t1009 then (if t1005 = bt1010.2 then ((reeveref04_Right.f k a0_0 a0_1 a0_2 a0_3 a0_4 a0_5 a0_6 a0_7 a0_8 a0_9).bind fun t1018 => (some (t1014 == t1018))) else (none)) else (none)) else (none)) else (none)) else (none)) else (none))))))) = some r := H
  have A4 := Aside0.mk A40
  clear A40
  replace H := Option.bind_eq_some_iff.mp H
  obtain ⟨⟨t1010, t1013⟩, A50, H⟩ := H
  replace H : ((policy_Right.f a0_0 a0_1 a0_2 a0_3 a0_4 a0_5 a0_6 a0_7 a0_8 a0_9).bind fun t1014 => ((reevelaw02_Same.f k t1006 t1002).bind fun t1015 => ((reevelaw02_Same.f k t1010 t1002).bind fun t1016 => ((reevelaw02_Owned.f k t1006 t1010).bind fun t1017 => (if t1001 = true then (if t1015 = true then (if t1016 = true then (if t1017 = true then (if t1005 = t1009 then (if t1005 = t1013 then ((reeveref04_Right.f k a0_0 a0_1 a0_2 a0_3 a0_4 a0_5 a0_6 a0_7 a0_8 a0_9).bind fun t1018 => (some (t1014 == t1018))) else (none)) else (none)) else (none)) else (none)) else (none)) else (none)))))) = some r := H
  have A5 := Aside0.mk A50
  clear A50
  replace H := Option.bind_eq_some_iff.mp H
  obtain ⟨t1014, A60, H⟩ := H
  replace H : ((reevelaw02_Same.f k t1006 t1002).bind fun t1015 => ((reevelaw02_Same.f k t1010 t1002).bind fun t1016 => ((reevelaw02_Owned.f k t1006 t1010).bind fun t1017 => (if t1001 = true then (if t1015 = true then (if t1016 = true then (if t1017 = true then (if t1005 = t1009 then (if t1005 = t1013 then ((reeveref04_Right.f k a0_0 a0_1 a0_2 a0_3 a0_4 a0_5 a0_6 a0_7 a0_8 a0_9).bind fun t1018 => (some (t1014 == t1018))) else (none)) else (none)) else (none)) else (none)) else (none)) else (none))))) = some r := H
  have A6 := Aside0.mk A60
  clear A60
  replace H := Option.bind_eq_some_iff.mp H
  obtain ⟨t1015, A70, H⟩ := H
  replace H : ((reevelaw02_Same.f k t1010 t1002).bind fun t1016 => ((reevelaw02_Owned.f k t1006 t1010).bind fun t1017 => (if t1001 = true then (if t1015 = true then (if t1016 = true then (if t1017 = true then (if t1005 = t1009 then (if t1005 = t1013 then ((reeveref04_Right.f k a0_0 a0_1 a0_2 a0_3 a0_4 a0_5 a0_6 a0_7 a0_8 a0_9).bind fun t1018 => (some (t1014 == t1018))) else (none)) else (none)) else (none)) else (none)) else (none)) else (none)))) = some r := H
  have A7 := Aside0.mk A70
  clear A70
  replace H := Option.bind_eq_some_iff.mp H
  obtain ⟨t1016, A80, H⟩ := H
  replace H : ((reevelaw02_Owned.f k t1006 t1010).bind fun t1017 => (if t1001 = true then (if t1015 = true then (if t1016 = true then (if t1017 = true then (if t1005 = t1009 then (if t1005 = t1013 then ((reeveref04_Right.f k a0_0 a0_1 a0_2 a0_3 a0_4 a0_5 a0_6 a0_7 a0_8 a0_9).bind fun t1018 => (some (t1014 == t1018))) else (none)) else (none)) else (none)) else (none)) else (none)) else (none))) = some r := H
  have A8 := Aside0.mk A80
  clear A80
  replace H := Option.bind_eq_some_iff.mp H
  obtain ⟨t1017, A90, H⟩ := H
  replace H : (if t1001 = true then (if t1015 = true then (if t1016 = true then (if t1017 = true then (if t1005 = t1009 then (if t1005 = t1013 then ((reeveref04_Right.f k a0_0 a0_1 a0_2 a0_3 a0_4 a0_5 a0_6 a0_7 a0_8 a0_9).bind fun t1018 => (some (t1014 == t1018))) else (none)) else (none)) else (none)) else (none)) else (none)) else (none)) = some r := H
  have A9 := Aside0.mk A90
  clear A90
  by_cases c10 : t1001 = true
  · subst c10
    have H1 : (if t1015 = true then (if t1016 = true then (if t1017 = true then (if t1005 = t1009 then (if t1005 = t1013 then ((reeveref04_Right.f k a0_0 a0_1 a0_2 a0_3 a0_4 a0_5 a0_6 a0_7 a0_8 a0_9).bind fun t1018 => (some (t1014 == t1018))) else (none)) else (none)) else (none)) else (none)) else (none)) = some r := by rw [if_pos rfl] at H; exact H
    clear H
    have H := H1
    clear H1
    by_cases c11 : t1015 = true
    · subst c11
      have H1 : (if t1016 = true then (if t1017 = true then (if t1005 = t1009 then (if t1005 = t1013 then ((reeveref04_Right.f k a0_0 a0_1 a0_2 a0_3 a0_4 a0_5 a0_6 a0_7 a0_8 a0_9).bind fun t1018 => (some (t1014 == t1018))) else (none)) else (none)) else (none)) else (none)) = some r := by rw [if_pos rfl] at H; exact H
      clear H
      have H := H1
      clear H1
      by_cases c12 : t1016 = true
      · subst c12
        have H1 : (if t1017 = true then (if t1005 = t1009 then (if t1005 = t1013 then ((reeveref04_Right.f k a0_0 a0_1 a0_2 a0_3 a0_4 a0_5 a0_6 a0_7 a0_8 a0_9).bind fun t1018 => (some (t1014 == t1018))) else (none)) else (none)) else (none)) = some r := by rw [if_pos rfl] at H; exact H
        clear H
        have H := H1
        clear H1
        by_cases c13 : t1017 = true
        · subst c13
          have H1 : (if t1005 = t1009 then (if t1005 = t1013 then ((reeveref04_Right.f k a0_0 a0_1 a0_2 a0_3 a0_4 a0_5 a0_6 a0_7 a0_8 a0_9).bind fun t1018 => (some (t1014 == t1018))) else (none)) else (none)) = some r := by rw [if_pos rfl] at H; exact H
          clear H
          have H := H1
          clear H1
          by_cases c14 : t1005 = t1009
          · rw [if_pos c14] at H
            have c14b0 : (t1005 == t1009) = true := beq_iff_eq.mpr c14
            have c14b1 : (t1005 != t1009) = false := bne_eq_false_iff_eq.mpr c14
            clear c14
            by_cases c15 : t1005 = t1013
            · rw [if_pos c15] at H
              have c15b0 : (t1005 == t1013) = true := beq_iff_eq.mpr c15
              have c15b1 : (t1005 != t1013) = false := bne_eq_false_iff_eq.mpr c15
              clear c15
              replace H := Option.bind_eq_some_iff.mp H
              obtain ⟨t1018, A160, H⟩ := H
              replace H : (some (t1014 == t1018)) = some r := H
              have A16 := Aside0.mk A160
              clear A160
              obtain rfl := Option.some.inj H
              go_enter Try.func21, Try.ntmps21
              go_wp2_with (first | ((with_reducible refine gate_dst (N := 1) rfl ?_); refine box_event ?hg (N := 1) ?hd (cs := #[.int .i64 a0_0, .int .i64 a0_1, .int .i64 a0_2, .int .i64 a0_3, .int .i64 a0_4, .int .i64 a0_5, .int .i64 a0_6, .int .i64 a0_7, .int .i64 a0_8, .int .i64 a0_9]) (t := 45) ?hr ?_; (case hd => rfl); (case hg => rfl); (case hr => first | (go_simp; done) | (go_simp; rfl)); intro gb1000 hg w17 hbox hb; have n0_ := Aside0.mk (below_step (by repeat (first | (with_reducible first | exact HB.out | apply below_alloc | apply pw_below_drewN | apply below_drew1) | exact HB.out)) hb); have n1_ := Aside0.mk (hbox); have n2_ := Aside0.mk ((by rw [hg]; exact (below_size (by repeat (first | (with_reducible first | exact HB.out | apply below_alloc | apply pw_below_drewN | apply below_drew1) | exact HB.out))) : w.heap.size ≤ gb1000)); have n3_ := Aside0.mk ((by rw [hg]; exact (below_size (by repeat (first | (with_reducible first | exact HB.out | apply below_alloc | apply pw_below_drewN | apply below_drew1) | exact HB.out))) : w.heap.size ≤ gb1000)); clear HB; have HB := n0_; have BK1000 := n1_; have GW1000 := n2_; have GE1000 := n3_; clear n0_ n1_ n2_ n3_; clear hb hbox hg) | ((with_reducible refine gate_callee (f := 41) rfl ?_); refine goesL_ (some 14) rfl rfl Try.func41 (by kernel_rfl) rfl #[] rfl (by (try simp only [List.map_toArray, List.map_cons, List.map_nil]); first | done | rfl | (simp only [List.length_drop, List.length_take]; rfl)) ?_; (with_reducible refine (reevelaw04_awake.calls  true _ A2.out).mono ?_); rintro e w18 ⟨rfl, hb⟩; refine ⟨_, rfl, ?_⟩; have n0_ := Aside0.mk (blk_below (g := gb1000) (o := .cells #[.int .i64 a0_0, .int .i64 a0_1, .int .i64 a0_2, .int .i64 a0_3, .int .i64 a0_4, .int .i64 a0_5, .int .i64 a0_6, .int .i64 a0_7, .int .i64 a0_8, .int .i64 a0_9] 45 (0, 0)) (by (with_reducible repeat (first | refine blk_drewN ?_ _ | refine blk_drew ?_ | refine blk_alloc ?_ _)); exact BK1000.out) hb); have n1_ := Aside0.mk (below_step (by repeat (first | (with_reducible first | exact HB.out | apply below_alloc | apply pw_below_drewN | apply below_drew1 | refine below_set ?_ GE1000.out) | exact HB.out)) hb); clear BK1000; clear HB; have BK1000 := n0_; have HB := n1_; clear n0_ n1_; (try clear hb); (try clear hb2); (try clear hk); (try clear hi); have hcz19_0 : w18.cell? ⟨gb1000, 0, none⟩ = some (.int .i64 a0_0) := (blk_cell BK1000.out 0).trans rfl; have hcz19_1 : w18.cell? ⟨gb1000, 1, none⟩ = some (.int .i64 a0_1) := (blk_cell BK1000.out 1).trans rfl; have hcz19_2 : w18.cell? ⟨gb1000, 2, none⟩ = some (.int .i64 a0_2) := (blk_cell BK1000.out 2).trans rfl; have hcz19_3 : w18.cell? ⟨gb1000, 3, none⟩ = some (.int .i64 a0_3) := (blk_cell BK1000.out 3).trans rfl; have hcz19_4 : w18.cell? ⟨gb1000, 4, none⟩ = some (.int .i64 a0_4) := (blk_cell BK1000.out 4).trans rfl; have hcz19_5 : w18.cell? ⟨gb1000, 5, none⟩ = some (.int .i64 a0_5) := (blk_cell BK1000.out 5).trans rfl; have hcz19_6 : w18.cell? ⟨gb1000, 6, none⟩ = some (.int .i64 a0_6) := (blk_cell BK1000.out 6).trans rfl; have hcz19_7 : w18.cell? ⟨gb1000, 7, none⟩ = some (.int .i64 a0_7) := (blk_cell BK1000.out 7).trans rfl; have hcz19_8 : w18.cell? ⟨gb1000, 8, none⟩ = some (.int .i64 a0_8) := (blk_cell BK1000.out 8).trans rfl; have hcz19_9 : w18.cell? ⟨gb1000, 9, none⟩ = some (.int .i64 a0_9) := (blk_cell BK1000.out 9).trans rfl; have hfz19_0 := blk_frozen BK1000.out 0; have hfz19_1 := blk_frozen BK1000.out 1; have hfz19_2 := blk_frozen BK1000.out 2; have hfz19_3 := blk_frozen BK1000.out 3; have hfz19_4 := blk_frozen BK1000.out 4; have hfz19_5 := blk_frozen BK1000.out 5; have hfz19_6 := blk_frozen BK1000.out 6; have hfz19_7 := blk_frozen BK1000.out 7; have hfz19_8 := blk_frozen BK1000.out 8; have hfz19_9 := blk_frozen BK1000.out 9) | ((with_reducible refine gate_callee (f := 63) rfl ?_); refine goesL_ (some 17) rfl rfl Try.func63 (by kernel_rfl) rfl #[.agg #[.int .i64 a0_0, .int .i64 a0_1, .int .i64 a0_2, .int .i64 a0_3, .int .i64 a0_4, .int .i64 a0_5, .int .i64 a0_6, .int .i64 a0_7, .int .i64 a0_8, .int .i64 a0_9]] rfl (by (try simp only [List.map_toArray, List.map_cons, List.map_nil]); first | done | rfl | (simp only [List.length_drop, List.length_take]; rfl)) ?_; (with_reducible refine (reeveref04_Header.calls k a0_0 a0_1 a0_2 a0_3 a0_4 a0_5 a0_6 a0_7 a0_8 a0_9 t1002 t1005 _ A3.out).mono ?_); rintro e w20 ⟨v1003, rfl, ho0, hb⟩; refine ⟨_, rfl, ?_⟩; have n0_ := Aside0.mk (Kd.R_lower ho0 (below_size (by repeat (first | (with_reducible first | exact HB.out | apply below_alloc | apply pw_below_drewN | apply below_drew1 | refine below_set ?_ GE1000.out) | exact HB.out)))); have n1_ := Aside0.mk (blk_below (g := gb1000) (o := .cells #[.int .i64 a0_0, .int .i64 a0_1, .int .i64 a0_2, .int .i64 a0_3, .int .i64 a0_4, .int .i64 a0_5, .int .i64 a0_6, .int .i64 a0_7, .int .i64 a0_8, .int .i64 a0_9] 45 (0, 0)) (by (with_reducible repeat (first | refine blk_drewN ?_ _ | refine blk_drew ?_ | refine blk_alloc ?_ _)); exact BK1000.out) hb); have n2_ := Aside0.mk (below_step (by repeat (first | (with_reducible first | exact HB.out | apply below_alloc | apply pw_below_drewN | apply below_drew1 | refine below_set ?_ GE1000.out) | exact HB.out)) hb); clear BK1000; clear HB; have HO1004 := n0_; have BK1000 := n1_; have HB := n2_; clear n0_ n1_ n2_; (try clear hb); (try clear hb2); (try clear hk); (try clear hi); (try clear ho0); have hcz21_0 : w20.cell? ⟨gb1000, 0, none⟩ = some (.int .i64 a0_0) := (blk_cell BK1000.out 0).trans rfl; have hcz21_1 : w20.cell? ⟨gb1000, 1, none⟩ = some (.int .i64 a0_1) := (blk_cell BK1000.out 1).trans rfl; have hcz21_2 : w20.cell? ⟨gb1000, 2, none⟩ = some (.int .i64 a0_2) := (blk_cell BK1000.out 2).trans rfl; have hcz21_3 : w20.cell? ⟨gb1000, 3, none⟩ = some (.int .i64 a0_3) := (blk_cell BK1000.out 3).trans rfl; have hcz21_4 : w20.cell? ⟨gb1000, 4, none⟩ = some (.int .i64 a0_4) := (blk_cell BK1000.out 4).trans rfl; have hcz21_5 : w20.cell? ⟨gb1000, 5, none⟩ = some (.int .i64 a0_5) := (blk_cell BK1000.out 5).trans rfl; have hcz21_6 : w20.cell? ⟨gb1000, 6, none⟩ = some (.int .i64 a0_6) := (blk_cell BK1000.out 6).trans rfl; have hcz21_7 : w20.cell? ⟨gb1000, 7, none⟩ = some (.int .i64 a0_7) := (blk_cell BK1000.out 7).trans rfl; have hcz21_8 : w20.cell? ⟨gb1000, 8, none⟩ = some (.int .i64 a0_8) := (blk_cell BK1000.out 8).trans rfl; have hcz21_9 : w20.cell? ⟨gb1000, 9, none⟩ = some (.int .i64 a0_9) := (blk_cell BK1000.out 9).trans rfl; have hfz21_0 := blk_frozen BK1000.out 0; have hfz21_1 := blk_frozen BK1000.out 1; have hfz21_2 := blk_frozen BK1000.out 2; have hfz21_3 := blk_frozen BK1000.out 3; have hfz21_4 := blk_frozen BK1000.out 4; have hfz21_5 := blk_frozen BK1000.out 5; have hfz21_6 := blk_frozen BK1000.out 6; have hfz21_7 := blk_frozen BK1000.out 7; have hfz21_8 := blk_frozen BK1000.out 8; have hfz21_9 := blk_frozen BK1000.out 9) | ((with_reducible refine gate_callee (f := 42) rfl ?_); refine goesL_ (some 22) rfl rfl Try.func42 (by kernel_rfl) rfl #[.agg #[.int .i64 a0_0, .int .i64 a0_1, .int .i64 a0_2, .int .i64 a0_3, .int .i64 a0_4, .int .i64 a0_5, .int .i64 a0_6, .int .i64 a0_7, .int .i64 a0_8, .int .i64 a0_9]] rfl (by (try simp only [List.map_toArray, List.map_cons, List.map_nil]); first | done | rfl | (simp only [List.length_drop, List.length_take]; rfl)) ?_; (with_reducible refine (policy_Header.calls a0_0 a0_1 a0_2 a0_3 a0_4 a0_5 a0_6 a0_7 a0_8 a0_9 t1006 t1009 _ A4.out).mono ?_); rintro e w22 ⟨v1007, rfl, ho0, hb⟩; refine ⟨_, rfl, ?_⟩; have n0_ := Aside0.mk (Kd.R_elder' (by (with_reducible repeat (first | apply Kd.R_alloc | apply Kd.R_drewN | apply Kd.R_drew)); exact HO1004.out) (Kd.R_base ho0) hb); have n1_ := Aside0.mk (Kd.R_lower (Kd.R_new' ho0 (Kd.R_lt (by (with_reducible repeat (first | apply Kd.R_alloc | apply Kd.R_drewN | apply Kd.R_drew)); exact HO1004.out))) (below_size (by repeat (first | (with_reducible first | exact HB.out | apply below_alloc | apply pw_below_drewN | apply below_drew1 | refine below_set ?_ GE1000.out) | exact HB.out)))); have n2_ := Aside0.mk (blk_below (g := gb1000) (o := .cells #[.int .i64 a0_0, .int .i64 a0_1, .int .i64 a0_2, .int .i64 a0_3, .int .i64 a0_4, .int .i64 a0_5, .int .i64 a0_6, .int .i64 a0_7, .int .i64 a0_8, .int .i64 a0_9] 45 (0, 0)) (by (with_reducible repeat (first | refine blk_drewN ?_ _ | refine blk_drew ?_ | refine blk_alloc ?_ _)); exact BK1000.out) hb); have n3_ := Aside0.mk (below_step (by repeat (first | (with_reducible first | exact HB.out | apply below_alloc | apply pw_below_drewN | apply below_drew1 | refine below_set ?_ GE1000.out) | exact HB.out)) hb); clear HO1004; clear BK1000; clear HB; have HO1004 := n0_; have HO1008 := n1_; have BK1000 := n2_; have HB := n3_; clear n0_ n1_ n2_ n3_; (try clear hb); (try clear hb2); (try clear hk); (try clear hi); (try clear ho0); have hcz23_0 : w22.cell? ⟨gb1000, 0, none⟩ = some (.int .i64 a0_0) := (blk_cell BK1000.out 0).trans rfl; have hcz23_1 : w22.cell? ⟨gb1000, 1, none⟩ = some (.int .i64 a0_1) := (blk_cell BK1000.out 1).trans rfl; have hcz23_2 : w22.cell? ⟨gb1000, 2, none⟩ = some (.int .i64 a0_2) := (blk_cell BK1000.out 2).trans rfl; have hcz23_3 : w22.cell? ⟨gb1000, 3, none⟩ = some (.int .i64 a0_3) := (blk_cell BK1000.out 3).trans rfl; have hcz23_4 : w22.cell? ⟨gb1000, 4, none⟩ = some (.int .i64 a0_4) := (blk_cell BK1000.out 4).trans rfl; have hcz23_5 : w22.cell? ⟨gb1000, 5, none⟩ = some (.int .i64 a0_5) := (blk_cell BK1000.out 5).trans rfl; have hcz23_6 : w22.cell? ⟨gb1000, 6, none⟩ = some (.int .i64 a0_6) := (blk_cell BK1000.out 6).trans rfl; have hcz23_7 : w22.cell? ⟨gb1000, 7, none⟩ = some (.int .i64 a0_7) := (blk_cell BK1000.out 7).trans rfl; have hcz23_8 : w22.cell? ⟨gb1000, 8, none⟩ = some (.int .i64 a0_8) := (blk_cell BK1000.out 8).trans rfl; have hcz23_9 : w22.cell? ⟨gb1000, 9, none⟩ = some (.int .i64 a0_9) := (blk_cell BK1000.out 9).trans rfl; have hfz23_0 := blk_frozen BK1000.out 0; have hfz23_1 := blk_frozen BK1000.out 1; have hfz23_2 := blk_frozen BK1000.out 2; have hfz23_3 := blk_frozen BK1000.out 3; have hfz23_4 := blk_frozen BK1000.out 4; have hfz23_5 := blk_frozen BK1000.out 5; have hfz23_6 := blk_frozen BK1000.out 6; have hfz23_7 := blk_frozen BK1000.out 7; have hfz23_8 := blk_frozen BK1000.out 8; have hfz23_9 := blk_frozen BK1000.out 9) | ((with_reducible refine gate_callee (f := 42) rfl ?_); refine goesL_ (some 27) rfl rfl Try.func42 (by kernel_rfl) rfl #[.agg #[.int .i64 a0_0, .int .i64 a0_1, .int .i64 a0_2, .int .i64 a0_3, .int .i64 a0_4, .int .i64 a0_5, .int .i64 a0_6, .int .i64 a0_7, .int .i64 a0_8, .int .i64 a0_9]] rfl (by (try simp only [List.map_toArray, List.map_cons, List.map_nil]); first | done | rfl | (simp only [List.length_drop, List.length_take]; rfl)) ?_; (with_reducible refine (policy_Header.calls a0_0 a0_1 a0_2 a0_3 a0_4 a0_5 a0_6 a0_7 a0_8 a0_9 t1010 t1013 _ A5.out).mono ?_); rintro e w24 ⟨v1011, rfl, ho0, hb⟩; refine ⟨_, rfl, ?_⟩; have n0_ := Aside0.mk (Kd.R_elder' (by (with_reducible repeat (first | apply Kd.R_alloc | apply Kd.R_drewN | apply Kd.R_drew)); exact HO1004.out) (Kd.R_base ho0) hb); have n1_ := Aside0.mk (Kd.R_elder' (by (with_reducible repeat (first | apply Kd.R_alloc | apply Kd.R_drewN | apply Kd.R_drew)); exact HO1008.out) (Kd.R_base ho0) hb); have n2_ := Aside0.mk (Kd.R_lower (Kd.R_new' (Kd.R_new' ho0 (Kd.R_lt (by (with_reducible repeat (first | apply Kd.R_alloc | apply Kd.R_drewN | apply Kd.R_drew)); exact HO1004.out))) (Kd.R_lt (by (with_reducible repeat (first | apply Kd.R_alloc | apply Kd.R_drewN | apply Kd.R_drew)); exact HO1008.out))) (below_size (by repeat (first | (with_reducible first | exact HB.out | apply below_alloc | apply pw_below_drewN | apply below_drew1 | refine below_set ?_ GE1000.out) | exact HB.out)))); have n3_ := Aside0.mk (blk_below (g := gb1000) (o := .cells #[.int .i64 a0_0, .int .i64 a0_1, .int .i64 a0_2, .int .i64 a0_3, .int .i64 a0_4, .int .i64 a0_5, .int .i64 a0_6, .int .i64 a0_7, .int .i64 a0_8, .int .i64 a0_9] 45 (0, 0)) (by (with_reducible repeat (first | refine blk_drewN ?_ _ | refine blk_drew ?_ | refine blk_alloc ?_ _)); exact BK1000.out) hb); have n4_ := Aside0.mk (below_step (by repeat (first | (with_reducible first | exact HB.out | apply below_alloc | apply pw_below_drewN | apply below_drew1 | refine below_set ?_ GE1000.out) | exact HB.out)) hb); clear HO1004; clear HO1008; clear BK1000; clear HB; have HO1004 := n0_; have HO1008 := n1_; have HO1012 := n2_; have BK1000 := n3_; have HB := n4_; clear n0_ n1_ n2_ n3_ n4_; (try clear hb); (try clear hb2); (try clear hk); (try clear hi); (try clear ho0); have hcz25_0 : w24.cell? ⟨gb1000, 0, none⟩ = some (.int .i64 a0_0) := (blk_cell BK1000.out 0).trans rfl; have hcz25_1 : w24.cell? ⟨gb1000, 1, none⟩ = some (.int .i64 a0_1) := (blk_cell BK1000.out 1).trans rfl; have hcz25_2 : w24.cell? ⟨gb1000, 2, none⟩ = some (.int .i64 a0_2) := (blk_cell BK1000.out 2).trans rfl; have hcz25_3 : w24.cell? ⟨gb1000, 3, none⟩ = some (.int .i64 a0_3) := (blk_cell BK1000.out 3).trans rfl; have hcz25_4 : w24.cell? ⟨gb1000, 4, none⟩ = some (.int .i64 a0_4) := (blk_cell BK1000.out 4).trans rfl; have hcz25_5 : w24.cell? ⟨gb1000, 5, none⟩ = some (.int .i64 a0_5) := (blk_cell BK1000.out 5).trans rfl; have hcz25_6 : w24.cell? ⟨gb1000, 6, none⟩ = some (.int .i64 a0_6) := (blk_cell BK1000.out 6).trans rfl; have hcz25_7 : w24.cell? ⟨gb1000, 7, none⟩ = some (.int .i64 a0_7) := (blk_cell BK1000.out 7).trans rfl; have hcz25_8 : w24.cell? ⟨gb1000, 8, none⟩ = some (.int .i64 a0_8) := (blk_cell BK1000.out 8).trans rfl; have hcz25_9 : w24.cell? ⟨gb1000, 9, none⟩ = some (.int .i64 a0_9) := (blk_cell BK1000.out 9).trans rfl; have hfz25_0 := blk_frozen BK1000.out 0; have hfz25_1 := blk_frozen BK1000.out 1; have hfz25_2 := blk_frozen BK1000.out 2; have hfz25_3 := blk_frozen BK1000.out 3; have hfz25_4 := blk_frozen BK1000.out 4; have hfz25_5 := blk_frozen BK1000.out 5; have hfz25_6 := blk_frozen BK1000.out 6; have hfz25_7 := blk_frozen BK1000.out 7; have hfz25_8 := blk_frozen BK1000.out 8; have hfz25_9 := blk_frozen BK1000.out 9) | ((with_reducible refine gate_callee (f := 64) rfl ?_); refine goesL_ (some 31) rfl rfl Try.func64 (by kernel_rfl) rfl #[.agg #[.int .i64 a0_0, .int .i64 a0_1, .int .i64 a0_2, .int .i64 a0_3, .int .i64 a0_4, .int .i64 a0_5, .int .i64 a0_6, .int .i64 a0_7, .int .i64 a0_8, .int .i64 a0_9]] rfl (by (try simp only [List.map_toArray, List.map_cons, List.map_nil]); first | done | rfl | (simp only [List.length_drop, List.length_take]; rfl)) ?_; (with_reducible refine (policy_Right.calls a0_0 a0_1 a0_2 a0_3 a0_4 a0_5 a0_6 a0_7 a0_8 a0_9 t1014 _ A6.out).mono ?_); rintro e w26 ⟨rfl, hb⟩; refine ⟨_, rfl, ?_⟩; have n0_ := Aside0.mk (Kd.R_below (by (with_reducible repeat (first | apply Kd.R_alloc | apply Kd.R_drewN | apply Kd.R_drew)); exact HO1004.out) hb); have n1_ := Aside0.mk (Kd.R_below (by (with_reducible repeat (first | apply Kd.R_alloc | apply Kd.R_drewN | apply Kd.R_drew)); exact HO1008.out) hb); have n2_ := Aside0.mk (Kd.R_below (by (with_reducible repeat (first | apply Kd.R_alloc | apply Kd.R_drewN | apply Kd.R_drew)); exact HO1012.out) hb); have n3_ := Aside0.mk (blk_below (g := gb1000) (o := .cells #[.int .i64 a0_0, .int .i64 a0_1, .int .i64 a0_2, .int .i64 a0_3, .int .i64 a0_4, .int .i64 a0_5, .int .i64 a0_6, .int .i64 a0_7, .int .i64 a0_8, .int .i64 a0_9] 45 (0, 0)) (by (with_reducible repeat (first | refine blk_drewN ?_ _ | refine blk_drew ?_ | refine blk_alloc ?_ _)); exact BK1000.out) hb); have n4_ := Aside0.mk (below_step (by repeat (first | (with_reducible first | exact HB.out | apply below_alloc | apply pw_below_drewN | apply below_drew1 | refine below_set ?_ GE1000.out) | exact HB.out)) hb); clear HO1004; clear HO1008; clear HO1012; clear BK1000; clear HB; have HO1004 := n0_; have HO1008 := n1_; have HO1012 := n2_; have BK1000 := n3_; have HB := n4_; clear n0_ n1_ n2_ n3_ n4_; (try clear hb); (try clear hb2); (try clear hk); (try clear hi); obtain ⟨Ao27, co27, eo27⟩ := Kd.R_slice HO1008.out; subst eo27; obtain ⟨Ao28, co28, eo28⟩ := Kd.R_slice HO1004.out; subst eo28) | ((with_reducible refine gate_callee (f := 38) rfl ?_); refine goesL_ (some 34) rfl rfl Try.func38 (by kernel_rfl) rfl #[.slice Ao27 t1006.length co27, .slice Ao28 t1002.length co28] rfl (by (try simp only [List.map_toArray, List.map_cons, List.map_nil]); first | done | rfl | (simp only [List.length_drop, List.length_take]; rfl)) ?_; (with_reducible refine (reevelaw02_Same.calls k _ _ t1006 _ _ t1002 true _ ?side1 ?side2 ?side3 ?side4 A7.out).mono ?_); (case side1 => repeat (first | exact (Kd.R_reads' HO1008.out).2.2 | (with_reducible refine Kd.C_alloc ?_ _) | (with_reducible refine Kd.C_drewN ?_ _) | (with_reducible refine Kd.C_drew ?_))); (case side2 => exact (Kd.R_reads' HO1008.out).2.1); (case side3 => repeat (first | exact (Kd.R_reads' HO1004.out).2.2 | (with_reducible refine Kd.C_alloc ?_ _) | (with_reducible refine Kd.C_drewN ?_ _) | (with_reducible refine Kd.C_drew ?_))); (case side4 => exact (Kd.R_reads' HO1004.out).2.1); rintro e w' ⟨rfl, ⟨nd, rfl⟩⟩; refine ⟨_, rfl, ?_⟩; obtain ⟨Ao29, co29, eo29⟩ := Kd.R_slice HO1012.out; subst eo29) | ((with_reducible refine gate_callee (f := 38) rfl ?_); refine goesL_ (some 37) rfl rfl Try.func38 (by kernel_rfl) rfl #[.slice Ao29 t1010.length co29, .slice Ao28 t1002.length co28] rfl (by (try simp only [List.map_toArray, List.map_cons, List.map_nil]); first | done | rfl | (simp only [List.length_drop, List.length_take]; rfl)) ?_; (with_reducible refine (reevelaw02_Same.calls k _ _ t1010 _ _ t1002 true _ ?side1 ?side2 ?side3 ?side4 A8.out).mono ?_); (case side1 => repeat (first | exact (Kd.R_reads' HO1012.out).2.2 | (with_reducible refine Kd.C_alloc ?_ _) | (with_reducible refine Kd.C_drewN ?_ _) | (with_reducible refine Kd.C_drew ?_))); (case side2 => exact (Kd.R_reads' HO1012.out).2.1); (case side3 => repeat (first | exact (Kd.R_reads' HO1004.out).2.2 | (with_reducible refine Kd.C_alloc ?_ _) | (with_reducible refine Kd.C_drewN ?_ _) | (with_reducible refine Kd.C_drew ?_))); (case side4 => exact (Kd.R_reads' HO1004.out).2.1); rintro e w' ⟨rfl, ⟨nd, rfl⟩⟩; refine ⟨_, rfl, ?_⟩) | ((with_reducible refine gate_callee (f := 39) rfl ?_); refine goesL_ (some 40) rfl rfl Try.func39 (by kernel_rfl) rfl #[.slice Ao27 t1006.length co27, .slice Ao29 t1010.length co29] rfl (by (try simp only [List.map_toArray, List.map_cons, List.map_nil]); first | done | rfl | (simp only [List.length_drop, List.length_take]; rfl)) ?_; (with_reducible refine (reevelaw02_Owned.calls k (fun k_ => some k_ = (.slice Ao27 t1006.length co27 : Value).ownBlock) (.slice Ao27 t1006.length co27) t1006 (fun k_ => some k_ = (.slice Ao29 t1010.length co29 : Value).ownBlock) (.slice Ao29 t1010.length co29) t1010 true w _ ?side1 ?side2 ?side3 ?side4 ?side5 A9.out).mono ?_); (case side1 => repeat (first | (with_reducible first | exact HB.out | apply below_alloc | apply pw_below_drewN | apply below_drew1 | refine below_set ?_ GE1000.out) | exact HB.out)); (case side2 => exact Kd.R_tight rfl HO1008.out); (case side3 => exact fun k_ e_ => (HO1008.out.1 k_ e_.symm).2); (case side4 => exact Kd.R_tight rfl HO1012.out); (case side5 => exact fun k_ e_ => (HO1012.out.1 k_ e_.symm).2); rintro e w30 ⟨rfl, hb, hkp⟩; refine ⟨_, rfl, ?_⟩; have n0_ := Aside0.mk (blk_kept (by (with_reducible repeat (first | refine blk_drewN ?_ _ | refine blk_drew ?_ | refine blk_alloc ?_ _)); exact BK1000.out) hkp (fun hs_ => Or.elim hs_ (fun e_ => (fun e_ => (Kd.R_ne HO1008.out BK1000.out (by decide)) e_) e_) (fun e_ => (fun e_ => (Kd.R_ne HO1012.out BK1000.out (by decide)) e_) e_))); have n1_ := Aside0.mk (Kd.R_mono (ok' := fun k_ => True) (Kd.R_keptB (HO1004.out) hkp (fun k_ hk_ hs_ => Or.elim hs_ (fun e_ => (hk_.1.2) e_) (fun e_ => (hk_.2) e_))) (fun k_ hk_ => trivial)); have n2_ := Aside0.mk (hb); clear BK1000; clear HO1004; clear HB; clear HO1008; clear HO1012; have BK1000 := n0_; have HO1004 := n1_; have HB := n2_; clear n0_ n1_ n2_; (try clear hb); (try clear hkp); have hcz31_0 : w30.cell? ⟨gb1000, 0, none⟩ = some (.int .i64 a0_0) := (blk_cell BK1000.out 0).trans rfl; have hcz31_1 : w30.cell? ⟨gb1000, 1, none⟩ = some (.int .i64 a0_1) := (blk_cell BK1000.out 1).trans rfl; have hcz31_2 : w30.cell? ⟨gb1000, 2, none⟩ = some (.int .i64 a0_2) := (blk_cell BK1000.out 2).trans rfl; have hcz31_3 : w30.cell? ⟨gb1000, 3, none⟩ = some (.int .i64 a0_3) := (blk_cell BK1000.out 3).trans rfl; have hcz31_4 : w30.cell? ⟨gb1000, 4, none⟩ = some (.int .i64 a0_4) := (blk_cell BK1000.out 4).trans rfl; have hcz31_5 : w30.cell? ⟨gb1000, 5, none⟩ = some (.int .i64 a0_5) := (blk_cell BK1000.out 5).trans rfl; have hcz31_6 : w30.cell? ⟨gb1000, 6, none⟩ = some (.int .i64 a0_6) := (blk_cell BK1000.out 6).trans rfl; have hcz31_7 : w30.cell? ⟨gb1000, 7, none⟩ = some (.int .i64 a0_7) := (blk_cell BK1000.out 7).trans rfl; have hcz31_8 : w30.cell? ⟨gb1000, 8, none⟩ = some (.int .i64 a0_8) := (blk_cell BK1000.out 8).trans rfl; have hcz31_9 : w30.cell? ⟨gb1000, 9, none⟩ = some (.int .i64 a0_9) := (blk_cell BK1000.out 9).trans rfl; have hfz31_0 := blk_frozen BK1000.out 0; have hfz31_1 := blk_frozen BK1000.out 1; have hfz31_2 := blk_frozen BK1000.out 2; have hfz31_3 := blk_frozen BK1000.out 3; have hfz31_4 := blk_frozen BK1000.out 4; have hfz31_5 := blk_frozen BK1000.out 5; have hfz31_6 := blk_frozen BK1000.out 6; have hfz31_7 := blk_frozen BK1000.out 7; have hfz31_8 := blk_frozen BK1000.out 8; have hfz31_9 := blk_frozen BK1000.out 9) | (go_at_call 65; (with_reducible refine (reeveref04_Right.calls k a0_0 a0_1 a0_2 a0_3 a0_4 a0_5 a0_6 a0_7 a0_8 a0_9 t1018 _ A16.out).mono ?_); rintro e w32 ⟨rfl, hb⟩; have n0_ := Aside0.mk (Kd.R_below (by (with_reducible repeat (first | apply Kd.R_alloc | apply Kd.R_drewN | apply Kd.R_drew)); exact HO1004.out) hb); have n1_ := Aside0.mk (blk_below (g := gb1000) (o := .cells #[.int .i64 a0_0, .int .i64 a0_1, .int .i64 a0_2, .int .i64 a0_3, .int .i64 a0_4, .int .i64 a0_5, .int .i64 a0_6, .int .i64 a0_7, .int .i64 a0_8, .int .i64 a0_9] 45 (0, 0)) (by (with_reducible repeat (first | refine blk_drewN ?_ _ | refine blk_drew ?_ | refine blk_alloc ?_ _)); exact BK1000.out) hb); have n2_ := Aside0.mk (below_step (by repeat (first | (with_reducible first | exact HB.out | apply below_alloc | apply pw_below_drewN | apply below_drew1 | refine below_set ?_ GE1000.out) | exact HB.out)) hb); clear HO1004; clear BK1000; clear HB; have HO1004 := n0_; have BK1000 := n1_; have HB := n2_; clear n0_ n1_ n2_; (try clear hb); (try clear hb2); (try clear hk); (try clear hi)))
              go_ret
              exact ⟨by first | rfl | (simp [errW_none, errW_some] <;> rfl) | (simp [*, errW_none, errW_some] <;> rfl), by repeat (first | (with_reducible first | exact HB.out | apply below_alloc | apply pw_below_drewN | apply below_drew1 | refine below_set ?_ GE1000.out) | exact HB.out)⟩
            · rw [if_neg c15] at H
              exact absurd H (by simp)
          · rw [if_neg c14] at H
            exact absurd H (by simp)
        · replace c13 := Bool.eq_false_iff.mpr c13
          subst c13
          have H1 : (none) = some r := by rw [if_neg (show ¬ (false = true) by decide)] at H; exact H
          clear H
          have H := H1
          clear H1
          exact absurd H (by simp)
      · replace c12 := Bool.eq_false_iff.mpr c12
        subst c12
        have H1 : (none) = some r := by rw [if_neg (show ¬ (false = true) by decide)] at H; exact H
        clear H
        have H := H1
        clear H1
        exact absurd H (by simp)
    · replace c11 := Bool.eq_false_iff.mpr c11
      subst c11
      have H1 : (none) = some r := by rw [if_neg (show ¬ (false = true) by decide)] at H; exact H
      clear H
      have H := H1
      clear H1
      exact absurd H (by simp)
  · replace c10 := Bool.eq_false_iff.mpr c10
    subst c10
    have H1 : (none) = some r := by rw [if_neg (show ¬ (false = true) by decide)] at H; exact H
    clear H
    have H := H1
    clear H1
    exact absurd H (by simp)
end Go.Proofs.Ytbiijcehgiibeaa.Q
namespace Go.Proofs.Ytbiijcehgiibeaa.Pol
open Go.RowKit Go.Proofs.Ytbiijcehgiibeaa.Q Go.Proofs.YtbiijcehgiibeaaW.PrintWords
set_option linter.unusedSimpArgs false
theorem rin (n lo hi : Int) : reeveref04_in.f n lo hi = some (inB n lo hi) := by
  unfold reeveref04_in.f inB
  by_cases h : n ≥ lo
  · rw [if_pos h, decide_eq_decide.2 (show (n ≤ hi ↔ lo ≤ n ∧ n ≤ hi) from ⟨fun e => ⟨h, e⟩, fun e => e.2⟩)]
  · rw [if_neg h, decide_eq_false (fun e => h e.1)]
theorem rright1 (k : Nat) (x y : Bool) (p : Py) : reeveref04_Right.j1 (k + 1) x y p.kind p.cap p.num p.den p.width p.count p.keys p.slots p.every p.seg = some (if (x && (y || window p)) = true then 0 else 40) := by
  simp only [reeveref04_Right.j1, rin, Option.bind_some]
  unfold window
  by_cases c1 : p.kind = 2
  · rw [if_pos c1, decide_eq_true c1]
    generalize inB p.width 1 1048576 = b1
    generalize inB p.count 1 32 = b2
    by_cases c2 : p.num = 0
    · rw [if_pos c2, decide_eq_true c2]
      by_cases c3 : p.den = 0
      · rw [if_pos c3, decide_eq_true c3]
        cases x <;> cases y <;> cases b1 <;> cases b2 <;> rfl
      · rw [if_neg c3, decide_eq_false c3]
        cases x <;> cases y <;> cases b1 <;> cases b2 <;> rfl
    · rw [if_neg c2, decide_eq_false c2]
      generalize decide (p.den = 0) = b3
      cases x <;> cases y <;> cases b1 <;> cases b2 <;> cases b3 <;> rfl
  · rw [if_neg c1, decide_eq_false c1]
    generalize inB p.width 1 1048576 = b1
    generalize inB p.count 1 32 = b2
    generalize decide (p.num = 0) = b3
    generalize decide (p.den = 0) = b4
    cases x <;> cases y <;> cases b1 <;> cases b2 <;> cases b3 <;> cases b4 <;> rfl
theorem rright0 (k : Nat) (x : Bool) (p : Py) : reeveref04_Right.j0 (k + 2) x p.kind p.cap p.num p.den p.width p.count p.keys p.slots p.every p.seg = some (if (x && (bucket p || window p)) = true then 0 else 40) := by
  simp only [reeveref04_Right.j0, rin, Option.bind_some, rright1]
  unfold bucket
  generalize window p = w
  by_cases c1 : p.kind = 1
  · rw [if_pos c1, decide_eq_true c1]
    generalize inB p.num 1 65536 = b1
    generalize inB p.den 1 65536 = b2
    by_cases c2 : p.width = 0
    · rw [if_pos c2, decide_eq_true c2, show (p.count == 0) = decide (p.count = 0) from rfl]
      generalize decide (p.count = 0) = b3
      cases x <;> cases b1 <;> cases b2 <;> cases b3 <;> cases w <;> rfl
    · rw [if_neg c2, decide_eq_false c2]
      generalize decide (p.count = 0) = b3
      cases x <;> cases b1 <;> cases b2 <;> cases b3 <;> cases w <;> rfl
  · rw [if_neg c1, decide_eq_false c1]
    generalize inB p.num 1 65536 = b1
    generalize inB p.den 1 65536 = b2
    generalize decide (p.width = 0) = b3
    generalize decide (p.count = 0) = b4
    cases x <;> cases b1 <;> cases b2 <;> cases b3 <;> cases b4 <;> cases w <;> rfl
theorem rright {k : Nat} (p : Py) (hk : 1 < k) : reeveref04_Right.f k p.kind p.cap p.num p.den p.width p.count p.keys p.slots p.every p.seg = some (if ok p = true then 0 else 40) := by
  obtain ⟨k, rfl⟩ : ∃ j, k = j + 2 := ⟨k - 2, by omega⟩
  unfold reeveref04_Right.f
  simp only [rin, Option.bind_some, rright0]
  unfold ok all
  generalize inB p.cap 1 1048576 = b1
  generalize inB p.keys 1 1000 = b2
  generalize inB p.slots 1 64 = b3
  generalize inB p.every 0 1000 = b4
  generalize inB p.seg 1 1000 = b5
  generalize bucket p = b6
  generalize window p = b7
  cases b1 <;> cases b2 <;> cases b3 <;> cases b4 <;> cases b5 <;> cases b6 <;> cases b7 <;> rfl
end Go.Proofs.Ytbiijcehgiibeaa.Pol
namespace Go.Proofs.Ytbiijcehgiibeaa.Pure
open Go.RowKit Go.Proofs.Ytbiijcehgiibeaa.Q Go.Proofs.YtbiijcehgiibeaaW.PrintWords
set_option linter.unusedVariables false
set_option linter.unusedSimpArgs false
theorem rright (a b : Int) : reeveref02_Right.f a b = some (M.right a b) := by
  unfold reeveref02_Right.f M.right
  by_cases h1 : 0 ≤ a
  · rw [if_pos h1]
    by_cases h2 : a < 16777199
    · rw [if_pos h2]
      by_cases h3 : 0 ≤ b
      · rw [if_pos h3]; congr 1; simp [h1, h2, h3]
      · rw [if_neg h3]; congr 1; simp [h3]
    · rw [if_neg h2]; congr 1; simp [h2]
  · rw [if_neg h1]; congr 1; simp [h1]
theorem rrest (n : Int) : reeveref02_rest.f n = some (n % 16777199) := fold_mod n
theorem small {a b : Int} (h1 : 0 ≤ a) (h2 : a < 16777199) (h3 : 0 ≤ b) (h4 : b < 16777199) : 0 ≤ a * b ∧ a * b ≤ 281474372731204 := by
  have := Int.mul_nonneg h1 h3
  have h5 : a * b ≤ 16777198 * 16777198 := Int.mul_le_mul (by omega) (by omega) h3 (by omega)
  omega
theorem w64 {n : Int} (h1 : -9223372036854775808 ≤ n) (h2 : n ≤ 9223372036854775807) : wrap64 n = n := by unfold wrap64; omega
theorem rmul {x y : Int × Int} (hx : M.right x.1 x.2 = true) (hy : M.right y.1 y.2 = true) : reeveref02_Mul.f x.1 x.2 y.1 y.2 = some (M.mul x y) := by
  obtain ⟨a1, a2, a3, a4⟩ := M.right_iff.1 hx
  obtain ⟨b1, b2, b3, b4⟩ := M.right_iff.1 hy
  have e1 := small a1 a2 b1 b2
  have e2 := small a3 a4 b3 b4
  have e3 := small a1 a2 b3 b4
  have e4 := small a3 a4 b1 b2
  unfold reeveref02_Mul.f M.mul
  rw [w64 (n := x.1 * y.1) (by omega) (by omega), w64 (n := x.2 * y.2) (by omega) (by omega), w64 (n := x.1 * y.2) (by omega) (by omega), w64 (n := x.2 * y.1) (by omega) (by omega), w64 (n := x.1 * y.1 - x.2 * y.2) (by omega) (by omega), w64 (n := x.1 * y.2 + x.2 * y.1) (by omega) (by omega), rrest, rrest]
  rfl
end Go.Proofs.Ytbiijcehgiibeaa.Pure
namespace Go.Proofs.Ytbiijcehgiibeaa.Q
open Go.RowKit Go.Proofs.YtbiijcehgiibeaaW.PrintWords Go.Proofs.YtbiijcehgiibeaaW.PrintLast Go.Proofs.YtbiijcehgiibeaaW.PrintMore
attribute [local go_sem] max2_int min2_int max_two min_two max_three min_three max_four min_four   -- for this text's walks alone
set_option linter.unusedVariables false
set_option linter.unusedSimpArgs false
theorem eqA60 (d : Nat) (w : World) (x0 y0 : Int) (x1 y1 : Int) (x2 y2 : Int) (x3 y3 : Int) :
    (Op.equalIn (d + 3) 60 (.agg #[.int .i64 x0, .int .i64 x1, .int .i64 x2, .int .i64 x3]) (.agg #[.int .i64 y0, .int .i64 y1, .int .i64 y2, .int .i64 y3])).run Try.prog w = .ok (x0 == y0 && (x1 == y1 && ((x2 == y2 && (x3 == y3))))) w := by
  refine eqA_of Try.underlying60 (by kernel_rfl) ?_
  refine eqf_cons (by rfl) (by go_simp; rfl) (by go_simp; rfl) (by go_simp) ?_
  refine eqf_cons (by rfl) (by go_simp; rfl) (by go_simp; rfl) (by go_simp) ?_
  exact eqf_last (by rfl) (by go_simp) (by go_simp) (eqA23 (d + 0) w _ _ _ _)
end Go.Proofs.Ytbiijcehgiibeaa.Q
namespace Go.Proofs.Ytbiijcehgiibeaa.Pure
open Go.RowKit Go.Proofs.Ytbiijcehgiibeaa.Q Go.Proofs.YtbiijcehgiibeaaW.PrintWords
set_option linter.unusedVariables false
set_option linter.unusedSimpArgs false
def may (x : S60) : Bool := decide (0 ≤ x.f0 ∧ x.f0 ≤ 10000 ∧ 0 ≤ x.f1 ∧ x.f1 ≤ 4194304) && M.right x.f2.f0 x.f2.f1
def next (x : S60) (b : List Int) : S60 × Int :=
  if may x = true then if (b.length : Int) > 4194304 then (z60, 2) else if x.f0 = 10000 then (z60, 3) else (⟨x.f0 + 1, b.length, ⟨(M.add (x.f2.f0, x.f2.f1) b).1, (M.add (x.f2.f0, x.f2.f1) b).2⟩⟩, 0) else (z60, 30)
theorem radd0 : ∀ (k : Nat) (l : List Int) (i : Nat) (z : Int × Int), M.bytes l = true → M.right z.1 z.2 = true → (l.length : Int) ≤ 9223372036854775807 → i ≤ l.length → l.length - i < k →
    reeveref02_Add.l0 k l (i : Int) z.1 z.2 69069 362437 = some ((M.add z (l.drop i)).1, (M.add z (l.drop i)).2, 0) := by
  intro k
  induction k with
  | zero => intro l i z _ _ _ _ h; omega
  | succ k ih =>
    intro l i z hb hz hm hi hk
    simp only [reeveref02_Add.l0]
    by_cases h : i < l.length
    · have ea : l.drop i = l.getD i 0 :: l.drop (i + 1) := by
        rw [List.getD_eq_getElem?_getD, List.getElem?_eq_getElem h, List.drop_eq_getElem_cons h]; rfl
      have ra : rd l (i : Int) = l.getD i 0 := by unfold rd; rw [Int.toNat_natCast]
      have hc := M.bytes_getD hb i
      have hmr := M.right_iff.1 (M.mul_right z (69069, 362437))
      rw [if_pos (by omega), rmul (x := z) (y := (69069, 362437)) hz (by decide)]
      simp only [Option.bind_some]
      rw [if_pos (by omega), ra, w64 (n := l.getD i 0) (by omega) (by omega), w64 (n := (M.mul z (69069, 362437)).1 + l.getD i 0) (by omega) (by omega), w64 (n := (M.mul z (69069, 362437)).1 + l.getD i 0 + 1) (by omega) (by omega), rrest]
      simp only [Option.bind_some]
      rw [w64 (n := (i : Int) + 1) (by omega) (by omega), show ((i : Int) + 1) = ((i + 1 : Nat) : Int) by omega]
      have es : (((M.mul z (69069, 362437)).1 + l.getD i 0 + 1) % 16777199, (M.mul z (69069, 362437)).2) = M.step z (l.getD i 0) := by
        unfold M.mul M.step
        simp only
        generalize z.1 * 69069 - z.2 * 362437 = A
        congr 1
        omega
      have := ih l (i + 1) (M.step z (l.getD i 0)) hb (M.step_right _ _) hm (by omega) (by omega)
      rw [← es] at this
      rw [this, es, ea]
      rfl
    · rw [if_neg (by omega), List.drop_of_length_le (by omega)]
      rfl
theorem radd {k : Nat} {z : Int × Int} {l : List Int} (hz : M.right z.1 z.2 = true) (hb : M.bytes l = true) (hm : (l.length : Int) ≤ 9223372036854775807) (hk : l.length < k) :
    reeveref02_Add.f k z.1 z.2 l = some ((M.add z l).1, (M.add z l).2, 0) := by
  unfold reeveref02_Add.f
  rw [rright, hz]
  have := radd0 k l 0 z hb hz hm (by omega) (by omega)
  simpa using this
def first : S60 := ⟨0, 0, ⟨1, 2⟩⟩
def rows (ps : List (List Int)) : Prop := ps.length ≤ 9223372036854775807 ∧ ∀ x ∈ ps, x.length ≤ 9223372036854775807 ∧ M.bytes x = true
def mk : S60 → List (List Int) → Option (List S60)
  | _, [] => some []
  | x, b :: ps => if (next x b).2 = 0 then (mk (next x b).1 ps).map ((next x b).1 :: ·) else none
end Go.Proofs.Ytbiijcehgiibeaa.Pure
namespace Go.Proofs.Ytbiijcehgiibeaa.Pure
open Go.RowKit Go.Proofs.Ytbiijcehgiibeaa.Q Go.Proofs.YtbiijcehgiibeaaW.PrintWords
theorem kept {l : List Int} {k : Nat} (h : l.length ≤ 140737488351232) (hk : l.length < k) : reevelaw02_Kept.f k l l = some true := by
  unfold reevelaw02_Kept.f
  rw [if_pos rfl, if_pos h, same_ok (by omega) hk]
  simp
end Go.Proofs.Ytbiijcehgiibeaa.Pure
namespace Go.Proofs.Ytbiijcehgiibeaa.Pure
open Go.RowKit Go.Proofs.Ytbiijcehgiibeaa.Q Go.Proofs.YtbiijcehgiibeaaW.PrintWords
set_option linter.unusedVariables false
set_option linter.unusedSimpArgs false
theorem rbyte {a : Int} (h0 : 0 ≤ a) (h1 : a < 16777199) : (Int.tmod a 256) % 256 = a % 256 ∧ (Int.tmod (wrap64 (Int.tdiv a 256)) 256) % 256 = a / 256 % 256 ∧ (wrap64 (Int.tdiv a 65536)) % 256 = a / 65536 % 256 := by
  rw [Int.tdiv_eq_ediv_of_nonneg h0, Int.tdiv_eq_ediv_of_nonneg h0, Int.tmod_eq_emod_of_nonneg h0, w64b (n := a / 256) (by omega) (by omega), w64b (n := a / 65536) (by omega) (by omega), Int.tmod_eq_emod_of_nonneg (by omega)]
  omega
theorem rbytes6 {x : Int × Int} (h : M.right x.1 x.2 = true) : reeveref02_Bytes.f x.1 x.2 = some (M.wr6 x, 0) := by
  obtain ⟨a1, a2, a3, a4⟩ := M.right_iff.1 h
  unfold reeveref02_Bytes.f M.wr6
  rw [rright, h]
  simp only [Option.bind_some]
  rw [if_pos trivial, (rbyte a1 a2).1, (rbyte a1 a2).2.1, (rbyte a1 a2).2.2, (rbyte a3 a4).1, (rbyte a3 a4).2.1, (rbyte a3 a4).2.2]
end Go.Proofs.Ytbiijcehgiibeaa.Pure
namespace Go.Proofs.Ytbiijcehgiibeaa.Pure
open Go.RowKit Go.Proofs.Ytbiijcehgiibeaa.Q Go.Proofs.YtbiijcehgiibeaaW.PrintWords
set_option linter.unusedVariables false
set_option linter.unusedSimpArgs false
theorem rhead0 {xs : List Int} (hx : ∀ x ∈ xs, 0 ≤ x ∧ x ≤ 1048576) (h8 : xs.length ≤ 8) : ∀ (d k : Nat) (acc : List Int) (i : Nat), d + i = xs.length → M.bytes acc = true → acc.length + 9 * d ≤ 1000 → acc.length + 10 * d + 50 < k →
    reeveref04_Header.l0 k xs acc (i : Int) = some ((acc ++ (xs.drop i).flatMap (wr 8)) ++ M.wr6 (M.add (1, 2) (acc ++ (xs.drop i).flatMap (wr 8))), 0) := by
  intro d
  induction d with
  | zero =>
    intro k acc i hd hb hl hk
    obtain ⟨k, rfl⟩ : ∃ j, k = j + 1 := ⟨k - 1, by omega⟩
    simp only [reeveref04_Header.l0]
    rw [if_neg (by omega), List.drop_of_length_le (by omega), List.flatMap_nil, List.append_nil, show reeveref02_Start.f = some (1, 2) from rfl]
    simp only [Option.bind_some]
    rw [radd (z := (1, 2)) (by decide) hb (by omega) (by omega)]
    simp only [Option.bind_some]
    rw [rbytes6 (x := M.add (1, 2) acc) (M.add_right _ _ (by decide))]
    simp only [Option.bind_some]
    rw [if_pos (by rw [M.wr6_length]; omega)]
  | succ d ih =>
    intro k acc i hd hb hl hk
    obtain ⟨k, rfl⟩ : ∃ j, k = j + 1 := ⟨k - 1, by omega⟩
    have hi : i < xs.length := by omega
    have hrd : rd xs (i : Int) = xs[i] := by
      unfold rd
      rw [Int.toNat_natCast, List.getD_eq_getElem?_getD, List.getElem?_eq_getElem hi]
      rfl
    have hin := hx _ (List.getElem_mem hi)
    have hw := wr_len 8 xs[i]
    simp only [reeveref04_Header.l0]
    rw [if_pos (by omega), if_pos (by omega), hrd, rnumber _ (by omega), show number xs[i] = (wr 8 xs[i], 0) from by unfold number; rw [if_pos ⟨hin.1, by omega⟩]]
    simp only [Option.bind_some]
    rw [if_pos (by omega), w64b (by omega) (by omega)]
    have := ih k (acc ++ wr 8 xs[i]) (i + 1) (by omega) (bytes_append hb (wr_bytes 8 _ hin.1 (by omega))) (by rw [List.length_append]; omega) (by rw [List.length_append]; omega)
    rw [show ((i : Int) + 1) = ((i + 1 : Nat) : Int) by omega, this, List.drop_eq_getElem_cons hi, List.flatMap_cons]
    simp only [List.append_assoc]
theorem rheader (p : Pol.Py) {k : Nat} (hk : 200 < k) : reeveref04_Header.f k p.kind p.cap p.num p.den p.width p.count p.keys p.slots p.every p.seg = some (Pol.header p) := by
  obtain ⟨k, rfl⟩ : ∃ j, k = j + 1 := ⟨k - 1, by omega⟩
  unfold reeveref04_Header.f Pol.header
  rw [Pol.rright p (by omega)]
  simp only [Option.bind_some]
  by_cases c : Pol.ok p = true
  · rw [if_pos c, if_pos rfl, if_pos c]
    have hx := H.eight_in c
    have h8 : (Pol.eight p).length = 8 := by unfold Pol.eight; split <;> rfl
    have key : reeveref04_Header.j0 (k + 1) (Pol.eight p) = some (Pol.body p ++ M.wr6 (M.add (1, 2) (Pol.body p)), 0) := by
      simp only [reeveref04_Header.j0]
      have := rhead0 hx (by omega) 8 k [82, 69, 69, 76] 0 (by omega) (by decide) (by decide) (by simp; omega)
      rw [List.drop_zero] at this
      exact this
    by_cases k2 : p.kind = 2
    · rw [if_pos k2, if_pos (by simp), if_pos (by simp)]
      rw [← key]
      unfold Pol.eight
      rw [if_pos k2]
      rfl
    · rw [if_neg k2, ← key]
      unfold Pol.eight
      rw [if_neg k2]
  · rw [if_neg c, if_neg (by decide), if_neg c]
theorem header_len (p : Pol.Py) : (Pol.header p).1.length ≤ 82 := by
  unfold Pol.header
  split
  · have := H.body_len p
    simp only [List.length_append, M.wr6_length]
    omega
  · simp
end Go.Proofs.Ytbiijcehgiibeaa.Pure
namespace Go.Proofs.Ytbiijcehgiibeaa.Pure
open Go.RowKit Go.Proofs.Ytbiijcehgiibeaa.Q Go.Proofs.YtbiijcehgiibeaaW.PrintWords
set_option linter.unusedVariables false
set_option linter.unusedSimpArgs false
def fullOf (v : Int) (l : List Int) (i : Nat) : Prop := ∀ j, j < i → l.getD j 0 = v
theorem fullOf_set {v : Int} {l : List Int} {i : Nat} (hi : i < l.length) (h : fullOf v l i) : fullOf v (l.set i v) (i + 1) := by
  intro j hj
  rw [List.getD_eq_getElem?_getD, List.getElem?_set]
  by_cases e : i = j
  · subst e
    simp [hi]
  · rw [if_neg e, ← List.getD_eq_getElem?_getD]
    exact h j (by omega)
theorem fullOf_append {v : Int} {l : List Int} (h : fullOf v l l.length) : fullOf v (l ++ [v, v]) (l ++ [v, v]).length := by
  intro j hj
  simp only [List.length_append, List.length_cons, List.length_nil] at hj
  rw [List.getD_eq_getElem?_getD]
  by_cases c : j < l.length
  · rw [List.getElem?_append_left c, ← List.getD_eq_getElem?_getD]
    exact h j c
  · rw [List.getElem?_append_right (by omega)]
    obtain e | e : j - l.length = 0 ∨ j - l.length = 1 := by omega
    all_goals rw [e]; rfl
theorem own3 : ∀ (d k : Nat) (b : List Int) (i : Nat), b.length ≤ 1000 → fullOf 2 b b.length → d + i = b.length → d < k → reevelaw02_Owned.l3 k b (i : Int) = some true := by
  intro d
  induction d with
  | zero =>
    intro k b i hl hf hd hk
    obtain ⟨k, rfl⟩ : ∃ j, k = j + 1 := ⟨k - 1, by omega⟩
    simp only [reevelaw02_Owned.l3]
    rw [if_neg (by omega)]
  | succ d ih =>
    intro k b i hl hf hd hk
    obtain ⟨k, rfl⟩ : ∃ j, k = j + 1 := ⟨k - 1, by omega⟩
    simp only [reevelaw02_Owned.l3]
    rw [if_pos (by omega), if_pos (by omega), if_pos (by unfold rd; rw [Int.toNat_natCast]; exact hf i (by omega)), w64b (by omega) (by omega)]
    exact ih k b (i + 1) hl hf (by omega) (by omega)
theorem own2 : ∀ (d k : Nat) (a b : List Int) (i : Nat), a.length ≤ 1000 → b.length ≤ 1000 → fullOf 1 a a.length → fullOf 2 b b.length → d + i = a.length → d + b.length + 1 < k → reevelaw02_Owned.l2 k a b (i : Int) = some true := by
  intro d
  induction d with
  | zero =>
    intro k a b i hl hm hf hg hd hk
    obtain ⟨k, rfl⟩ : ∃ j, k = j + 1 := ⟨k - 1, by omega⟩
    simp only [reevelaw02_Owned.l2]
    rw [if_neg (by omega)]
    exact own3 b.length k b 0 hm hg (by omega) (by omega)
  | succ d ih =>
    intro k a b i hl hm hf hg hd hk
    obtain ⟨k, rfl⟩ : ∃ j, k = j + 1 := ⟨k - 1, by omega⟩
    simp only [reevelaw02_Owned.l2]
    rw [if_pos (by omega), if_pos (by omega), if_pos (by unfold rd; rw [Int.toNat_natCast]; exact hf i (by omega)), w64b (by omega) (by omega)]
    exact ih k a b (i + 1) hl hm hf hg (by omega) (by omega)
theorem own1 : ∀ (d k : Nat) (a b : List Int) (i : Nat), a.length ≤ 900 → b.length ≤ 900 → fullOf 1 a a.length → fullOf 2 b i → d + i = b.length → d + a.length + b.length + 8 < k → reevelaw02_Owned.l1 k a b (i : Int) = some true := by
  intro d
  induction d with
  | zero =>
    intro k a b i hl hm hf hg hd hk
    obtain ⟨k, rfl⟩ : ∃ j, k = j + 1 := ⟨k - 1, by omega⟩
    simp only [reevelaw02_Owned.l1]
    rw [if_neg (by omega)]
    simp only [Option.bind_some]
    rw [if_pos (by simp; omega), if_pos (by simp; omega)]
    refine own2 (a ++ [1, 1]).length k _ _ 0 (by simp; omega) (by simp; omega) (fullOf_append hf) (fullOf_append ?_) (by omega) (by simp; omega)
    rw [show b.length = i by omega]
    exact hg
  | succ d ih =>
    intro k a b i hl hm hf hg hd hk
    obtain ⟨k, rfl⟩ : ∃ j, k = j + 1 := ⟨k - 1, by omega⟩
    simp only [reevelaw02_Owned.l1]
    rw [if_pos (by omega), if_pos (by omega), w64b (by omega) (by omega), Int.toNat_natCast]
    exact ih k a (b.set i 2) (i + 1) hl (by simpa using hm) hf (fullOf_set (by omega) hg) (by simp; omega) (by simp; omega)
theorem own0 : ∀ (d k : Nat) (a b : List Int) (i : Nat), a.length ≤ 900 → b.length ≤ 900 → fullOf 1 a i → d + i = a.length → d + a.length + 2 * b.length + 10 < k → reevelaw02_Owned.l0 k a b (i : Int) = some true := by
  intro d
  induction d with
  | zero =>
    intro k a b i hl hm hf hd hk
    obtain ⟨k, rfl⟩ : ∃ j, k = j + 1 := ⟨k - 1, by omega⟩
    simp only [reevelaw02_Owned.l0]
    rw [if_neg (by omega)]
    refine own1 b.length k a b 0 hl hm ?_ (fun j hj => absurd hj (by omega)) (by omega) (by omega)
    rw [show a.length = i by omega]
    exact hf
  | succ d ih =>
    intro k a b i hl hm hf hd hk
    obtain ⟨k, rfl⟩ : ∃ j, k = j + 1 := ⟨k - 1, by omega⟩
    simp only [reevelaw02_Owned.l0]
    rw [if_pos (by omega), if_pos (by omega), w64b (by omega) (by omega), Int.toNat_natCast]
    exact ih k (a.set i 1) b (i + 1) (by simpa using hl) hm (fullOf_set (by omega) hf) (by simp; omega) (by simp; omega)
theorem owned {a b : List Int} {k : Nat} (ha : a.length ≤ 900) (hb : b.length ≤ 900) (hk : 2 * a.length + 2 * b.length + 10 < k) : reevelaw02_Owned.f k a b = some true := by
  unfold reevelaw02_Owned.f
  exact own0 a.length k a b 0 ha hb (fun j hj => absurd hj (by omega)) (by omega) (by omega)
end Go.Proofs.Ytbiijcehgiibeaa.Pure
namespace Go.Proofs.Ytbiijcehgiibeaa.Pure
open Go.Proofs.Ytbiijcehgiibeaa.Q
theorem awake04 : reevelaw04_awake.f = some true := rfl
end Go.Proofs.Ytbiijcehgiibeaa.Pure
namespace Go.Proofs.Ytbiijcehgiibeaa.Pure
open Go.RowKit Go.Proofs.Ytbiijcehgiibeaa.Q Go.Proofs.YtbiijcehgiibeaaW.PrintWords
theorem PolicyHeads (a0 a1 a2 a3 a4 a5 a6 a7 a8 a9 : Int) (_ : (Lit.int .i64 a0).wf = true) (_ : (Lit.int .i64 a1).wf = true) (_ : (Lit.int .i64 a2).wf = true) (_ : (Lit.int .i64 a3).wf = true) (_ : (Lit.int .i64 a4).wf = true) (_ : (Lit.int .i64 a5).wf = true) (_ : (Lit.int .i64 a6).wf = true) (_ : (Lit.int .i64 a7).wf = true) (_ : (Lit.int .i64 a8).wf = true) (_ : (Lit.int .i64 a9).wf = true) : ∃ k, reevelaw04_PolicyHeads.f k a0 a1 a2 a3 a4 a5 a6 a7 a8 a9 = some true := by
  refine ⟨600, ?_⟩
  have hh := rheader (⟨a0, a1, a2, a3, a4, a5, a6, a7, a8, a9⟩ : Pol.Py) (k := 600) (by decide)
  have hr := Pol.rright (k := 600) (⟨a0, a1, a2, a3, a4, a5, a6, a7, a8, a9⟩ : Pol.Py) (by decide)
  have hl := header_len (⟨a0, a1, a2, a3, a4, a5, a6, a7, a8, a9⟩ : Pol.Py)
  unfold reevelaw04_PolicyHeads.f
  rw [awake04, hh, hr]
  unfold policy_Header.f policy_Right.f
  simp only [Option.bind_some]
  generalize Pol.header (⟨a0, a1, a2, a3, a4, a5, a6, a7, a8, a9⟩ : Pol.Py) = q at hl
  rw [same_ok (by omega) (by omega), owned (by omega) (by omega) (by omega)]
  simp
end Go.Proofs.Ytbiijcehgiibeaa.Pure
namespace Go.Proofs.Ytbiijcehgiibeaa.O
open Go.ChangeShapes Go.WideShapes Go.ChangeAt Go.RowKit
theorem agg_ints {P : Program} {w : World} {r : Reach} {b : Nat} {t e : TypeId} {v : Value} {n : Nat} {fs : Array Field} (hs : P.underlying t = some (.struct fs)) (hC : P.cellsOf t = n)
    (ht : P.cellTypes P.depth t = some (List.replicate n e)) (he : P.underlying e = some (.int .i64)) (hv : Value.okWide P w r b t v) :
    ∃ cs : Array Value, v = .agg cs ∧ cs.size = n ∧ ∀ i, i < n → ∃ x, cs[i]? = some (.int .i64 x) ∧ (Lit.int .i64 x).wf = true := by
  unfold Value.okWide at hv
  rw [hs] at hv
  obtain ⟨cs, rfl, hsz, hr⟩ := hv
  rw [hC] at hsz
  refine ⟨cs, rfl, hsz, fun i hi => ?_⟩
  obtain ⟨ts, h1, _, h2⟩ := hr
  rw [ht] at h1
  cases h1
  obtain ⟨u, h3, h4⟩ := h2 i (cs[i]'(by omega)) (Array.getElem?_eq_getElem (by omega))
  have hu : u = e := by
    have := List.mem_of_getElem? h3
    exact (List.mem_replicate.1 this).2
  subst hu
  generalize hc : cs[i]'(by omega) = c at h4
  unfold Cell.okWide Cell.ok at h4
  rw [he] at h4
  cases c <;> simp only at h4 <;> try exact h4.elim
  rename_i k x
  obtain ⟨rfl, hk⟩ := h4
  refine ⟨x, by rw [Array.getElem?_eq_getElem (by omega), hc], ?_⟩
  unfold IntKind.has at hk
  have h9 : x ≤ 9223372036854775807 := hk.2
  simp [Lit.wf, hk.1, h9]
theorem arr10 {cs : Array Value} {x0 x1 x2 x3 x4 x5 x6 x7 x8 x9 : Value} (hsz : cs.size = 10) (h0 : cs[0]? = some x0) (h1 : cs[1]? = some x1) (h2 : cs[2]? = some x2) (h3 : cs[3]? = some x3) (h4 : cs[4]? = some x4) (h5 : cs[5]? = some x5) (h6 : cs[6]? = some x6) (h7 : cs[7]? = some x7) (h8 : cs[8]? = some x8) (h9 : cs[9]? = some x9) : cs = #[x0, x1, x2, x3, x4, x5, x6, x7, x8, x9] := by
  obtain ⟨l⟩ := cs
  match l, hsz with
  | [a, b, c, d, e, f, g, h, i, j], _ => simp_all
theorem agg10 {P : Program} {w : World} {r : Reach} {b : Nat} {t e : TypeId} {v : Value} {fs : Array Field} (hs : P.underlying t = some (.struct fs)) (hC : P.cellsOf t = 10)
    (ht : P.cellTypes P.depth t = some [e, e, e, e, e, e, e, e, e, e]) (he : P.underlying e = some (.int .i64)) (hv : Value.okWide P w r b t v) :
    ∃ x0 x1 x2 x3 x4 x5 x6 x7 x8 x9 : Int, v = .agg #[.int .i64 x0, .int .i64 x1, .int .i64 x2, .int .i64 x3, .int .i64 x4, .int .i64 x5, .int .i64 x6, .int .i64 x7, .int .i64 x8, .int .i64 x9] ∧ (Lit.int .i64 x0).wf = true ∧ (Lit.int .i64 x1).wf = true ∧ (Lit.int .i64 x2).wf = true ∧ (Lit.int .i64 x3).wf = true ∧ (Lit.int .i64 x4).wf = true ∧ (Lit.int .i64 x5).wf = true ∧ (Lit.int .i64 x6).wf = true ∧ (Lit.int .i64 x7).wf = true ∧ (Lit.int .i64 x8).wf = true ∧ (Lit.int .i64 x9).wf = true := by
  obtain ⟨cs, rfl, hsz, h⟩ := agg_ints hs hC ht he hv
  obtain ⟨x0, e0, w0⟩ := h 0 (by omega)
  obtain ⟨x1, e1, w1⟩ := h 1 (by omega)
  obtain ⟨x2, e2, w2⟩ := h 2 (by omega)
  obtain ⟨x3, e3, w3⟩ := h 3 (by omega)
  obtain ⟨x4, e4, w4⟩ := h 4 (by omega)
  obtain ⟨x5, e5, w5⟩ := h 5 (by omega)
  obtain ⟨x6, e6, w6⟩ := h 6 (by omega)
  obtain ⟨x7, e7, w7⟩ := h 7 (by omega)
  obtain ⟨x8, e8, w8⟩ := h 8 (by omega)
  obtain ⟨x9, e9, w9⟩ := h 9 (by omega)
  exact ⟨x0, x1, x2, x3, x4, x5, x6, x7, x8, x9, by rw [arr10 hsz e0 e1 e2 e3 e4 e5 e6 e7 e8 e9], w0, w1, w2, w3, w4, w5, w6, w7, w8, w9⟩
end Go.Proofs.Ytbiijcehgiibeaa.O

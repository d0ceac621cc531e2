/- A text that a program of this session wrote (wip/qprint.py, over the kit's printer): Lean functions with the same answers as Go functions of the program, and proofs that the calls come to these answers; where a function is named in wip/ext, its definition and proof were written by hand. Laid tighter for a claim's bound by wip/shake.py (SQ=1). · Proved here: the small case that each statement of layer 4 begins with answers true. (Pieces by wip/haw.py, this session's own.) Laid tighter for a claim's bound by wip/shake.py (SQ=1). · Steps of the walk of the document's Read of a policy: a row of whole numbers of the call's own that grows by one; its elements; the numbers of a policy read one by one. Laid tighter for a claim's bound by wip/shake.py (SQ=1). -/
import Derived.Test.YtbiijcehgiibeaaKPReadsHp1
import Derived.Test.YtbiijcehgiibeaaKPReadsHp2
import Derived.Test.YtbiijcehgiibeaaKPReadsHp3
import Derived.Test.YtbiijcehgiibeaaKPReadsJFloat
import Derived.Test.YtbiijcehgiibeaaKPReadsJSix
import Derived.Test.YtbiijcehgiibeaaKPReadsJPolg
namespace Go.Proofs.Ytbiijcehgiibeaa.Q
open Go.RowKit Go.Proofs.YtbiijcehgiibeaaW.PrintWords Go.Proofs.YtbiijcehgiibeaaW.PrintLast Go.Proofs.YtbiijcehgiibeaaW.PrintMore
attribute [local go_sem] max2_int min2_int max_two min_two max_three min_three max_four min_four   -- for this text's walks alone
set_option linter.unusedVariables false
set_option linter.unusedSimpArgs false
def policy_Header.f (a0_0 : Int) (a0_1 : Int) (a0_2 : Int) (a0_3 : Int) (a0_4 : Int) (a0_5 : Int) (a0_6 : Int) (a0_7 : Int) (a0_8 : Int) (a0_9 : Int) : Option (List Int × Int):=some (Pol.header ⟨a0_0,a0_1,a0_2,a0_3,a0_4,a0_5,a0_6,a0_7,a0_8,a0_9⟩)
theorem policy_Header.calls (a0_0 : Int) (a0_1 : Int) (a0_2 : Int) (a0_3 : Int) (a0_4 : Int) (a0_5 : Int) (a0_6 : Int) (a0_7 : Int) (a0_8 : Int) (a0_9 : Int) (r1 : List Int) (r2 : Int) (w : World) (h : policy_Header.f a0_0 a0_1 a0_2 a0_3 a0_4 a0_5 a0_6 a0_7 a0_8 a0_9 = some (r1,r2)) :
  Calls Try.prog 42 #[.agg #[.int .i64 a0_0,.int .i64 a0_1,.int .i64 a0_2,.int .i64 a0_3,.int .i64 a0_4,.int .i64 a0_5,.int .i64 a0_6,.int .i64 a0_7,.int .i64 a0_8,.int .i64 a0_9]] w fun e w' => ∃ v0_ : Value,e = .returned (.tuple #[v0_,.int .i64 r2]) ∧ Kd.R (Kd.int .u8) 5 w' w.heap.size (fun _ => True) v0_ r1 ∧ Below w.heap.size w w':=by
 exact H.header_ext ⟨a0_0,a0_1,a0_2,a0_3,a0_4,a0_5,a0_6,a0_7,a0_8,a0_9⟩ r1 r2 w (Option.some.inj h)
def policy_Read.f (l0 : List Int) : Option (Int × Int × Int × Int × Int × Int × Int × Int × Int × Int × Int × Int × Int):=Pol.readO l0
theorem policy_Read.calls (A0 : Option Addr) (c0 : Nat) (l0 : List Int) (r1 : Int) (r2 : Int) (r3 : Int) (r4 : Int) (r5 : Int) (r6 : Int) (r7 : Int) (r8 : Int) (r9 : Int) (r10 : Int) (r11 : Int) (r12 : Int) (r13 : Int) (w : World) (hr0 : Kd.C (Kd.int .u8) w A0 l0.length l0) (hc0 : l0.length ≤ c0) (h : policy_Read.f l0 = some (r1,r2,r3,r4,r5,r6,r7,r8,r9,r10,r11,r12,r13)) :
  Calls Try.prog 43 #[.slice A0 l0.length c0] w fun e w' => e = .returned (.tuple #[.agg #[.int .i64 r1,.int .i64 r2,.int .i64 r3,.int .i64 r4,.int .i64 r5,.int .i64 r6,.int .i64 r7,.int .i64 r8,.int .i64 r9,.int .i64 r10],.int .i64 r11,.agg #[.int .i64 r12,.int .i64 r13]]) ∧ Below w.heap.size w w':=by
 exact H.pread_ext A0 c0 l0 r1 r2 r3 r4 r5 r6 r7 r8 r9 r10 r11 r12 r13 w hr0 hc0 h
end Go.Proofs.Ytbiijcehgiibeaa.Q
namespace Go.Proofs.Ytbiijcehgiibeaa.Q
open Go.RowKit Go.Proofs.YtbiijcehgiibeaaW.PrintWords Go.Proofs.YtbiijcehgiibeaaW.PrintLast Go.Proofs.YtbiijcehgiibeaaW.PrintMore
attribute [local go_sem] max2_int min2_int max_two min_two max_three min_three max_four min_four   -- for this text's walks alone
set_option linter.unusedVariables false
set_option linter.unusedSimpArgs false
def reevelaw04_Plain.f (a0 : Int) : Option (Int × Int × Int × Int × Int × Int × Int × Int × Int × Int):=if a0 = 1 then (some (1,10,1,2,0,0,5,3,4,6)) else (some (2,10,0,0,5,3,5,3,4,6))
set_option maxHeartbeats 8000000 in
set_option maxRecDepth 100000 in
theorem reevelaw04_Plain.calls (a0 : Int) (r1 : Int) (r2 : Int) (r3 : Int) (r4 : Int) (r5 : Int) (r6 : Int) (r7 : Int) (r8 : Int) (r9 : Int) (r10 : Int) (w : World) (h : reevelaw04_Plain.f a0 = some (r1,r2,r3,r4,r5,r6,r7,r8,r9,r10)) :
  Calls Try.prog 73 #[.int .i64 a0] w fun e w' => e = .returned (.agg #[.int .i64 r1,.int .i64 r2,.int .i64 r3,.int .i64 r4,.int .i64 r5,.int .i64 r6,.int .i64 r7,.int .i64 r8,.int .i64 r9,.int .i64 r10]) ∧ Below w.heap.size w w':=by
 have hu45:=Try.underlying45
 have HB:=Aside0.mk (Below.refl w.heap.size w)
 have H : (if a0 = 1 then (some (1,10,1,2,0,0,5,3,4,6)) else (some (2,10,0,0,5,3,5,3,4,6))) = some (r1,r2,r3,r4,r5,r6,r7,r8,r9,r10):=h
 clear h
 by_cases c2 : a0 = 1
 ·rw [if_pos c2] at H
  have c2b0 : (a0 == 1) = true:=beq_iff_eq.mpr c2
  have c2b1 : (a0 != 1) = false:=bne_eq_false_iff_eq.mpr c2
  clear c2
  simp only [Option.some.injEq,Prod.mk.injEq] at H
  obtain ⟨rfl,rfl,rfl,rfl,rfl,rfl,rfl,rfl,rfl,rfl⟩:=H
  go_enter Try.func73,Try.ntmps73
  go_wp2_with (first | ((with_reducible refine gate_dst (N:=2) rfl ?_);refine box_event ?hg (N:=2) ?hd (cs:=#[.int .i64 0,.int .i64 0,.int .i64 0,.int .i64 0,.int .i64 0,.int .i64 0,.int .i64 0,.int .i64 0,.int .i64 0,.int .i64 0]) (t:=45) ?hr ?_;(case hd => rfl);(case hg => rfl);(case hr => first | (go_simp;done) | (go_simp;rfl));intro gb357 hg w3 hbox hb;have n0_:=Aside0.mk (below_step (by repeat (first | (with_reducible first | exact HB.out | apply below_alloc | apply pw_below_drewN | apply below_drew1) | exact HB.out)) hb);have n1_:=Aside0.mk (hbox);have n2_:=Aside0.mk ((by rw [hg];exact (below_size (by repeat (first | (with_reducible first | exact HB.out | apply below_alloc | apply pw_below_drewN | apply below_drew1) | exact HB.out))) : w.heap.size ≤ gb357));have n3_:=Aside0.mk ((by rw [hg];exact (below_size (by repeat (first | (with_reducible first | exact HB.out | apply below_alloc | apply pw_below_drewN | apply below_drew1) | exact HB.out))) : w.heap.size ≤ gb357));clear HB;have HB:=n0_;have BK357:=n1_;have GW357:=n2_;have GE357:=n3_;clear n0_ n1_ n2_ n3_;clear hb hbox hg;have hcz4_0 : w3.cell? ⟨gb357,0,none⟩ = some (.int .i64 0):=(blk_cell BK357.out 0).trans rfl;have hcz4_1 : w3.cell? ⟨gb357,1,none⟩ = some (.int .i64 0):=(blk_cell BK357.out 1).trans rfl;have hcz4_2 : w3.cell? ⟨gb357,2,none⟩ = some (.int .i64 0):=(blk_cell BK357.out 2).trans rfl;have hcz4_3 : w3.cell? ⟨gb357,3,none⟩ = some (.int .i64 0):=(blk_cell BK357.out 3).trans rfl;have hcz4_4 : w3.cell? ⟨gb357,4,none⟩ = some (.int .i64 0):=(blk_cell BK357.out 4).trans rfl;have hcz4_5 : w3.cell? ⟨gb357,5,none⟩ = some (.int .i64 0):=(blk_cell BK357.out 5).trans rfl;have hcz4_6 : w3.cell? ⟨gb357,6,none⟩ = some (.int .i64 0):=(blk_cell BK357.out 6).trans rfl;have hcz4_7 : w3.cell? ⟨gb357,7,none⟩ = some (.int .i64 0):=(blk_cell BK357.out 7).trans rfl;have hcz4_8 : w3.cell? ⟨gb357,8,none⟩ = some (.int .i64 0):=(blk_cell BK357.out 8).trans rfl;have hcz4_9 : w3.cell? ⟨gb357,9,none⟩ = some (.int .i64 0):=(blk_cell BK357.out 9).trans rfl;have hfz4_0:=blk_frozen BK357.out 0;have hfz4_1:=blk_frozen BK357.out 1;have hfz4_2:=blk_frozen BK357.out 2;have hfz4_3:=blk_frozen BK357.out 3;have hfz4_4:=blk_frozen BK357.out 4;have hfz4_5:=blk_frozen BK357.out 5;have hfz4_6:=blk_frozen BK357.out 6;have hfz4_7:=blk_frozen BK357.out 7;have hfz4_8:=blk_frozen BK357.out 8;have hfz4_9:=blk_frozen BK357.out 9))
  refine bodyPost_ret (results_cell_row rfl _ _ gb357 45 #[.int .i64 1,.int .i64 10,.int .i64 1,.int .i64 2,.int .i64 0,.int .i64 0,.int .i64 5,.int .i64 3,.int .i64 4,.int .i64 6] (0,0) _ rfl (by (with_reducible repeat (first | refine blk_drewN ?_ _ | refine blk_drew ?_ | refine blk_alloc ?_ _));refine blk_put (cs:=#[.int .i64 1,.int .i64 10,.int .i64 1,.int .i64 2,.int .i64 0,.int .i64 0,.int .i64 5,.int .i64 3,.int .i64 4,.int .i64 0]) ?_ 9 _ rfl;(with_reducible repeat (first | refine blk_drewN ?_ _ | refine blk_drew ?_ | refine blk_alloc ?_ _));refine blk_put (cs:=#[.int .i64 1,.int .i64 10,.int .i64 1,.int .i64 2,.int .i64 0,.int .i64 0,.int .i64 5,.int .i64 3,.int .i64 0,.int .i64 0]) ?_ 8 _ rfl;(with_reducible repeat (first | refine blk_drewN ?_ _ | refine blk_drew ?_ | refine blk_alloc ?_ _));refine blk_put (cs:=#[.int .i64 1,.int .i64 10,.int .i64 1,.int .i64 2,.int .i64 0,.int .i64 0,.int .i64 5,.int .i64 0,.int .i64 0,.int .i64 0]) ?_ 7 _ rfl;(with_reducible repeat (first | refine blk_drewN ?_ _ | refine blk_drew ?_ | refine blk_alloc ?_ _));refine blk_put (cs:=#[.int .i64 1,.int .i64 10,.int .i64 1,.int .i64 2,.int .i64 0,.int .i64 0,.int .i64 0,.int .i64 0,.int .i64 0,.int .i64 0]) ?_ 6 _ rfl;(with_reducible repeat (first | refine blk_drewN ?_ _ | refine blk_drew ?_ | refine blk_alloc ?_ _));refine blk_put (cs:=#[.int .i64 1,.int .i64 10,.int .i64 1,.int .i64 2,.int .i64 0,.int .i64 0,.int .i64 0,.int .i64 0,.int .i64 0,.int .i64 0]) ?_ 5 _ rfl;(with_reducible repeat (first | refine blk_drewN ?_ _ | refine blk_drew ?_ | refine blk_alloc ?_ _));refine blk_put (cs:=#[.int .i64 1,.int .i64 10,.int .i64 1,.int .i64 2,.int .i64 0,.int .i64 0,.int .i64 0,.int .i64 0,.int .i64 0,.int .i64 0]) ?_ 4 _ rfl;(with_reducible repeat (first | refine blk_drewN ?_ _ | refine blk_drew ?_ | refine blk_alloc ?_ _));refine blk_put (cs:=#[.int .i64 1,.int .i64 10,.int .i64 1,.int .i64 0,.int .i64 0,.int .i64 0,.int .i64 0,.int .i64 0,.int .i64 0,.int .i64 0]) ?_ 3 _ rfl;(with_reducible repeat (first | refine blk_drewN ?_ _ | refine blk_drew ?_ | refine blk_alloc ?_ _));refine blk_put (cs:=#[.int .i64 1,.int .i64 10,.int .i64 0,.int .i64 0,.int .i64 0,.int .i64 0,.int .i64 0,.int .i64 0,.int .i64 0,.int .i64 0]) ?_ 2 _ rfl;(with_reducible repeat (first | refine blk_drewN ?_ _ | refine blk_drew ?_ | refine blk_alloc ?_ _));refine blk_put (cs:=#[.int .i64 1,.int .i64 0,.int .i64 0,.int .i64 0,.int .i64 0,.int .i64 0,.int .i64 0,.int .i64 0,.int .i64 0,.int .i64 0]) ?_ 1 _ rfl;(with_reducible repeat (first | refine blk_drewN ?_ _ | refine blk_drew ?_ | refine blk_alloc ?_ _));refine blk_put (cs:=#[.int .i64 0,.int .i64 0,.int .i64 0,.int .i64 0,.int .i64 0,.int .i64 0,.int .i64 0,.int .i64 0,.int .i64 0,.int .i64 0]) ?_ 0 _ rfl;(with_reducible repeat (first | refine blk_drewN ?_ _ | refine blk_drew ?_ | refine blk_alloc ?_ _));exact BK357.out) Try.underlying45 rfl (by kernel_rfl)) rfl ?_
  exact ⟨by first | rfl | (simp [errW_none,errW_some] <;> rfl) | (simp [*,errW_none,errW_some] <;> rfl),by repeat (first | (with_reducible first | exact HB.out | apply below_alloc | apply pw_below_drewN | apply below_drew1 | refine below_set ?_ GE357.out) | exact HB.out)⟩
 ·rw [if_neg c2] at H
  have c2b0 : (a0 == 1) = false:=beq_eq_false_iff_ne.mpr c2
  have c2b1 : (a0 != 1) = true:=bne_iff_ne.mpr c2
  simp only [Option.some.injEq,Prod.mk.injEq] at H
  obtain ⟨rfl,rfl,rfl,rfl,rfl,rfl,rfl,rfl,rfl,rfl⟩:=H
  go_enter Try.func73,Try.ntmps73
  go_wp2_with (first | ((with_reducible refine gate_dst (N:=2) rfl ?_);refine box_event ?hg (N:=2) ?hd (cs:=#[.int .i64 0,.int .i64 0,.int .i64 0,.int .i64 0,.int .i64 0,.int .i64 0,.int .i64 0,.int .i64 0,.int .i64 0,.int .i64 0]) (t:=45) ?hr ?_;(case hd => rfl);(case hg => rfl);(case hr => first | (go_simp;done) | (go_simp;rfl));intro gb357 hg w5 hbox hb;have n0_:=Aside0.mk (below_step (by repeat (first | (with_reducible first | exact HB.out | apply below_alloc | apply pw_below_drewN | apply below_drew1) | exact HB.out)) hb);have n1_:=Aside0.mk (hbox);have n2_:=Aside0.mk ((by rw [hg];exact (below_size (by repeat (first | (with_reducible first | exact HB.out | apply below_alloc | apply pw_below_drewN | apply below_drew1) | exact HB.out))) : w.heap.size ≤ gb357));have n3_:=Aside0.mk ((by rw [hg];exact (below_size (by repeat (first | (with_reducible first | exact HB.out | apply below_alloc | apply pw_below_drewN | apply below_drew1) | exact HB.out))) : w.heap.size ≤ gb357));clear HB;have HB:=n0_;have BK357:=n1_;have GW357:=n2_;have GE357:=n3_;clear n0_ n1_ n2_ n3_;clear hb hbox hg;have hcz6_0 : w5.cell? ⟨gb357,0,none⟩ = some (.int .i64 0):=(blk_cell BK357.out 0).trans rfl;have hcz6_1 : w5.cell? ⟨gb357,1,none⟩ = some (.int .i64 0):=(blk_cell BK357.out 1).trans rfl;have hcz6_2 : w5.cell? ⟨gb357,2,none⟩ = some (.int .i64 0):=(blk_cell BK357.out 2).trans rfl;have hcz6_3 : w5.cell? ⟨gb357,3,none⟩ = some (.int .i64 0):=(blk_cell BK357.out 3).trans rfl;have hcz6_4 : w5.cell? ⟨gb357,4,none⟩ = some (.int .i64 0):=(blk_cell BK357.out 4).trans rfl;have hcz6_5 : w5.cell? ⟨gb357,5,none⟩ = some (.int .i64 0):=(blk_cell BK357.out 5).trans rfl;have hcz6_6 : w5.cell? ⟨gb357,6,none⟩ = some (.int .i64 0):=(blk_cell BK357.out 6).trans rfl;have hcz6_7 : w5.cell? ⟨gb357,7,none⟩ = some (.int .i64 0):=(blk_cell BK357.out 7).trans rfl;have hcz6_8 : w5.cell? ⟨gb357,8,none⟩ = some (.int .i64 0):=(blk_cell BK357.out 8).trans rfl;have hcz6_9 : w5.cell? ⟨gb357,9,none⟩ = some (.int .i64 0):=(blk_cell BK357.out 9).trans rfl;have hfz6_0:=blk_frozen BK357.out 0;have hfz6_1:=blk_frozen BK357.out 1;have hfz6_2:=blk_frozen BK357.out 2;have hfz6_3:=blk_frozen BK357.out 3;have hfz6_4:=blk_frozen BK357.out 4;have hfz6_5:=blk_frozen BK357.out 5;have hfz6_6:=blk_frozen BK357.out 6;have hfz6_7:=blk_frozen BK357.out 7;have hfz6_8:=blk_frozen BK357.out 8;have hfz6_9:=blk_frozen BK357.out 9))
  refine bodyPost_ret (results_cell_row rfl _ _ gb357 45 #[.int .i64 2,.int .i64 10,.int .i64 0,.int .i64 0,.int .i64 5,.int .i64 3,.int .i64 5,.int .i64 3,.int .i64 4,.int .i64 6] (0,0) _ rfl (by (with_reducible repeat (first | refine blk_drewN ?_ _ | refine blk_drew ?_ | refine blk_alloc ?_ _));refine blk_put (cs:=#[.int .i64 2,.int .i64 10,.int .i64 0,.int .i64 0,.int .i64 5,.int .i64 3,.int .i64 5,.int .i64 3,.int .i64 4,.int .i64 0]) ?_ 9 _ rfl;(with_reducible repeat (first | refine blk_drewN ?_ _ | refine blk_drew ?_ | refine blk_alloc ?_ _));refine blk_put (cs:=#[.int .i64 2,.int .i64 10,.int .i64 0,.int .i64 0,.int .i64 5,.int .i64 3,.int .i64 5,.int .i64 3,.int .i64 0,.int .i64 0]) ?_ 8 _ rfl;(with_reducible repeat (first | refine blk_drewN ?_ _ | refine blk_drew ?_ | refine blk_alloc ?_ _));refine blk_put (cs:=#[.int .i64 2,.int .i64 10,.int .i64 0,.int .i64 0,.int .i64 5,.int .i64 3,.int .i64 5,.int .i64 0,.int .i64 0,.int .i64 0]) ?_ 7 _ rfl;(with_reducible repeat (first | refine blk_drewN ?_ _ | refine blk_drew ?_ | refine blk_alloc ?_ _));refine blk_put (cs:=#[.int .i64 2,.int .i64 10,.int .i64 0,.int .i64 0,.int .i64 5,.int .i64 3,.int .i64 0,.int .i64 0,.int .i64 0,.int .i64 0]) ?_ 6 _ rfl;(with_reducible repeat (first | refine blk_drewN ?_ _ | refine blk_drew ?_ | refine blk_alloc ?_ _));refine blk_put (cs:=#[.int .i64 2,.int .i64 10,.int .i64 0,.int .i64 0,.int .i64 5,.int .i64 0,.int .i64 0,.int .i64 0,.int .i64 0,.int .i64 0]) ?_ 5 _ rfl;(with_reducible repeat (first | refine blk_drewN ?_ _ | refine blk_drew ?_ | refine blk_alloc ?_ _));refine blk_put (cs:=#[.int .i64 2,.int .i64 10,.int .i64 0,.int .i64 0,.int .i64 0,.int .i64 0,.int .i64 0,.int .i64 0,.int .i64 0,.int .i64 0]) ?_ 4 _ rfl;(with_reducible repeat (first | refine blk_drewN ?_ _ | refine blk_drew ?_ | refine blk_alloc ?_ _));refine blk_put (cs:=#[.int .i64 2,.int .i64 10,.int .i64 0,.int .i64 0,.int .i64 0,.int .i64 0,.int .i64 0,.int .i64 0,.int .i64 0,.int .i64 0]) ?_ 3 _ rfl;(with_reducible repeat (first | refine blk_drewN ?_ _ | refine blk_drew ?_ | refine blk_alloc ?_ _));refine blk_put (cs:=#[.int .i64 2,.int .i64 10,.int .i64 0,.int .i64 0,.int .i64 0,.int .i64 0,.int .i64 0,.int .i64 0,.int .i64 0,.int .i64 0]) ?_ 2 _ rfl;(with_reducible repeat (first | refine blk_drewN ?_ _ | refine blk_drew ?_ | refine blk_alloc ?_ _));refine blk_put (cs:=#[.int .i64 2,.int .i64 0,.int .i64 0,.int .i64 0,.int .i64 0,.int .i64 0,.int .i64 0,.int .i64 0,.int .i64 0,.int .i64 0]) ?_ 1 _ rfl;(with_reducible repeat (first | refine blk_drewN ?_ _ | refine blk_drew ?_ | refine blk_alloc ?_ _));refine blk_put (cs:=#[.int .i64 0,.int .i64 0,.int .i64 0,.int .i64 0,.int .i64 0,.int .i64 0,.int .i64 0,.int .i64 0,.int .i64 0,.int .i64 0]) ?_ 0 _ rfl;(with_reducible repeat (first | refine blk_drewN ?_ _ | refine blk_drew ?_ | refine blk_alloc ?_ _));exact BK357.out) Try.underlying45 rfl (by kernel_rfl)) rfl ?_
  exact ⟨by first | rfl | (simp [errW_none,errW_some] <;> rfl) | (simp [*,errW_none,errW_some] <;> rfl),by repeat (first | (with_reducible first | exact HB.out | apply below_alloc | apply pw_below_drewN | apply below_drew1 | refine below_set ?_ GE357.out) | exact HB.out)⟩
end Go.Proofs.Ytbiijcehgiibeaa.Q
namespace Go.Proofs.Ytbiijcehgiibeaa.H
open Go.RowKit Go.Proofs.YtbiijcehgiibeaaW.PrintWords Go.Proofs.YtbiijcehgiibeaaW.PrintLast Go.Proofs.YtbiijcehgiibeaaW.PrintMore Go.Proofs.Ytbiijcehgiibeaa.Q
set_option linter.unusedVariables false
set_option linter.unusedSimpArgs false
def t41_3.T : Bool × List (List Nat × List Nat):=(true,[([],[]),([0],[0]),([1],[1]),([2],[2]),([3,2],[2,3]),([4,2],[2,4]),([2,5],[2,5]),([6,2],[6]),([7],[7]),([8,7],[7,8]),([7,9],[7,9]),([10,7],[10]),([11],[11]),([11],[11]),([12,13,11],[11,12,13]),([11,14],[11,14]),([15,11],[15]),([16],[16]),([16,16],[16]),([17,18,16],[16,17,18]),([16,19],[16,19]),([20,18,0,1,2,3,4,5,6,7,8,9,10,11,12,13,14,15,16,17,18,19,20],[20])])
def t41_3.B : List Nat:=[0,1,3,7,15,31,63,127,255,511,1023,2047,4095,4095,16383,32767,65535,131071,131071,524287,1048575,2097151]
theorem t41_3.tab : rtab .any (opsOf Try.f41 3) = t41_3.T:=by kernel_rfl
theorem t41_3.bits : waitsOk t41_3.T.2 t41_3.B = true:=by kernel_rfl
theorem aw_vals : ∃ hs : List Int,policy_Header.f 1 10 1 2 0 0 5 3 4 6 = some (hs,0) ∧ policy_Read.f hs = some (1,10,1,2,0,0,5,3,4,6,18,0,0) ∧ (hs.length : Int) = 18:=⟨(Pol.header ⟨1,10,1,2,0,0,5,3,4,6⟩).1,by kernel_rfl,by kernel_rfl,by kernel_rfl⟩
set_option maxHeartbeats 4000000 in
set_option maxRecDepth 100000 in
theorem awake_ext (w : World) : Calls Try.prog 41 #[] w fun e w' => e = .returned (.bool true) ∧ Below w.heap.size w w':=by
 obtain ⟨hs,e1,e2,e3⟩:=aw_vals
 have hu45:=Try.underlying45
 have hu50:=Try.underlying50
 have E1:=Aside0.mk e1
 have E2:=Aside0.mk e2
 have b18 : ((hs.length : Int) == 18) = true:=beq_iff_eq.2 e3
 have HB:=Aside0.mk (Below.refl w.heap.size w)
 clear e1 e2 e3
 go_enter Try.func41,Try.ntmps41
 go_wp2_with (first | (go_at_call 73;replace HB : Aside0 (Below w.heap.size w w):=HB;(with_reducible refine (reevelaw04_Plain.calls 1 1 10 1 2 0 0 5 3 4 6 _ rfl).mono ?_);rintro e W1 ⟨rfl,hb⟩;replace HB : Aside0 (Below w.heap.size w W1):=Aside0.mk (below_step HB.out hb);clear hb) | (go_at_call 42;replace HB : Aside0 (Below w.heap.size w W1):=HB;(with_reducible refine (policy_Header.calls 1 10 1 2 0 0 5 3 4 6 hs 0 _ E1.out).mono ?_);rintro e W2 ⟨v0,rfl,ho,hb⟩;obtain ⟨Ao,co,eo⟩:=Kd.R_slice ho;subst eo;have HC:=Aside0.mk (Kd.R_reads' ho).2.2;have HL:=Aside0.mk (Kd.R_reads' ho).2.1;clear ho;replace HB : Aside0 (Below w.heap.size w W2):=Aside0.mk (below_step HB.out hb);clear hb) | (go_at_call 43;replace HB : Aside0 (Below w.heap.size w W2):=HB;(with_reducible refine (policy_Read.calls _ _ hs 1 10 1 2 0 0 5 3 4 6 18 0 0 _ ?s1 ?s2 E2.out).mono ?_);(case s1 => exact HC.out);(case s2 => exact HL.out);rintro e W3 ⟨rfl,hb⟩;have nHC:=Aside0.mk (Kd.C_below HC.out hb);replace HB : Aside0 (Below w.heap.size w W3):=Aside0.mk (below_step HB.out hb);clear HC;have HC:=nHC;clear nHC;clear hb) | ((with_reducible refine gate_dst (N:=3) rfl ?_);replace HB : Aside0 (Below w.heap.size w W3):=HB;refine box_event ?hg (N:=3) ?hd (cs:=#[.int .i64 0,.int .i64 0,.int .i64 0,.int .i64 0,.int .i64 0,.int .i64 0,.int .i64 0,.int .i64 0,.int .i64 0,.int .i64 0]) (t:=45) ?hr ?_;(case hd => rfl);(case hg => rfl);(case hr => first | (go_simp;done) | (go_simp;rfl));intro gq hg W4 hbox hb;have Lgq : Aside0 (w.heap.size ≤ gq):=Aside0.mk (by rw [hg];exact below_size HB.out);replace HB : Aside0 (Below w.heap.size w W4):=Aside0.mk (below_step HB.out hb);have Kgq : Aside0 (W4.heap[gq]? = some (.cells #[.int .i64 0,.int .i64 0,.int .i64 0,.int .i64 0,.int .i64 0,.int .i64 0,.int .i64 0,.int .i64 0,.int .i64 0,.int .i64 0] 45 (0,0))):=Aside0.mk hbox;clear hb hbox hg;have kgq:=blk_cell Kgq.out;have fgq:=blk_frozen Kgq.out) | ((with_reducible refine gate_dst (N:=5) rfl ?_);replace HB : Aside0 (Below w.heap.size w W4):=HB;refine box_event ?hg (N:=5) ?hd (cs:=#[.int .i64 0,.int .i64 0]) (t:=50) ?hr ?_;(case hd => rfl);(case hg => rfl);(case hr => first | (go_simp;done) | (go_simp;rfl));intro gz hg W5 hbox hb;have Lgz : Aside0 (w.heap.size ≤ gz):=Aside0.mk (by rw [hg];exact below_size HB.out);have Ngq_gz : Aside0 (gq ≠ gz):=Aside0.mk (by rw [hg];exact Nat.ne_of_lt (blk_lt Kgq.out));have Ngz_gq : Aside0 (gz ≠ gq):=Aside0.mk (fun e => Ngq_gz.out e.symm);replace Kgq:=Aside0.mk (blk_below Kgq.out hb);replace HB : Aside0 (Below w.heap.size w W5):=Aside0.mk (below_step HB.out hb);clear kgq fgq;have Kgz : Aside0 (W5.heap[gz]? = some (.cells #[.int .i64 0,.int .i64 0] 50 (0,0))):=Aside0.mk hbox;clear hb hbox hg;have kgq:=blk_cell Kgq.out;have fgq:=blk_frozen Kgq.out;have kgz:=blk_cell Kgz.out;have fgz:=blk_frozen Kgz.out) | ((with_reducible refine gate_store (t:=45) (p:=3) rfl ?_);replace HB : Aside0 (Below w.heap.size w W5):=HB;refine H.put_event (t:=45) (p:=3) (i:=0) rfl rfl rfl [.int .i64 1,.int .i64 10,.int .i64 1,.int .i64 2,.int .i64 0,.int .i64 0,.int .i64 5,.int .i64 3,.int .i64 4,.int .i64 6] Kgq.out rfl rfl (by kernel_rfl) (by kernel_rfl) (by kernel_rfl) ?_;intro W6 hw;replace Kgq : Aside0 (W6.heap[gq]? = some (.cells #[.int .i64 1,.int .i64 10,.int .i64 1,.int .i64 2,.int .i64 0,.int .i64 0,.int .i64 5,.int .i64 3,.int .i64 4,.int .i64 6] 45 (0,0))):=Aside0.mk (H.blk_fill hw Kgq.out (by kernel_rfl));replace Kgz:=Aside0.mk (H.far_fill hw Ngz_gq.out Kgz.out);replace HB : Aside0 (Below w.heap.size w W6):=Aside0.mk (H.below_fill hw Lgq.out HB.out);clear kgq fgq kgz fgz;clear hw;have kgq:=blk_cell Kgq.out;have fgq:=blk_frozen Kgq.out;have kgz:=blk_cell Kgz.out;have fgz:=blk_frozen Kgz.out) | ((with_reducible refine gate_store (t:=50) (p:=5) rfl ?_);replace HB : Aside0 (Below w.heap.size w W6):=HB;refine H.put_event (t:=50) (p:=5) (i:=0) rfl rfl rfl [.int .i64 0,.int .i64 0] Kgz.out rfl rfl (by kernel_rfl) (by kernel_rfl) (by kernel_rfl) ?_;intro W7 hw;replace Kgq:=Aside0.mk (H.far_fill hw Ngq_gz.out Kgq.out);replace Kgz : Aside0 (W7.heap[gz]? = some (.cells #[.int .i64 0,.int .i64 0] 50 (0,0))):=Aside0.mk (H.blk_fill hw Kgz.out (by kernel_rfl));replace HB : Aside0 (Below w.heap.size w W7):=Aside0.mk (H.below_fill hw Lgz.out HB.out);clear kgq fgq kgz fgz;clear hw;have kgq:=blk_cell Kgq.out;have fgq:=blk_frozen Kgq.out;have kgz:=blk_cell Kgz.out;have fgz:=blk_frozen Kgz.out))
 replace Kgq:=Aside0.mk (blk_drew Kgq.out); 
 replace Kgz:=Aside0.mk (blk_drew Kgz.out); 
 replace HB:=Aside0.mk (below_drew1 HB.out); 
 clear kgq fgq kgz fgz
 refine start_ (n:=22) (S:=fun w' => w'.cell? ⟨gz,0,none⟩ = some (.int .i64 0) ∧ w'.cell? ⟨gz,1,none⟩ = some (.int .i64 0) ∧ w'.cell? ⟨gq,0,none⟩ = some (.int .i64 1) ∧ w'.cell? ⟨gq,1,none⟩ = some (.int .i64 10) ∧ w'.cell? ⟨gq,2,none⟩ = some (.int .i64 1) ∧ w'.cell? ⟨gq,3,none⟩ = some (.int .i64 2) ∧ w'.cell? ⟨gq,4,none⟩ = some (.int .i64 0) ∧ w'.cell? ⟨gq,5,none⟩ = some (.int .i64 0) ∧ w'.cell? ⟨gq,6,none⟩ = some (.int .i64 5) ∧ w'.cell? ⟨gq,7,none⟩ = some (.int .i64 3) ∧ w'.cell? ⟨gq,8,none⟩ = some (.int .i64 4) ∧ w'.cell? ⟨gq,9,none⟩ = some (.int .i64 6)) (ds:=[]) #[false,false,false,false,false,false,false,false,false,false,false,false,false,false,false,false,false,false,false,false,false,false] (by kernel_rfl) rfl rfl ⟨(blk_cell Kgz.out 0).trans rfl,(blk_cell Kgz.out 1).trans rfl,(blk_cell Kgq.out 0).trans rfl,(blk_cell Kgq.out 1).trans rfl,(blk_cell Kgq.out 2).trans rfl,(blk_cell Kgq.out 3).trans rfl,(blk_cell Kgq.out 4).trans rfl,(blk_cell Kgq.out 5).trans rfl,(blk_cell Kgq.out 6).trans rfl,(blk_cell Kgq.out 7).trans rfl,(blk_cell Kgq.out 8).trans rfl,(blk_cell Kgq.out 9).trans rfl⟩ (fun hHeld => ?_)
 refine with_tabW t41_3.tab t41_3.bits (fun HT_ HW_ => ?_)
 generalize W7.drew = W8 at Kgq Kgz HB hHeld ⊢
 refine pure_ (i:=0) (N:=some 17) (v:=?_) (a':=?_) #[true,false,false,false,false,false,false,false,false,false,false,false,false,false,false,false,false,false,false,false,false,false] rfl rfl (any_of HT_.out (by kernel_rfl)) (fun _ _ _ h => h) (Or.inl ⟨by rfl,?_⟩) ?_ ?_
 rotate_left
 ·intro w'
  go_simp
  with_reducible rfl
 rotate_left
 ·simp only [Act.put,zA,zB,zC,i64_w,i32_w]
  rfl
 refine pure_ (i:=1) (N:=some 18) (v:=?_) (a':=?_) #[true,true,false,false,false,false,false,false,false,false,false,false,false,false,false,false,false,false,false,false,false,false] rfl rfl (any_of HT_.out (by kernel_rfl)) (fun _ _ _ h => h) (Or.inl ⟨by rfl,?_⟩) ?_ ?_
 rotate_left
 ·intro w'
  go_simp
  with_reducible rfl
 rotate_left
 ·simp only [Act.put,zA,zB,zC,i64_w,i32_w]
  rfl
 refine pure_ (i:=2) (N:=some 19) (v:=?_) (a':=?_) #[true,true,true,false,false,false,false,false,false,false,false,false,false,false,false,false,false,false,false,false,false,false] rfl rfl (any_of HT_.out (by kernel_rfl)) (fun _ _ _ h => h) (Or.inl ⟨by rfl,?_⟩) ?_ ?_
 rotate_left
 ·intro w'
  go_simp
  with_reducible rfl
 rotate_left
 ·simp only [Act.put,zA,zB,zC,i64_w,i32_w]
  rfl
 refine pure_ (i:=3) (N:=some 20) (v:=?_) (a':=?_) #[true,true,true,true,false,false,false,false,false,false,false,false,false,false,false,false,false,false,false,false,false,false] rfl rfl (any_of HT_.out (by kernel_rfl)) (fun _ _ _ h => h) (Or.inl ⟨by rfl,?_⟩) ?_ ?_
 rotate_left
 ·intro w'
  go_simp
  with_reducible rfl
 rotate_left
 ·simp only [Act.put,zA,zB,zC,i64_w,i32_w]
  rfl
 refine pure_ (i:=4) (N:=some 21) (v:=?_) (a':=?_) #[true,true,true,true,true,false,false,false,false,false,false,false,false,false,false,false,false,false,false,false,false,false] rfl rfl (any_of HT_.out (by kernel_rfl)) (fun _ _ _ h => h) (Or.inl ⟨by rfl,?_⟩) ?_ ?_
 rotate_left
 ·intro w'
  go_simp
  with_reducible rfl
 rotate_left
 ·simp only [Act.put,zA,zB,zC,i64_w,i32_w]
  rfl
 refine pure_ (i:=5) (N:=some 22) (v:=?_) (a':=?_) #[true,true,true,true,true,true,false,false,false,false,false,false,false,false,false,false,false,false,false,false,false,false] rfl rfl (any_of HT_.out (by kernel_rfl)) (fun _ _ _ h => h) (Or.inl ⟨by rfl,?_⟩) ?_ ?_
 rotate_left
 ·intro w'
  go_simp
  with_reducible rfl
 rotate_left
 ·simp only [Act.put,zA,zB,zC,i64_w,i32_w]
  rfl
 refine pure_ (i:=6) (N:=some 23) (v:=?_) (a':=?_) #[true,true,true,true,true,true,true,false,false,false,false,false,false,false,false,false,false,false,false,false,false,false] rfl rfl (any_of HT_.out (by kernel_rfl)) (fun _ _ _ h => h) (Or.inl ⟨by rfl,?_⟩) ?_ ?_
 rotate_left
 ·intro w'
  go_simp
  with_reducible rfl
 rotate_left
 ·simp only [Act.put,zA,zB,zC,i64_w,i32_w]
  rfl
 refine pure_ (i:=7) (N:=some 24) (v:=?_) (a':=?_) #[true,true,true,true,true,true,true,true,false,false,false,false,false,false,false,false,false,false,false,false,false,false] rfl rfl (any_of HT_.out (by kernel_rfl)) (fun _ _ _ h => h) (Or.inl ⟨by rfl,?_⟩) ?_ ?_
 rotate_left
 ·intro w'
  go_simp
  with_reducible rfl
 rotate_left
 ·simp only [Act.put,zA,zB,zC,i64_w,i32_w]
  rfl
 refine pure_ (i:=8) (N:=some 25) (v:=?_) (a':=?_) #[true,true,true,true,true,true,true,true,true,false,false,false,false,false,false,false,false,false,false,false,false,false] rfl rfl (any_of HT_.out (by kernel_rfl)) (fun _ _ _ h => h) (Or.inl ⟨by rfl,?_⟩) ?_ ?_
 rotate_left
 ·intro w'
  go_simp
  with_reducible rfl
 rotate_left
 ·simp only [Act.put,zA,zB,zC,i64_w,i32_w]
  rfl
 refine pure_ (i:=9) (N:=some 26) (v:=?_) (a':=?_) #[true,true,true,true,true,true,true,true,true,true,false,false,false,false,false,false,false,false,false,false,false,false] rfl rfl (any_of HT_.out (by kernel_rfl)) (fun _ _ _ h => h) (Or.inl ⟨by rfl,?_⟩) ?_ ?_
 rotate_left
 ·intro w'
  go_simp
  with_reducible rfl
 rotate_left
 ·simp only [Act.put,zA,zB,zC,i64_w,i32_w]
  rfl
 refine pure_ (i:=10) (N:=some 27) (v:=?_) (a':=?_) #[true,true,true,true,true,true,true,true,true,true,true,false,false,false,false,false,false,false,false,false,false,false] rfl rfl (any_of HT_.out (by kernel_rfl)) (fun _ _ _ h => h) (Or.inl ⟨by rfl,?_⟩) ?_ ?_
 rotate_left
 ·intro w'
  go_simp
  with_reducible rfl
 rotate_left
 ·simp only [Act.put,zA,zB,zC,i64_w,i32_w]
  rfl
 refine pure_ (i:=11) (N:=some 28) (v:=?_) (a':=?_) #[true,true,true,true,true,true,true,true,true,true,true,true,false,false,false,false,false,false,false,false,false,false] rfl rfl (any_of HT_.out (by kernel_rfl)) (fun _ _ _ h => h) (Or.inl ⟨by rfl,?_⟩) ?_ ?_
 rotate_left
 ·intro w'
  go_simp
  with_reducible rfl
 rotate_left
 ·simp only [Act.put,zA,zB,zC,i64_w,i32_w]
  rfl
 refine pure_ (i:=13) (N:=some 30) (v:=?_) (a':=?_) #[true,true,true,true,true,true,true,true,true,true,true,true,false,true,false,false,false,false,false,false,false,false] rfl rfl (any_of HT_.out (by kernel_rfl)) (fun _ _ _ h => h) (Or.inl ⟨by rfl,?_⟩) ?_ ?_
 rotate_left
 ·intro w'
  go_simp
  with_reducible rfl
 rotate_left
 ·simp only [Act.put,zA,zB,zC,i64_w,i32_w]
  rfl
 refine take_ (i:=12) (N:=some 29) (v:=?_) (a':=?_) #[true,true,true,true,true,true,true,true,true,true,true,true,true,true,false,false,false,false,false,false,false,false] rfl rfl (take_ofW HT_.out HW_.out (by kernel_rfl)) (fun _ _ _ h => h) (Or.inl ⟨by rfl,?_⟩) hHeld ?_ ?_
 rotate_left
 ·rintro w' ⟨s0,s1,s2,s3,s4,s5,s6,s7,s8,s9,s10,s11⟩
  go_simp
  with_reducible rfl
 rotate_left
 ·simp only [Act.put,zA,zB,zC,i64_w,i32_w]
  rfl
 refine pure_ (i:=14) (N:=some 31) (v:=?_) (a':=?_) #[true,true,true,true,true,true,true,true,true,true,true,true,true,true,true,false,false,false,false,false,false,false] rfl rfl (any_of HT_.out (by kernel_rfl)) (fun _ _ _ h => h) (Or.inl ⟨by rfl,?_⟩) ?_ ?_
 rotate_left
 ·intro w'
  go_simp
  with_reducible rfl
 rotate_left
 ·simp only [Act.put,zA,zB,zC,i64_w,i32_w]
  rfl
 refine pure_ (i:=15) (N:=some 32) (v:=?_) (a':=?_) #[true,true,true,true,true,true,true,true,true,true,true,true,true,true,true,true,false,false,false,false,false,false] rfl rfl (any_of HT_.out (by kernel_rfl)) (fun _ _ _ h => h) (Or.inl ⟨by rfl,?_⟩) ?_ ?_
 rotate_left
 ·intro w'
  go_simp
  with_reducible rfl
 rotate_left
 ·simp only [Act.put,zA,zB,zC,i64_w,i32_w]
  rfl
 refine pure_ (i:=16) (N:=some 33) (v:=?_) (a':=?_) #[true,true,true,true,true,true,true,true,true,true,true,true,true,true,true,true,true,false,false,false,false,false] rfl rfl (any_of HT_.out (by kernel_rfl)) (fun _ _ _ h => h) (Or.inl ⟨by rfl,?_⟩) ?_ ?_
 rotate_left
 ·intro w'
  go_simp
  with_reducible rfl
 rotate_left
 ·simp only [Act.put,zA,zB,zC,i64_w,i32_w]
  rfl
 refine take_ (i:=17) (N:=some 34) (v:=?_) (a':=?_) #[true,true,true,true,true,true,true,true,true,true,true,true,true,true,true,true,true,true,false,false,false,false] rfl rfl (take_ofW HT_.out HW_.out (by kernel_rfl)) (fun _ _ _ h => h) (Or.inl ⟨by rfl,?_⟩) hHeld ?_ ?_
 rotate_left
 ·rintro w' ⟨s0,s1,s2,s3,s4,s5,s6,s7,s8,s9,s10,s11⟩
  go_simp
  with_reducible rfl
 rotate_left
 ·simp only [Act.put,zA,zB,zC,i64_w,i32_w]
  rfl
 refine one_ (i:=18) (N:=some 35) #[true,true,true,true,true,true,true,true,true,true,true,true,true,true,true,true,true,true,true,false,false,false] rfl rfl (one_of HT_.out (by kernel_rfl)) (by decide) (fun K hK => ?_)
 refine goes_ Try.func73 (by kernel_rfl) rfl #[.int .i64 1] (by rfl) rfl rfl (by (try simp only [List.map_toArray,List.map_cons,List.map_nil]);first | done | rfl) ?_
 with_reducible refine (reevelaw04_Plain.calls 1 1 10 1 2 0 0 5 3 4 6 _ rfl).mono ?_
 rintro e W9 ⟨rfl,hb⟩
 refine ⟨_,rfl,?_⟩
 have ngq:=Aside0.mk (blk_below Kgq.out hb)
 have ngz:=Aside0.mk (blk_below Kgz.out hb)
 have nB : Aside0 (Below w.heap.size w W9):=Aside0.mk (below_step HB.out hb)
 clear Kgq;have Kgq:=ngq;clear ngq
 clear Kgz;have Kgz:=ngz;clear ngz
 clear HB;have HB:=nB;clear nB
 clear hb
 have kgq:=blk_cell Kgq.out;have fgq:=blk_frozen Kgq.out
 have kgz:=blk_cell Kgz.out;have fgz:=blk_frozen Kgz.out
 refine hK.out _ _ ⟨(blk_cell Kgz.out 0).trans rfl,(blk_cell Kgz.out 1).trans rfl,(blk_cell Kgq.out 0).trans rfl,(blk_cell Kgq.out 1).trans rfl,(blk_cell Kgq.out 2).trans rfl,(blk_cell Kgq.out 3).trans rfl,(blk_cell Kgq.out 4).trans rfl,(blk_cell Kgq.out 5).trans rfl,(blk_cell Kgq.out 6).trans rfl,(blk_cell Kgq.out 7).trans rfl,(blk_cell Kgq.out 8).trans rfl,(blk_cell Kgq.out 9).trans rfl⟩ (fun hHeld => ?_)
 clear hK K
 refine norm_ (a':=?_) ?_ ?_
 rotate_left
 ·show Act.put _ (some 35) _ = _
  simp only [Act.put,zA,zB,zC,i64_w,i32_w]
  rfl
 refine pure_ (i:=19) (N:=some 36) (v:=?_) (a':=?_) #[true,true,true,true,true,true,true,true,true,true,true,true,true,true,true,true,true,true,true,true,false,false] rfl rfl (any_of HT_.out (by kernel_rfl)) (fun _ _ _ h => h) (Or.inl ⟨by rfl,?_⟩) ?_ ?_
 rotate_left
 ·intro w'
  go_simp
  with_reducible rfl
 rotate_left
 ·simp only [Act.put,zA,zB,zC,i64_w,i32_w]
  rfl
 refine pure_ (i:=20) (N:=some 37) (v:=?_) (a':=?_) #[true,true,true,true,true,true,true,true,true,true,true,true,true,true,true,true,true,true,true,true,true,false] rfl rfl (any_of HT_.out (by kernel_rfl)) (fun _ _ _ h => h) (Or.inl ⟨by rfl,?_⟩) ?_ ?_
 rotate_left
 ·intro w'
  go_simp
  with_reducible rfl
 rotate_left
 ·simp only [Act.put,zA,zB,zC,i64_w,i32_w]
  rfl
 refine pure_ (i:=21) (N:=some 0) (v:=?_) (a':=?_) #[true,true,true,true,true,true,true,true,true,true,true,true,true,true,true,true,true,true,true,true,true,true] rfl rfl (any_of HT_.out (by kernel_rfl)) (fun _ _ _ h => h) (Or.inl ⟨by rfl,?_⟩) ?_ ?_
 rotate_left
 ·intro w'
  go_simp
  with_reducible rfl
 rotate_left
 ·simp only [Act.put,zA,zB,zC,i64_w,i32_w]
  rfl
 refine done_ (done_of HT_.out (by kernel_rfl)) ?_
 try go_wp2
 go_ret
 exact ⟨rfl,HB.out⟩
end Go.Proofs.Ytbiijcehgiibeaa.H
namespace Go.Proofs.Ytbiijcehgiibeaa.Q
open Go.RowKit Go.Proofs.YtbiijcehgiibeaaW.PrintWords Go.Proofs.YtbiijcehgiibeaaW.PrintLast Go.Proofs.YtbiijcehgiibeaaW.PrintMore
attribute [local go_sem] max2_int min2_int max_two min_two max_three min_three max_four min_four   -- for this text's walks alone
set_option linter.unusedVariables false
set_option linter.unusedSimpArgs false
def reevelaw04_awake.f : Option (Bool):=some true
theorem reevelaw04_awake.calls  (r : Bool) (w : World) (h : reevelaw04_awake.f  = some r) :
  Calls Try.prog 41 #[] w fun e w' => e = .returned (.bool r) ∧ Below w.heap.size w w':=by
 obtain rfl:=Option.some.inj h
 exact H.awake_ext w
end Go.Proofs.Ytbiijcehgiibeaa.Q
namespace Go.Proofs.Ytbiijcehgiibeaa.H
open Go.RowKit Go.Proofs.YtbiijcehgiibeaaW.PrintWords Go.Proofs.YtbiijcehgiibeaaW.PrintLast Go.Proofs.YtbiijcehgiibeaaW.PrintMore Go.Proofs.Ytbiijcehgiibeaa.Q
set_option linter.unusedVariables false
set_option linter.unusedSimpArgs false
theorem info3 : (Try.prog.info? 3).map (fun i => (i.zero,i.size,i.bytes)) = some (some (.int .i64 0),1,8):=by kernel_rfl
def R3 (base : Nat) (W : World) (v : Value) (xs : List Int) : Prop:=Kd.R (Kd.int .i64) 3 W base (fun _ => True) v xs
theorem R3.below {base : Nat} {W W' : World} {v : Value} {xs : List Int} (h : R3 base W v xs) (hb : Below W.heap.size W W') : R3 base W' v xs:=Kd.R_below h hb
theorem R3.far {base : Nat} {W W' : World} {v : Value} {xs : List Int} (h : R3 base W v xs) {g t i : Nat} {cs : Array Value} {vs : List Value} (K : W.heap[g]? = some (.cells cs t (0,0))) (ht : t ≠ 3) (hw : W' = World.setCells W g i vs) : R3 base W' v xs:=by
 have hh : ∀ k,k ≠ g → W'.heap[k]? = W.heap[k]?:=fun k hne => by
  subst hw
  clear K h
  induction vs generalizing i W with
  | nil => rfl
  | cons v vs ih => rw [World.setCells,ih];exact Below.heap_setCell W ⟨g,i,none⟩ v k hne
 refine Kd.R_move (ok:=fun k => k < W.heap.size ∧ k ≠ g) ?_ (fun k hk => hh k hk.2) |> fun h => Kd.R_mono h (fun _ _ => trivial)
 have:=Kd.R_bound h
 exact Kd.R_mono (Kd.R_types (g:=g) (t:=t) this K (fun q hq => by
  simp [Kd.int,Kd.scalar] at hq
  subst hq
  exact fun e => ht e.symm)) (fun k hk => ⟨hk.1.2.2.1,hk.2⟩)
theorem R3.open {base : Nat} {W : World} {v : Value} {xs : List Int} (h : R3 base W v xs) (h0 : xs ≠ []) : ∃ g c cur,v = .slice (some ⟨g,0,none⟩) xs.length c ∧ base ≤ g ∧ W.heap[g]? = some (Obj.cells cur 3 (0,0)) ∧ ∀ (i : Nat) (x : Int),xs[i]? = some x → cur[i]? = some (Value.int .i64 x):=by
 have ho:=Kd.own_of_R (enc:=Value.int .i64) (h1:=fun _ => rfl) h
 rcases ho.2 with ⟨_,hn⟩ | ⟨g,cap,cur,hv,hg,hc,_,_,_,ht⟩
 ·exact absurd (List.eq_nil_of_length_eq_zero hn) h0
 ·refine ⟨g,cap,cur,hv,hg,hc,fun i x hx => ?_⟩
  have hi:=(List.getElem?_eq_some_iff.1 hx).1
  have h2 : (encs (Value.int .i64) xs)[i]? = some (.int .i64 x):=by simp [encs,hx]
  rw [← ht,List.getElem?_take_of_lt (by omega)] at h2
  rw [← Array.getElem?_toList]
  exact h2
section
variable {ops : Array Oper} {rest : List Oper} {o : Oper} {a : Act} {Q : Exit → Act → World → Prop}
set_option maxRecDepth 20000 in
theorem ints_append {w0 W : World} (hgd : o.guard = none) (s x : Operand) (ho : o.op = .call { callee:=.builtin .append,args:=#[s,x],argTypes:=#[107,107] })
  {v : Value} {xs : List Int} {n : Int} {g c : Nat} (hs : a.eval s = v) (hx : a.eval x = .slice (some ⟨g,0,none⟩) 1 c) (hO : R3 w0.heap.size W v xs) (K : W.heap[g]? = some (.cells #[.int .i64 n] 3 (0,0)))
  (HB : Below w0.heap.size w0 W) (hl : xs.length ≤ 1000)
  (h : ∀ v1 w1,R3 w0.heap.size w1 v1 (xs ++ [n]) → Below w0.heap.size w0 w1 → (∀ (g t : Nat) (cs : Array Value),W.heap[g]? = some (Obj.cells cs t (0,0)) → t ≠ 3 → w1.heap[g]? = some (Obj.cells cs t (0,0))) → wpList Try.prog ops Q rest (a.put o.dst v1) w1) :
  wpList Try.prog ops Q (o :: rest) a W:=by
 have hC : (Kd.int .i64).C W (some ⟨g,0,none⟩) 1 [n]:=by
  refine Kd.C_of_reads (enc:=Value.int .i64) (h1:=fun _ => rfl) (d:=(0 : Int)) ⟨rfl,by decide,fun _ => ⟨⟨g,0,none⟩,rfl,fun j hj => ?_⟩⟩
  obtain rfl : j = 0:=by omega
  exact (blk_cell K 0).trans rfl
 refine Kd.R_append_row (Value.int .i64) (0 : Int) (w0:=w0) w0.heap.size hgd s x 107 3 (.int .i64 0) 8 ho Try.underlying107 info3 rfl (by decide) v xs [n] (some ⟨g,0,none⟩) 1 c (fun _ => True) hs hx (fun _ _ => trivial) hO hC HB HB.size (by omega) ?_
 intro v1 w1 hR hB hG _
 exact h v1 w1 hR hB (fun g t cs hk ht => blk_grown hk hG (Kd.R_ne hO hk (fun e => ht e.symm)))
end
theorem byte_at {W : World} {A : Option Addr} {l : List Int} (h : Kd.C (Kd.int .u8) W A l.length l) (h4 : 4 ≤ l.length) : ∃ ad,A = some ad ∧ ∀ i,i < 4 → W.cell? (ad.add i) = some (.int .u8 (l.getD i 0)):=by
 obtain ⟨_,_,hcell⟩:=Kd.reads_of_C (enc:=Value.int .u8) (h1:=fun _ => rfl) (d:=(0 : Int)) h
 obtain ⟨ad,hA,hcl⟩:=hcell (by omega)
 exact ⟨ad,hA,fun i hi => hcl i (by omega)⟩
theorem byte_in {w W : World} {ad : Addr} {l : List Int} (h : Kd.C (Kd.int .u8) w (some ad) l.length l) (h4 : 4 ≤ l.length) (hb : Below w.heap.size w W) (i : Nat) (hi : i < 4) {c : Int} (hc : l.getD i 0 = c) : W.cell? (ad.add i) = some (.int .u8 c):=by
 obtain ⟨ad',e,hcl⟩:=byte_at (Kd.C_below h hb) h4
 injection e with e
 subst e
 subst hc
 exact hcl i hi
theorem byte_in1 {w W : World} {ad : Addr} {l : List Int} (h : Kd.C (Kd.int .u8) w (some ad) l.length l) (h4 : 4 ≤ l.length) (hb : Below w.heap.size w W) (i : Nat) (h0 : 0 < i) (hi : i < 4) {c : Int} (hc : l.getD i 0 = c) : W.cell? ⟨ad.block,ad.off + i,none⟩ = some (.int .u8 c):=by
 have:=byte_in h h4 hb i hi hc
 rwa [show ad.add i = ⟨ad.block,ad.off + i,none⟩ by unfold Addr.add;rw [if_neg (by omega)]] at this
theorem byte_in0 {w W : World} {ad : Addr} {l : List Int} (h : Kd.C (Kd.int .u8) w (some ad) l.length l) (h4 : 4 ≤ l.length) (hb : Below w.heap.size w W) {c : Int} (hc : l.getD 0 0 = c) : W.cell? ad = some (.int .u8 c):=by
 have:=byte_in h h4 hb 0 (by decide) hc
 rwa [show ad.add 0 = ad by unfold Addr.add;simp] at this
end Go.Proofs.Ytbiijcehgiibeaa.H
namespace Go.Proofs.Ytbiijcehgiibeaa.Pol
def fin8 (l : List Int) (xs : List Int) (n : Nat) (a : Int) : Py × Int × Int × Int:=if (rds l n a).2.2 = 0 then tail l (make (xs.getD 0 0) ((xs ++ (rds l n a).1).drop 1)) (rds l n a).2.1 else (zero,0,(rds l n a).2.2,(rds l n a).2.1)
theorem fin8_succ (l : List Int) (x : Int) (xs : List Int) (n : Nat) (a : Int) : fin8 l (x :: xs) (n + 1) a = if (Pure.readn l a).2.2 = 0 then fin8 l ((x :: xs) ++ [(Pure.readn l a).1]) n (Pure.readn l a).2.1 else (zero,0,(Pure.readn l a).2.2,a):=by
 unfold fin8
 rw [rds]
 by_cases c : (Pure.readn l a).2.2 = 0
 ·rw [if_pos c,if_pos c]
  simp only [List.append_assoc,List.nil_append,List.cons_append,List.getD_cons_zero]
 ·rw [if_neg c,if_neg c,if_neg c]
theorem read_fin8 {l : List Int} (h1 : l.take 4 = reel) (h2 : (Pure.readn l 4).2.2 = 0) (h3 : (Pure.readn l 4).1 = 1 ∨ (Pure.readn l 4).1 = 2) : read l = fin8 l [(Pure.readn l 4).1] 7 (Pure.readn l 4).2.1:=by
 unfold read
 rw [if_pos h1,if_pos h2,if_pos h3]
 rfl
end Go.Proofs.Ytbiijcehgiibeaa.Pol

/- A text that a program of this session wrote (wip/qprint.py, over the kit's printer): Lean functions with the same answers as Go functions of the program, and proofs that the calls come to these answers; where a function is named in wip/ext, its definition and proof were written by hand. Laid tighter for a claim's bound by wip/shake.py (SQ=1). -/
import Derived.Test.YtbiijcehgiibeaaKPReadsJFloat
namespace Go.Proofs.Ytbiijcehgiibeaa.Q
open Go.RowKit Go.Proofs.YtbiijcehgiibeaaW.PrintWords Go.Proofs.YtbiijcehgiibeaaW.PrintLast Go.Proofs.YtbiijcehgiibeaaW.PrintMore
attribute [local go_sem] max2_int min2_int max_two min_two max_three min_three max_four min_four   -- for this text's walks alone
set_option linter.unusedVariables false
set_option linter.unusedSimpArgs false
def reeveref04_in.f (a0 : Int) (a1 : Int) (a2 : Int) : Option (Bool):=if a0 ≥ a1 then (some (decide (a0 ≤ a2))) else (some false)
set_option maxHeartbeats 8000000 in
set_option maxRecDepth 100000 in
theorem reeveref04_in.calls (a0 : Int) (a1 : Int) (a2 : Int) (r : Bool) (w : World) (h : reeveref04_in.f a0 a1 a2 = some r) :
  Calls Try.prog 84 #[.int .i64 a0,.int .i64 a1,.int .i64 a2] w fun e w' => e = .returned (.bool r) ∧ Drawn0 w w':=by
 have H : (if a0 ≥ a1 then (some (decide (a0 ≤ a2))) else (some false)) = some r:=h
 clear h
 by_cases c4 : a0 ≥ a1
 ·rw [if_pos c4] at H
  have c4b0 : decide (a1 ≤ a0) = true:=decide_eq_true c4
  clear c4
  obtain rfl:=Option.some.inj H
  go_enter Try.func84,Try.ntmps84
  go_wp2
  go_ret
  exact ⟨by first | rfl | (simp;done) | (simp [*];done),by repeat (first | exact Drawn0.refl _ | apply Drawn0.step)⟩
 ·rw [if_neg c4] at H
  have c4b0 : decide (a1 ≤ a0) = false:=decide_eq_false c4
  clear c4
  obtain rfl:=Option.some.inj H
  go_enter Try.func84,Try.ntmps84
  go_wp2
  go_ret
  exact ⟨by first | rfl | (simp;done) | (simp [*];done),by repeat (first | exact Drawn0.refl _ | apply Drawn0.step)⟩
mutual
def reeveref04_Right.j0 : Nat → Bool → Int → Int → Int → Int → Int → Int → Int → Int → Int → Int → Option (Int)
 | 0,_,_,_,_,_,_,_,_,_,_,_ => none
 | k + 1,x3,x960000,x960001,x960002,x960003,x960004,x960005,x960006,x960007,x960008,x960009 => if x960000 = 1 then ((reeveref04_in.f x960002 1 65536).bind fun t965 => (if t965 = true then ((reeveref04_in.f x960003 1 65536).bind fun t966 => (if t966 = true then (if x960004 = 0 then (reeveref04_Right.j1 k x3 (x960005 == 0) x960000 x960001 x960002 x960003 x960004 x960005 x960006 x960007 x960008 x960009) else (reeveref04_Right.j1 k x3 false x960000 x960001 x960002 x960003 x960004 x960005 x960006 x960007 x960008 x960009)) else (reeveref04_Right.j1 k x3 false x960000 x960001 x960002 x960003 x960004 x960005 x960006 x960007 x960008 x960009))) else (reeveref04_Right.j1 k x3 false x960000 x960001 x960002 x960003 x960004 x960005 x960006 x960007 x960008 x960009))) else (reeveref04_Right.j1 k x3 false x960000 x960001 x960002 x960003 x960004 x960005 x960006 x960007 x960008 x960009)
def reeveref04_Right.j1 : Nat → Bool → Bool → Int → Int → Int → Int → Int → Int → Int → Int → Int → Int → Option (Int)
 | 0,_,_,_,_,_,_,_,_,_,_,_,_ => none
 | k + 1,x3,x4,x960000,x960001,x960002,x960003,x960004,x960005,x960006,x960007,x960008,x960009 => if x960000 = 2 then ((reeveref04_in.f x960004 1 1048576).bind fun t967 => (if t967 = true then ((reeveref04_in.f x960005 1 32).bind fun t968 => (if t968 = true then (if x960002 = 0 then (if x3 = true then (if x4 = true then (some 0) else (if x960003 = 0 then (some 0) else (some 40))) else (some 40)) else (if x3 = true then (if x4 = true then (some 0) else (some 40)) else (some 40))) else (if x3 = true then (if x4 = true then (some 0) else (some 40)) else (some 40)))) else (if x3 = true then (if x4 = true then (some 0) else (some 40)) else (some 40)))) else (if x3 = true then (if x4 = true then (some 0) else (some 40)) else (some 40))
end
def reeveref04_Right.f (k : Nat) (a0_0 : Int) (a0_1 : Int) (a0_2 : Int) (a0_3 : Int) (a0_4 : Int) (a0_5 : Int) (a0_6 : Int) (a0_7 : Int) (a0_8 : Int) (a0_9 : Int) : Option (Int):=(reeveref04_in.f a0_1 1 1048576).bind fun t960 => (if t960 = true then ((reeveref04_in.f a0_6 1 1000).bind fun t961 => (if t961 = true then ((reeveref04_in.f a0_7 1 64).bind fun t962 => (if t962 = true then ((reeveref04_in.f a0_8 0 1000).bind fun t963 => (if t963 = true then ((reeveref04_in.f a0_9 1 1000).bind fun t964 => (reeveref04_Right.j0 k t964 a0_0 a0_1 a0_2 a0_3 a0_4 a0_5 a0_6 a0_7 a0_8 a0_9)) else (reeveref04_Right.j0 k false a0_0 a0_1 a0_2 a0_3 a0_4 a0_5 a0_6 a0_7 a0_8 a0_9))) else (reeveref04_Right.j0 k false a0_0 a0_1 a0_2 a0_3 a0_4 a0_5 a0_6 a0_7 a0_8 a0_9))) else (reeveref04_Right.j0 k false a0_0 a0_1 a0_2 a0_3 a0_4 a0_5 a0_6 a0_7 a0_8 a0_9))) else (reeveref04_Right.j0 k false a0_0 a0_1 a0_2 a0_3 a0_4 a0_5 a0_6 a0_7 a0_8 a0_9))
set_option maxHeartbeats 8000000 in
set_option maxRecDepth 100000 in
theorem reeveref04_Right.calls (k : Nat) (a0_0 : Int) (a0_1 : Int) (a0_2 : Int) (a0_3 : Int) (a0_4 : Int) (a0_5 : Int) (a0_6 : Int) (a0_7 : Int) (a0_8 : Int) (a0_9 : Int) (r : Int) (w : World) (h : reeveref04_Right.f k a0_0 a0_1 a0_2 a0_3 a0_4 a0_5 a0_6 a0_7 a0_8 a0_9 = some r) :
  Calls Try.prog 65 #[.agg #[.int .i64 a0_0,.int .i64 a0_1,.int .i64 a0_2,.int .i64 a0_3,.int .i64 a0_4,.int .i64 a0_5,.int .i64 a0_6,.int .i64 a0_7,.int .i64 a0_8,.int .i64 a0_9]] w fun e w' => e = .returned (.int .i64 r) ∧ Below w.heap.size w w':=by
 have hu45:=Try.underlying45
 have HB:=Aside0.mk (Below.refl w.heap.size w)
 have H : ((reeveref04_in.f a0_1 1 1048576).bind fun t960 => (if t960 = true then ((reeveref04_in.f a0_6 1 1000).bind fun t961 => (if t961 = true then ((reeveref04_in.f a0_7 1 64).bind fun t962 => (if t962 = true then ((reeveref04_in.f a0_8 0 1000).bind fun t963 => (if t963 = true then ((reeveref04_in.f a0_9 1 1000).bind fun t964 => (reeveref04_Right.j0 k t964 a0_0 a0_1 a0_2 a0_3 a0_4 a0_5 a0_6 a0_7 a0_8 a0_9)) else (reeveref04_Right.j0 k false a0_0 a0_1 a0_2 a0_3 a0_4 a0_5 a0_6 a0_7 a0_8 a0_9))) else (reeveref04_Right.j0 k false a0_0 a0_1 a0_2 a0_3 a0_4 a0_5 a0_6 a0_7 a0_8 a0_9))) else (reeveref04_Right.j0 k false a0_0 a0_1 a0_2 a0_3 a0_4 a0_5 a0_6 a0_7 a0_8 a0_9))) else (reeveref04_Right.j0 k false a0_0 a0_1 a0_2 a0_3 a0_4 a0_5 a0_6 a0_7 a0_8 a0_9))) = some r:=h
 clear h
 have HC2:=Aside0.mk H
 clear H
 go_enter Try.func65,Try.ntmps65
 go_upto_region 1 with (first | ((with_reducible refine gate_dst (N:=1) rfl ?_);refine box_event ?hg (N:=1) ?hd (cs:=#[.int .i64 a0_0,.int .i64 a0_1,.int .i64 a0_2,.int .i64 a0_3,.int .i64 a0_4,.int .i64 a0_5,.int .i64 a0_6,.int .i64 a0_7,.int .i64 a0_8,.int .i64 a0_9]) (t:=45) ?hr ?_;(case hd => rfl);(case hg => rfl);(case hr => first | (go_simp;done) | (go_simp;rfl));intro gb959 hg w3 hbox hb;have n0_:=Aside0.mk (below_step (by repeat (first | (with_reducible first | exact HB.out | apply below_alloc | apply pw_below_drewN | apply below_drew1) | exact HB.out)) hb);have n1_:=Aside0.mk (hbox);have n2_:=Aside0.mk ((by rw [hg];exact (below_size (by repeat (first | (with_reducible first | exact HB.out | apply below_alloc | apply pw_below_drewN | apply below_drew1) | exact HB.out))) : w.heap.size ≤ gb959));have n3_:=Aside0.mk ((by rw [hg];exact (below_size (by repeat (first | (with_reducible first | exact HB.out | apply below_alloc | apply pw_below_drewN | apply below_drew1) | exact HB.out))) : w.heap.size ≤ gb959));clear HB;have HB:=n0_;have BK959:=n1_;have GW959:=n2_;have GE959:=n3_;clear n0_ n1_ n2_ n3_;clear hb hbox hg))
 (try simp only [Act.put,List.setIfInBounds_toArray,List.set_cons_zero,List.set_cons_succ])
 go_cut [3] (fun v3 wc => ∃ (kq : Nat) (x3_1 : Bool),v3 = .bool x3_1 ∧ Aside0 (reeveref04_Right.j0 kq x3_1 a0_0 a0_1 a0_2 a0_3 a0_4 a0_5 a0_6 a0_7 a0_8 a0_9 = some r) ∧ Aside0 (kq ≤ k) ∧ Aside0 (wc.heap[gb959]? = some (.cells #[.int .i64 a0_0,.int .i64 a0_1,.int .i64 a0_2,.int .i64 a0_3,.int .i64 a0_4,.int .i64 a0_5,.int .i64 a0_6,.int .i64 a0_7,.int .i64 a0_8,.int .i64 a0_9] 45 (0,0))) ∧ Aside0 (Below w.heap.size w wc))
 case first =>
  have H:=HC2.out
  clear HC2
  replace H:=Option.bind_eq_some_iff.mp H
  obtain ⟨t960,A40,H⟩:=H
  replace H : (if t960 = true then ((reeveref04_in.f a0_6 1 1000).bind fun t961 => (if t961 = true then ((reeveref04_in.f a0_7 1 64).bind fun t962 => (if t962 = true then ((reeveref04_in.f a0_8 0 1000).bind fun t963 => (if t963 = true then ((reeveref04_in.f a0_9 1 1000).bind fun t964 => (reeveref04_Right.j0 k t964 a0_0 a0_1 a0_2 a0_3 a0_4 a0_5 a0_6 a0_7 a0_8 a0_9)) else (reeveref04_Right.j0 k false a0_0 a0_1 a0_2 a0_3 a0_4 a0_5 a0_6 a0_7 a0_8 a0_9))) else (reeveref04_Right.j0 k false a0_0 a0_1 a0_2 a0_3 a0_4 a0_5 a0_6 a0_7 a0_8 a0_9))) else (reeveref04_Right.j0 k false a0_0 a0_1 a0_2 a0_3 a0_4 a0_5 a0_6 a0_7 a0_8 a0_9))) else (reeveref04_Right.j0 k false a0_0 a0_1 a0_2 a0_3 a0_4 a0_5 a0_6 a0_7 a0_8 a0_9)) = some r:=H
  have A4:=Aside0.mk A40
  clear A40
  by_cases c5 : t960 = true
  ·subst c5
   have H1 : ((reeveref04_in.f a0_6 1 1000).bind fun t961 => (if t961 = true then ((reeveref04_in.f a0_7 1 64).bind fun t962 => (if t962 = true then ((reeveref04_in.f a0_8 0 1000).bind fun t963 => (if t963 = true then ((reeveref04_in.f a0_9 1 1000).bind fun t964 => (reeveref04_Right.j0 k t964 a0_0 a0_1 a0_2 a0_3 a0_4 a0_5 a0_6 a0_7 a0_8 a0_9)) else (reeveref04_Right.j0 k false a0_0 a0_1 a0_2 a0_3 a0_4 a0_5 a0_6 a0_7 a0_8 a0_9))) else (reeveref04_Right.j0 k false a0_0 a0_1 a0_2 a0_3 a0_4 a0_5 a0_6 a0_7 a0_8 a0_9))) else (reeveref04_Right.j0 k false a0_0 a0_1 a0_2 a0_3 a0_4 a0_5 a0_6 a0_7 a0_8 a0_9))) = some r:=by rw [if_pos rfl] at H;exact H
   clear H
   have H:=H1
   clear H1
   replace H:=Option.bind_eq_some_iff.mp H
   obtain ⟨t961,A60,H⟩:=H
   replace H : (if t961 = true then ((reeveref04_in.f a0_7 1 64).bind fun t962 => (if t962 = true then ((reeveref04_in.f a0_8 0 1000).bind fun t963 => (if t963 = true then ((reeveref04_in.f a0_9 1 1000).bind fun t964 => (reeveref04_Right.j0 k t964 a0_0 a0_1 a0_2 a0_3 a0_4 a0_5 a0_6 a0_7 a0_8 a0_9)) else (reeveref04_Right.j0 k false a0_0 a0_1 a0_2 a0_3 a0_4 a0_5 a0_6 a0_7 a0_8 a0_9))) else (reeveref04_Right.j0 k false a0_0 a0_1 a0_2 a0_3 a0_4 a0_5 a0_6 a0_7 a0_8 a0_9))) else (reeveref04_Right.j0 k false a0_0 a0_1 a0_2 a0_3 a0_4 a0_5 a0_6 a0_7 a0_8 a0_9)) = some r:=H
   have A6:=Aside0.mk A60
   clear A60
   by_cases c7 : t961 = true
   ·subst c7
    have H1 : ((reeveref04_in.f a0_7 1 64).bind fun t962 => (if t962 = true then ((reeveref04_in.f a0_8 0 1000).bind fun t963 => (if t963 = true then ((reeveref04_in.f a0_9 1 1000).bind fun t964 => (reeveref04_Right.j0 k t964 a0_0 a0_1 a0_2 a0_3 a0_4 a0_5 a0_6 a0_7 a0_8 a0_9)) else (reeveref04_Right.j0 k false a0_0 a0_1 a0_2 a0_3 a0_4 a0_5 a0_6 a0_7 a0_8 a0_9))) else (reeveref04_Right.j0 k false a0_0 a0_1 a0_2 a0_3 a0_4 a0_5 a0_6 a0_7 a0_8 a0_9))) = some r:=by rw [if_pos rfl] at H;exact H
    clear H
    have H:=H1
    clear H1
    replace H:=Option.bind_eq_some_iff.mp H
    obtain ⟨t962,A80,H⟩:=H
    replace H : (if t962 = true then ((reeveref04_in.f a0_8 0 1000).bind fun t963 => (if t963 = true then ((reeveref04_in.f a0_9 1 1000).bind fun t964 => (reeveref04_Right.j0 k t964 a0_0 a0_1 a0_2 a0_3 a0_4 a0_5 a0_6 a0_7 a0_8 a0_9)) else (reeveref04_Right.j0 k false a0_0 a0_1 a0_2 a0_3 a0_4 a0_5 a0_6 a0_7 a0_8 a0_9))) else (reeveref04_Right.j0 k false a0_0 a0_1 a0_2 a0_3 a0_4 a0_5 a0_6 a0_7 a0_8 a0_9)) = some r:=H
    have A8:=Aside0.mk A80
    clear A80
    by_cases c9 : t962 = true
    ·subst c9
     have H1 : ((reeveref04_in.f a0_8 0 1000).bind fun t963 => (if t963 = true then ((reeveref04_in.f a0_9 1 1000).bind fun t964 => (reeveref04_Right.j0 k t964 a0_0 a0_1 a0_2 a0_3 a0_4 a0_5 a0_6 a0_7 a0_8 a0_9)) else (reeveref04_Right.j0 k false a0_0 a0_1 a0_2 a0_3 a0_4 a0_5 a0_6 a0_7 a0_8 a0_9))) = some r:=by rw [if_pos rfl] at H;exact H
     clear H
     have H:=H1
     clear H1
     replace H:=Option.bind_eq_some_iff.mp H
     obtain ⟨t963,A100,H⟩:=H
     replace H : (if t963 = true then ((reeveref04_in.f a0_9 1 1000).bind fun t964 => (reeveref04_Right.j0 k t964 a0_0 a0_1 a0_2 a0_3 a0_4 a0_5 a0_6 a0_7 a0_8 a0_9)) else (reeveref04_Right.j0 k false a0_0 a0_1 a0_2 a0_3 a0_4 a0_5 a0_6 a0_7 a0_8 a0_9)) = some r:=H
     have A10:=Aside0.mk A100
     clear A100
     by_cases c11 : t963 = true
     ·subst c11
      have H1 : ((reeveref04_in.f a0_9 1 1000).bind fun t964 => (reeveref04_Right.j0 k t964 a0_0 a0_1 a0_2 a0_3 a0_4 a0_5 a0_6 a0_7 a0_8 a0_9)) = some r:=by rw [if_pos rfl] at H;exact H
      clear H
      have H:=H1
      clear H1
      replace H:=Option.bind_eq_some_iff.mp H
      obtain ⟨t964,A120,H⟩:=H
      replace H : (reeveref04_Right.j0 k t964 a0_0 a0_1 a0_2 a0_3 a0_4 a0_5 a0_6 a0_7 a0_8 a0_9) = some r:=H
      have A12:=Aside0.mk A120
      clear A120
      have H':=Aside0.mk H
      clear H
      have hcz13_0 : w3.cell? ⟨gb959,0,none⟩ = some (.int .i64 a0_0):=(blk_cell BK959.out 0).trans rfl
      have hcz13_1 : w3.cell? ⟨gb959,1,none⟩ = some (.int .i64 a0_1):=(blk_cell BK959.out 1).trans rfl
      have hcz13_2 : w3.cell? ⟨gb959,2,none⟩ = some (.int .i64 a0_2):=(blk_cell BK959.out 2).trans rfl
      have hcz13_3 : w3.cell? ⟨gb959,3,none⟩ = some (.int .i64 a0_3):=(blk_cell BK959.out 3).trans rfl
      have hcz13_4 : w3.cell? ⟨gb959,4,none⟩ = some (.int .i64 a0_4):=(blk_cell BK959.out 4).trans rfl
      have hcz13_5 : w3.cell? ⟨gb959,5,none⟩ = some (.int .i64 a0_5):=(blk_cell BK959.out 5).trans rfl
      have hcz13_6 : w3.cell? ⟨gb959,6,none⟩ = some (.int .i64 a0_6):=(blk_cell BK959.out 6).trans rfl
      have hcz13_7 : w3.cell? ⟨gb959,7,none⟩ = some (.int .i64 a0_7):=(blk_cell BK959.out 7).trans rfl
      have hcz13_8 : w3.cell? ⟨gb959,8,none⟩ = some (.int .i64 a0_8):=(blk_cell BK959.out 8).trans rfl
      have hcz13_9 : w3.cell? ⟨gb959,9,none⟩ = some (.int .i64 a0_9):=(blk_cell BK959.out 9).trans rfl
      have hfz13_0:=blk_frozen BK959.out 0
      have hfz13_1:=blk_frozen BK959.out 1
      have hfz13_2:=blk_frozen BK959.out 2
      have hfz13_3:=blk_frozen BK959.out 3
      have hfz13_4:=blk_frozen BK959.out 4
      have hfz13_5:=blk_frozen BK959.out 5
      have hfz13_6:=blk_frozen BK959.out 6
      have hfz13_7:=blk_frozen BK959.out 7
      have hfz13_8:=blk_frozen BK959.out 8
      have hfz13_9:=blk_frozen BK959.out 9
      go_wp2_with (first | ((with_reducible refine gate_callee (f:=84) rfl ?_);refine goesL_ (some 8) rfl rfl Try.func84 (by kernel_rfl) rfl #[.int .i64 a0_1,.int .i64 1,.int .i64 1048576] rfl (by (try simp only [List.map_toArray,List.map_cons,List.map_nil]);first | done | rfl | (simp only [List.length_drop,List.length_take];rfl)) ?_;(with_reducible refine (reeveref04_in.calls a0_1 1 1048576 true _ A4.out).mono ?_);rintro e w' ⟨rfl,⟨nd,rfl⟩⟩;refine ⟨_,rfl,?_⟩) | (go_at_call 84;(with_reducible refine (reeveref04_in.calls a0_6 1 1000 true _ A6.out).mono ?_);rintro e w' ⟨rfl,⟨nd,rfl⟩⟩) | (go_at_call 84;(with_reducible refine (reeveref04_in.calls a0_7 1 64 true _ A8.out).mono ?_);rintro e w' ⟨rfl,⟨nd,rfl⟩⟩) | (go_at_call 84;(with_reducible refine (reeveref04_in.calls a0_8 0 1000 true _ A10.out).mono ?_);rintro e w' ⟨rfl,⟨nd,rfl⟩⟩) | (go_at_call 84;(with_reducible refine (reeveref04_in.calls a0_9 1 1000 t964 _ A12.out).mono ?_);rintro e w' ⟨rfl,⟨nd,rfl⟩⟩))
      go_meet
      case rel => exact ⟨_,(t964),(by first | rfl | (simp;done) | (simp [*];done)),H',⟨by first | omega | exact Nat.le_refl _⟩,⟨by (with_reducible repeat (first | refine blk_drewN ?_ _ | refine blk_drew ?_ | refine blk_alloc ?_ _));exact BK959.out⟩,⟨by repeat (first | (with_reducible first | exact HB.out | apply below_alloc | apply pw_below_drewN | apply below_drew1 | refine below_set ?_ GE959.out) | exact HB.out)⟩⟩
     ·replace c11:=Bool.eq_false_iff.mpr c11
      subst c11
      have H1 : (reeveref04_Right.j0 k false a0_0 a0_1 a0_2 a0_3 a0_4 a0_5 a0_6 a0_7 a0_8 a0_9) = some r:=by rw [if_neg (show ¬ (false = true) by decide)] at H;exact H
      clear H
      have H:=H1
      clear H1
      have H':=Aside0.mk H
      clear H
      have hcz14_0 : w3.cell? ⟨gb959,0,none⟩ = some (.int .i64 a0_0):=(blk_cell BK959.out 0).trans rfl
      have hcz14_1 : w3.cell? ⟨gb959,1,none⟩ = some (.int .i64 a0_1):=(blk_cell BK959.out 1).trans rfl
      have hcz14_2 : w3.cell? ⟨gb959,2,none⟩ = some (.int .i64 a0_2):=(blk_cell BK959.out 2).trans rfl
      have hcz14_3 : w3.cell? ⟨gb959,3,none⟩ = some (.int .i64 a0_3):=(blk_cell BK959.out 3).trans rfl
      have hcz14_4 : w3.cell? ⟨gb959,4,none⟩ = some (.int .i64 a0_4):=(blk_cell BK959.out 4).trans rfl
      have hcz14_5 : w3.cell? ⟨gb959,5,none⟩ = some (.int .i64 a0_5):=(blk_cell BK959.out 5).trans rfl
      have hcz14_6 : w3.cell? ⟨gb959,6,none⟩ = some (.int .i64 a0_6):=(blk_cell BK959.out 6).trans rfl
      have hcz14_7 : w3.cell? ⟨gb959,7,none⟩ = some (.int .i64 a0_7):=(blk_cell BK959.out 7).trans rfl
      have hcz14_8 : w3.cell? ⟨gb959,8,none⟩ = some (.int .i64 a0_8):=(blk_cell BK959.out 8).trans rfl
      have hcz14_9 : w3.cell? ⟨gb959,9,none⟩ = some (.int .i64 a0_9):=(blk_cell BK959.out 9).trans rfl
      have hfz14_0:=blk_frozen BK959.out 0
      have hfz14_1:=blk_frozen BK959.out 1
      have hfz14_2:=blk_frozen BK959.out 2
      have hfz14_3:=blk_frozen BK959.out 3
      have hfz14_4:=blk_frozen BK959.out 4
      have hfz14_5:=blk_frozen BK959.out 5
      have hfz14_6:=blk_frozen BK959.out 6
      have hfz14_7:=blk_frozen BK959.out 7
      have hfz14_8:=blk_frozen BK959.out 8
      have hfz14_9:=blk_frozen BK959.out 9
      go_wp2_with (first | ((with_reducible refine gate_callee (f:=84) rfl ?_);refine goesL_ (some 8) rfl rfl Try.func84 (by kernel_rfl) rfl #[.int .i64 a0_1,.int .i64 1,.int .i64 1048576] rfl (by (try simp only [List.map_toArray,List.map_cons,List.map_nil]);first | done | rfl | (simp only [List.length_drop,List.length_take];rfl)) ?_;(with_reducible refine (reeveref04_in.calls a0_1 1 1048576 true _ A4.out).mono ?_);rintro e w' ⟨rfl,⟨nd,rfl⟩⟩;refine ⟨_,rfl,?_⟩) | (go_at_call 84;(with_reducible refine (reeveref04_in.calls a0_6 1 1000 true _ A6.out).mono ?_);rintro e w' ⟨rfl,⟨nd,rfl⟩⟩) | (go_at_call 84;(with_reducible refine (reeveref04_in.calls a0_7 1 64 true _ A8.out).mono ?_);rintro e w' ⟨rfl,⟨nd,rfl⟩⟩) | (go_at_call 84;(with_reducible refine (reeveref04_in.calls a0_8 0 1000 false _ A10.out).mono ?_);rintro e w' ⟨rfl,⟨nd,rfl⟩⟩))
      go_meet
      case rel => exact ⟨_,(false),(by first | rfl | (simp;done) | (simp [*];done)),H',⟨by first | omega | exact Nat.le_refl _⟩,⟨by (with_reducible repeat (first | refine blk_drewN ?_ _ | refine blk_drew ?_ | refine blk_alloc ?_ _));exact BK959.out⟩,⟨by repeat (first | (with_reducible first | exact HB.out | apply below_alloc | apply pw_below_drewN | apply below_drew1 | refine below_set ?_ GE959.out) | exact HB.out)⟩⟩
    ·replace c9:=Bool.eq_false_iff.mpr c9
     subst c9
     have H1 : (reeveref04_Right.j0 k false a0_0 a0_1 a0_2 a0_3 a0_4 a0_5 a0_6 a0_7 a0_8 a0_9) = some r:=by rw [if_neg (show ¬ (false = true) by decide)] at H;exact H
     clear H
     have H:=H1
     clear H1
     have H':=Aside0.mk H
     clear H
     have hcz15_0 : w3.cell? ⟨gb959,0,none⟩ = some (.int .i64 a0_0):=(blk_cell BK959.out 0).trans rfl
     have hcz15_1 : w3.cell? ⟨gb959,1,none⟩ = some (.int .i64 a0_1):=(blk_cell BK959.out 1).trans rfl
     have hcz15_2 : w3.cell? ⟨gb959,2,none⟩ = some (.int .i64 a0_2):=(blk_cell BK959.out 2).trans rfl
     have hcz15_3 : w3.cell? ⟨gb959,3,none⟩ = some (.int .i64 a0_3):=(blk_cell BK959.out 3).trans rfl
     have hcz15_4 : w3.cell? ⟨gb959,4,none⟩ = some (.int .i64 a0_4):=(blk_cell BK959.out 4).trans rfl
     have hcz15_5 : w3.cell? ⟨gb959,5,none⟩ = some (.int .i64 a0_5):=(blk_cell BK959.out 5).trans rfl
     have hcz15_6 : w3.cell? ⟨gb959,6,none⟩ = some (.int .i64 a0_6):=(blk_cell BK959.out 6).trans rfl
     have hcz15_7 : w3.cell? ⟨gb959,7,none⟩ = some (.int .i64 a0_7):=(blk_cell BK959.out 7).trans rfl
     have hcz15_8 : w3.cell? ⟨gb959,8,none⟩ = some (.int .i64 a0_8):=(blk_cell BK959.out 8).trans rfl
     have hcz15_9 : w3.cell? ⟨gb959,9,none⟩ = some (.int .i64 a0_9):=(blk_cell BK959.out 9).trans rfl
     have hfz15_0:=blk_frozen BK959.out 0
     have hfz15_1:=blk_frozen BK959.out 1
     have hfz15_2:=blk_frozen BK959.out 2
     have hfz15_3:=blk_frozen BK959.out 3
     have hfz15_4:=blk_frozen BK959.out 4
     have hfz15_5:=blk_frozen BK959.out 5
     have hfz15_6:=blk_frozen BK959.out 6
     have hfz15_7:=blk_frozen BK959.out 7
     have hfz15_8:=blk_frozen BK959.out 8
     have hfz15_9:=blk_frozen BK959.out 9
     go_wp2_with (first | ((with_reducible refine gate_callee (f:=84) rfl ?_);refine goesL_ (some 8) rfl rfl Try.func84 (by kernel_rfl) rfl #[.int .i64 a0_1,.int .i64 1,.int .i64 1048576] rfl (by (try simp only [List.map_toArray,List.map_cons,List.map_nil]);first | done | rfl | (simp only [List.length_drop,List.length_take];rfl)) ?_;(with_reducible refine (reeveref04_in.calls a0_1 1 1048576 true _ A4.out).mono ?_);rintro e w' ⟨rfl,⟨nd,rfl⟩⟩;refine ⟨_,rfl,?_⟩) | (go_at_call 84;(with_reducible refine (reeveref04_in.calls a0_6 1 1000 true _ A6.out).mono ?_);rintro e w' ⟨rfl,⟨nd,rfl⟩⟩) | (go_at_call 84;(with_reducible refine (reeveref04_in.calls a0_7 1 64 false _ A8.out).mono ?_);rintro e w' ⟨rfl,⟨nd,rfl⟩⟩))
     go_meet
     case rel => exact ⟨_,(false),(by first | rfl | (simp;done) | (simp [*];done)),H',⟨by first | omega | exact Nat.le_refl _⟩,⟨by (with_reducible repeat (first | refine blk_drewN ?_ _ | refine blk_drew ?_ | refine blk_alloc ?_ _));exact BK959.out⟩,⟨by repeat (first | (with_reducible first | exact HB.out | apply below_alloc | apply pw_below_drewN | apply below_drew1 | refine below_set ?_ GE959.out) | exact HB.out)⟩⟩
   ·replace c7:=Bool.eq_false_iff.mpr c7
    subst c7
    have H1 : (reeveref04_Right.j0 k false a0_0 a0_1 a0_2 a0_3 a0_4 a0_5 a0_6 a0_7 a0_8 a0_9) = some r:=by rw [if_neg (show ¬ (false = true) by decide)] at H;exact H
    clear H
    have H:=H1
    clear H1
    have H':=Aside0.mk H
    clear H
    have hcz16_0 : w3.cell? ⟨gb959,0,none⟩ = some (.int .i64 a0_0):=(blk_cell BK959.out 0).trans rfl
    have hcz16_1 : w3.cell? ⟨gb959,1,none⟩ = some (.int .i64 a0_1):=(blk_cell BK959.out 1).trans rfl
    have hcz16_2 : w3.cell? ⟨gb959,2,none⟩ = some (.int .i64 a0_2):=(blk_cell BK959.out 2).trans rfl
    have hcz16_3 : w3.cell? ⟨gb959,3,none⟩ = some (.int .i64 a0_3):=(blk_cell BK959.out 3).trans rfl
    have hcz16_4 : w3.cell? ⟨gb959,4,none⟩ = some (.int .i64 a0_4):=(blk_cell BK959.out 4).trans rfl
    have hcz16_5 : w3.cell? ⟨gb959,5,none⟩ = some (.int .i64 a0_5):=(blk_cell BK959.out 5).trans rfl
    have hcz16_6 : w3.cell? ⟨gb959,6,none⟩ = some (.int .i64 a0_6):=(blk_cell BK959.out 6).trans rfl
    have hcz16_7 : w3.cell? ⟨gb959,7,none⟩ = some (.int .i64 a0_7):=(blk_cell BK959.out 7).trans rfl
    have hcz16_8 : w3.cell? ⟨gb959,8,none⟩ = some (.int .i64 a0_8):=(blk_cell BK959.out 8).trans rfl
    have hcz16_9 : w3.cell? ⟨gb959,9,none⟩ = some (.int .i64 a0_9):=(blk_cell BK959.out 9).trans rfl
    have hfz16_0:=blk_frozen BK959.out 0
    have hfz16_1:=blk_frozen BK959.out 1
    have hfz16_2:=blk_frozen BK959.out 2
    have hfz16_3:=blk_frozen BK959.out 3
    have hfz16_4:=blk_frozen BK959.out 4
    have hfz16_5:=blk_frozen BK959.out 5
    have hfz16_6:=blk_frozen BK959.out 6
    have hfz16_7:=blk_frozen BK959.out 7
    have hfz16_8:=blk_frozen BK959.out 8
    have hfz16_9:=blk_frozen BK959.out 9
    go_wp2_with (first | ((with_reducible refine gate_callee (f:=84) rfl ?_);refine goesL_ (some 8) rfl rfl Try.func84 (by kernel_rfl) rfl #[.int .i64 a0_1,.int .i64 1,.int .i64 1048576] rfl (by (try simp only [List.map_toArray,List.map_cons,List.map_nil]);first | done | rfl | (simp only [List.length_drop,List.length_take];rfl)) ?_;(with_reducible refine (reeveref04_in.calls a0_1 1 1048576 true _ A4.out).mono ?_);rintro e w' ⟨rfl,⟨nd,rfl⟩⟩;refine ⟨_,rfl,?_⟩) | (go_at_call 84;(with_reducible refine (reeveref04_in.calls a0_6 1 1000 false _ A6.out).mono ?_);rintro e w' ⟨rfl,⟨nd,rfl⟩⟩))
    go_meet
    case rel => exact ⟨_,(false),(by first | rfl | (simp;done) | (simp [*];done)),H',⟨by first | omega | exact Nat.le_refl _⟩,⟨by (with_reducible repeat (first | refine blk_drewN ?_ _ | refine blk_drew ?_ | refine blk_alloc ?_ _));exact BK959.out⟩,⟨by repeat (first | (with_reducible first | exact HB.out | apply below_alloc | apply pw_below_drewN | apply below_drew1 | refine below_set ?_ GE959.out) | exact HB.out)⟩⟩
  ·replace c5:=Bool.eq_false_iff.mpr c5
   subst c5
   have H1 : (reeveref04_Right.j0 k false a0_0 a0_1 a0_2 a0_3 a0_4 a0_5 a0_6 a0_7 a0_8 a0_9) = some r:=by rw [if_neg (show ¬ (false = true) by decide)] at H;exact H
   clear H
   have H:=H1
   clear H1
   have H':=Aside0.mk H
   clear H
   have hcz17_0 : w3.cell? ⟨gb959,0,none⟩ = some (.int .i64 a0_0):=(blk_cell BK959.out 0).trans rfl
   have hcz17_1 : w3.cell? ⟨gb959,1,none⟩ = some (.int .i64 a0_1):=(blk_cell BK959.out 1).trans rfl
   have hcz17_2 : w3.cell? ⟨gb959,2,none⟩ = some (.int .i64 a0_2):=(blk_cell BK959.out 2).trans rfl
   have hcz17_3 : w3.cell? ⟨gb959,3,none⟩ = some (.int .i64 a0_3):=(blk_cell BK959.out 3).trans rfl
   have hcz17_4 : w3.cell? ⟨gb959,4,none⟩ = some (.int .i64 a0_4):=(blk_cell BK959.out 4).trans rfl
   have hcz17_5 : w3.cell? ⟨gb959,5,none⟩ = some (.int .i64 a0_5):=(blk_cell BK959.out 5).trans rfl
   have hcz17_6 : w3.cell? ⟨gb959,6,none⟩ = some (.int .i64 a0_6):=(blk_cell BK959.out 6).trans rfl
   have hcz17_7 : w3.cell? ⟨gb959,7,none⟩ = some (.int .i64 a0_7):=(blk_cell BK959.out 7).trans rfl
   have hcz17_8 : w3.cell? ⟨gb959,8,none⟩ = some (.int .i64 a0_8):=(blk_cell BK959.out 8).trans rfl
   have hcz17_9 : w3.cell? ⟨gb959,9,none⟩ = some (.int .i64 a0_9):=(blk_cell BK959.out 9).trans rfl
   have hfz17_0:=blk_frozen BK959.out 0
   have hfz17_1:=blk_frozen BK959.out 1
   have hfz17_2:=blk_frozen BK959.out 2
   have hfz17_3:=blk_frozen BK959.out 3
   have hfz17_4:=blk_frozen BK959.out 4
   have hfz17_5:=blk_frozen BK959.out 5
   have hfz17_6:=blk_frozen BK959.out 6
   have hfz17_7:=blk_frozen BK959.out 7
   have hfz17_8:=blk_frozen BK959.out 8
   have hfz17_9:=blk_frozen BK959.out 9
   go_wp2_with (first | ((with_reducible refine gate_callee (f:=84) rfl ?_);refine goesL_ (some 8) rfl rfl Try.func84 (by kernel_rfl) rfl #[.int .i64 a0_1,.int .i64 1,.int .i64 1048576] rfl (by (try simp only [List.map_toArray,List.map_cons,List.map_nil]);first | done | rfl | (simp only [List.length_drop,List.length_take];rfl)) ?_;(with_reducible refine (reeveref04_in.calls a0_1 1 1048576 false _ A4.out).mono ?_);rintro e w' ⟨rfl,⟨nd,rfl⟩⟩;refine ⟨_,rfl,?_⟩))
   go_meet
   case rel => exact ⟨_,(false),(by first | rfl | (simp;done) | (simp [*];done)),H',⟨by first | omega | exact Nat.le_refl _⟩,⟨by (with_reducible repeat (first | refine blk_drewN ?_ _ | refine blk_drew ?_ | refine blk_alloc ?_ _));exact BK959.out⟩,⟨by repeat (first | (with_reducible first | exact HB.out | apply below_alloc | apply pw_below_drewN | apply below_drew1 | refine below_set ?_ GE959.out) | exact HB.out)⟩⟩
 case rest =>
  clear HC2
  try clear c1
  try clear p2
  try clear c5
  try clear c6
  try clear c7
  try clear c8
  try clear c9
  try clear c11
  try clear hcz13_0
  try clear hcz13_1
  try clear hcz13_2
  try clear hcz13_3
  try clear hcz13_4
  try clear hcz13_5
  try clear hcz13_6
  try clear hcz13_7
  try clear hcz13_8
  try clear hcz13_9
  try clear hcz14_0
  try clear hcz14_1
  try clear hcz14_2
  try clear hcz14_3
  try clear hcz14_4
  try clear hcz14_5
  try clear hcz14_6
  try clear hcz14_7
  try clear hcz14_8
  try clear hcz14_9
  try clear hcz15_0
  try clear hcz15_1
  try clear hcz15_2
  try clear hcz15_3
  try clear hcz15_4
  try clear hcz15_5
  try clear hcz15_6
  try clear hcz15_7
  try clear hcz15_8
  try clear hcz15_9
  try clear hcz16_0
  try clear hcz16_1
  try clear hcz16_2
  try clear hcz16_3
  try clear hcz16_4
  try clear hcz16_5
  try clear hcz16_6
  try clear hcz16_7
  try clear hcz16_8
  try clear hcz16_9
  try clear hcz17_0
  try clear hcz17_1
  try clear hcz17_2
  try clear hcz17_3
  try clear hcz17_4
  try clear hcz17_5
  try clear hcz17_6
  try clear hcz17_7
  try clear hcz17_8
  try clear hcz17_9
  try clear hfz13_0
  try clear hfz13_1
  try clear hfz13_2
  try clear hfz13_3
  try clear hfz13_4
  try clear hfz13_5
  try clear hfz13_6
  try clear hfz13_7
  try clear hfz13_8
  try clear hfz13_9
  try clear hfz14_0
  try clear hfz14_1
  try clear hfz14_2
  try clear hfz14_3
  try clear hfz14_4
  try clear hfz14_5
  try clear hfz14_6
  try clear hfz14_7
  try clear hfz14_8
  try clear hfz14_9
  try clear hfz15_0
  try clear hfz15_1
  try clear hfz15_2
  try clear hfz15_3
  try clear hfz15_4
  try clear hfz15_5
  try clear hfz15_6
  try clear hfz15_7
  try clear hfz15_8
  try clear hfz15_9
  try clear hfz16_0
  try clear hfz16_1
  try clear hfz16_2
  try clear hfz16_3
  try clear hfz16_4
  try clear hfz16_5
  try clear hfz16_6
  try clear hfz16_7
  try clear hfz16_8
  try clear hfz16_9
  try clear hfz17_0
  try clear hfz17_1
  try clear hfz17_2
  try clear hfz17_3
  try clear hfz17_4
  try clear hfz17_5
  try clear hfz17_6
  try clear hfz17_7
  try clear hfz17_8
  try clear hfz17_9
  obtain ⟨kq,x3_1,rfl,HA,HJ1,BK959,HB⟩:=hcut
  cases kq with
  | zero => exact absurd HA.out (by simp [reeveref04_Right.j0])
  | succ kj1 =>
   have H:=HA.out
   clear HA
   simp only [reeveref04_Right.j0] at H
   have HC18:=Aside0.mk H
   clear H
   go_upto_region 2 with (fail)
   go_cut [4] (fun v4 wc => ∃ (kq : Nat) (x4_17 : Bool),v4 = .bool x4_17 ∧ Aside0 (reeveref04_Right.j1 kq x3_1 x4_17 a0_0 a0_1 a0_2 a0_3 a0_4 a0_5 a0_6 a0_7 a0_8 a0_9 = some r) ∧ Aside0 (kq ≤ kj1) ∧ Aside0 (wc.heap[gb959]? = some (.cells #[.int .i64 a0_0,.int .i64 a0_1,.int .i64 a0_2,.int .i64 a0_3,.int .i64 a0_4,.int .i64 a0_5,.int .i64 a0_6,.int .i64 a0_7,.int .i64 a0_8,.int .i64 a0_9] 45 (0,0))) ∧ Aside0 (Below w.heap.size w wc))
   case first =>
    have H:=HC18.out
    clear HC18
    by_cases c19 : a0_0 = 1
    ·rw [if_pos c19] at H
     have c19b0 : (a0_0 == 1) = true:=beq_iff_eq.mpr c19
     have c19b1 : (a0_0 != 1) = false:=bne_eq_false_iff_eq.mpr c19
     clear c19
     (first | rw [c19b0] | (simp only [i64_w,i32_w];rw [c19b0]) | skip)
     replace H:=Option.bind_eq_some_iff.mp H
     obtain ⟨t965,A200,H⟩:=H
     replace H : (if t965 = true then ((reeveref04_in.f a0_3 1 65536).bind fun t966 => (if t966 = true then (if a0_4 = 0 then (reeveref04_Right.j1 kj1 x3_1 (a0_5 == 0) a0_0 a0_1 a0_2 a0_3 a0_4 a0_5 a0_6 a0_7 a0_8 a0_9) else (reeveref04_Right.j1 kj1 x3_1 false a0_0 a0_1 a0_2 a0_3 a0_4 a0_5 a0_6 a0_7 a0_8 a0_9)) else (reeveref04_Right.j1 kj1 x3_1 false a0_0 a0_1 a0_2 a0_3 a0_4 a0_5 a0_6 a0_7 a0_8 a0_9))) else (reeveref04_Right.j1 kj1 x3_1 false a0_0 a0_1 a0_2 a0_3 a0_4 a0_5 a0_6 a0_7 a0_8 a0_9)) = some r:=H
     have A20:=Aside0.mk A200
     clear A200
     by_cases c21 : t965 = true
     ·subst c21
      have H1 : ((reeveref04_in.f a0_3 1 65536).bind fun t966 => (if t966 = true then (if a0_4 = 0 then (reeveref04_Right.j1 kj1 x3_1 (a0_5 == 0) a0_0 a0_1 a0_2 a0_3 a0_4 a0_5 a0_6 a0_7 a0_8 a0_9) else (reeveref04_Right.j1 kj1 x3_1 false a0_0 a0_1 a0_2 a0_3 a0_4 a0_5 a0_6 a0_7 a0_8 a0_9)) else (reeveref04_Right.j1 kj1 x3_1 false a0_0 a0_1 a0_2 a0_3 a0_4 a0_5 a0_6 a0_7 a0_8 a0_9))) = some r:=by rw [if_pos rfl] at H;exact H
      clear H
      have H:=H1
      clear H1
      replace H:=Option.bind_eq_some_iff.mp H
      obtain ⟨t966,A220,H⟩:=H
      replace H : (if t966 = true then (if a0_4 = 0 then (reeveref04_Right.j1 kj1 x3_1 (a0_5 == 0) a0_0 a0_1 a0_2 a0_3 a0_4 a0_5 a0_6 a0_7 a0_8 a0_9) else (reeveref04_Right.j1 kj1 x3_1 false a0_0 a0_1 a0_2 a0_3 a0_4 a0_5 a0_6 a0_7 a0_8 a0_9)) else (reeveref04_Right.j1 kj1 x3_1 false a0_0 a0_1 a0_2 a0_3 a0_4 a0_5 a0_6 a0_7 a0_8 a0_9)) = some r:=H
      have A22:=Aside0.mk A220
      clear A220
      by_cases c23 : t966 = true
      ·subst c23
       have H1 : (if a0_4 = 0 then (reeveref04_Right.j1 kj1 x3_1 (a0_5 == 0) a0_0 a0_1 a0_2 a0_3 a0_4 a0_5 a0_6 a0_7 a0_8 a0_9) else (reeveref04_Right.j1 kj1 x3_1 false a0_0 a0_1 a0_2 a0_3 a0_4 a0_5 a0_6 a0_7 a0_8 a0_9)) = some r:=by rw [if_pos rfl] at H;exact H
       clear H
       have H:=H1
       clear H1
       by_cases c24 : a0_4 = 0
       ·rw [if_pos c24] at H
        have c24b0 : (a0_4 == 0) = true:=beq_iff_eq.mpr c24
        have c24b1 : (a0_4 != 0) = false:=bne_eq_false_iff_eq.mpr c24
        clear c24
        have H':=Aside0.mk H
        clear H
        have hcz25_0 : wc.cell? ⟨gb959,0,none⟩ = some (.int .i64 a0_0):=(blk_cell BK959.out 0).trans rfl
        have hcz25_1 : wc.cell? ⟨gb959,1,none⟩ = some (.int .i64 a0_1):=(blk_cell BK959.out 1).trans rfl
        have hcz25_2 : wc.cell? ⟨gb959,2,none⟩ = some (.int .i64 a0_2):=(blk_cell BK959.out 2).trans rfl
        have hcz25_3 : wc.cell? ⟨gb959,3,none⟩ = some (.int .i64 a0_3):=(blk_cell BK959.out 3).trans rfl
        have hcz25_4 : wc.cell? ⟨gb959,4,none⟩ = some (.int .i64 a0_4):=(blk_cell BK959.out 4).trans rfl
        have hcz25_5 : wc.cell? ⟨gb959,5,none⟩ = some (.int .i64 a0_5):=(blk_cell BK959.out 5).trans rfl
        have hcz25_6 : wc.cell? ⟨gb959,6,none⟩ = some (.int .i64 a0_6):=(blk_cell BK959.out 6).trans rfl
        have hcz25_7 : wc.cell? ⟨gb959,7,none⟩ = some (.int .i64 a0_7):=(blk_cell BK959.out 7).trans rfl
        have hcz25_8 : wc.cell? ⟨gb959,8,none⟩ = some (.int .i64 a0_8):=(blk_cell BK959.out 8).trans rfl
        have hcz25_9 : wc.cell? ⟨gb959,9,none⟩ = some (.int .i64 a0_9):=(blk_cell BK959.out 9).trans rfl
        have hfz25_0:=blk_frozen BK959.out 0
        have hfz25_1:=blk_frozen BK959.out 1
        have hfz25_2:=blk_frozen BK959.out 2
        have hfz25_3:=blk_frozen BK959.out 3
        have hfz25_4:=blk_frozen BK959.out 4
        have hfz25_5:=blk_frozen BK959.out 5
        have hfz25_6:=blk_frozen BK959.out 6
        have hfz25_7:=blk_frozen BK959.out 7
        have hfz25_8:=blk_frozen BK959.out 8
        have hfz25_9:=blk_frozen BK959.out 9
        go_wp2_with (first | (go_at_call 84;(with_reducible refine (reeveref04_in.calls a0_2 1 65536 true _ A20.out).mono ?_);rintro e w' ⟨rfl,⟨nd,rfl⟩⟩) | (go_at_call 84;(with_reducible refine (reeveref04_in.calls a0_3 1 65536 true _ A22.out).mono ?_);rintro e w' ⟨rfl,⟨nd,rfl⟩⟩))
        go_meet
        case rel => exact ⟨_,((a0_5 == 0)),(by first | rfl | (simp;done) | (simp [*];done)),H',⟨by have:=HJ1.out;first | omega | exact Nat.le_refl _⟩,⟨by (with_reducible repeat (first | refine blk_drewN ?_ _ | refine blk_drew ?_ | refine blk_alloc ?_ _));exact BK959.out⟩,⟨by repeat (first | (with_reducible first | exact HB.out | apply below_alloc | apply pw_below_drewN | apply below_drew1 | refine below_set ?_ GE959.out) | exact HB.out)⟩⟩
       ·rw [if_neg c24] at H
        have c24b0 : (a0_4 == 0) = false:=beq_eq_false_iff_ne.mpr c24
        have c24b1 : (a0_4 != 0) = true:=bne_iff_ne.mpr c24
        have H':=Aside0.mk H
        clear H
        have hcz26_0 : wc.cell? ⟨gb959,0,none⟩ = some (.int .i64 a0_0):=(blk_cell BK959.out 0).trans rfl
        have hcz26_1 : wc.cell? ⟨gb959,1,none⟩ = some (.int .i64 a0_1):=(blk_cell BK959.out 1).trans rfl
        have hcz26_2 : wc.cell? ⟨gb959,2,none⟩ = some (.int .i64 a0_2):=(blk_cell BK959.out 2).trans rfl
        have hcz26_3 : wc.cell? ⟨gb959,3,none⟩ = some (.int .i64 a0_3):=(blk_cell BK959.out 3).trans rfl
        have hcz26_4 : wc.cell? ⟨gb959,4,none⟩ = some (.int .i64 a0_4):=(blk_cell BK959.out 4).trans rfl
        have hcz26_5 : wc.cell? ⟨gb959,5,none⟩ = some (.int .i64 a0_5):=(blk_cell BK959.out 5).trans rfl
        have hcz26_6 : wc.cell? ⟨gb959,6,none⟩ = some (.int .i64 a0_6):=(blk_cell BK959.out 6).trans rfl
        have hcz26_7 : wc.cell? ⟨gb959,7,none⟩ = some (.int .i64 a0_7):=(blk_cell BK959.out 7).trans rfl
        have hcz26_8 : wc.cell? ⟨gb959,8,none⟩ = some (.int .i64 a0_8):=(blk_cell BK959.out 8).trans rfl
        have hcz26_9 : wc.cell? ⟨gb959,9,none⟩ = some (.int .i64 a0_9):=(blk_cell BK959.out 9).trans rfl
        have hfz26_0:=blk_frozen BK959.out 0
        have hfz26_1:=blk_frozen BK959.out 1
        have hfz26_2:=blk_frozen BK959.out 2
        have hfz26_3:=blk_frozen BK959.out 3
        have hfz26_4:=blk_frozen BK959.out 4
        have hfz26_5:=blk_frozen BK959.out 5
        have hfz26_6:=blk_frozen BK959.out 6
        have hfz26_7:=blk_frozen BK959.out 7
        have hfz26_8:=blk_frozen BK959.out 8
        have hfz26_9:=blk_frozen BK959.out 9
        go_wp2_with (first | (go_at_call 84;(with_reducible refine (reeveref04_in.calls a0_2 1 65536 true _ A20.out).mono ?_);rintro e w' ⟨rfl,⟨nd,rfl⟩⟩) | (go_at_call 84;(with_reducible refine (reeveref04_in.calls a0_3 1 65536 true _ A22.out).mono ?_);rintro e w' ⟨rfl,⟨nd,rfl⟩⟩))
        go_meet
        case rel => exact ⟨_,(false),(by first | rfl | (simp;done) | (simp [*];done)),H',⟨by have:=HJ1.out;first | omega | exact Nat.le_refl _⟩,⟨by (with_reducible repeat (first | refine blk_drewN ?_ _ | refine blk_drew ?_ | refine blk_alloc ?_ _));exact BK959.out⟩,⟨by repeat (first | (with_reducible first | exact HB.out | apply below_alloc | apply pw_below_drewN | apply below_drew1 | refine below_set ?_ GE959.out) | exact HB.out)⟩⟩
      ·replace c23:=Bool.eq_false_iff.mpr c23
       subst c23
       have H1 : (reeveref04_Right.j1 kj1 x3_1 false a0_0 a0_1 a0_2 a0_3 a0_4 a0_5 a0_6 a0_7 a0_8 a0_9) = some r:=by rw [if_neg (show ¬ (false = true) by decide)] at H;exact H
       clear H
       have H:=H1
       clear H1
       have H':=Aside0.mk H
       clear H
       have hcz27_0 : wc.cell? ⟨gb959,0,none⟩ = some (.int .i64 a0_0):=(blk_cell BK959.out 0).trans rfl
       have hcz27_1 : wc.cell? ⟨gb959,1,none⟩ = some (.int .i64 a0_1):=(blk_cell BK959.out 1).trans rfl
       have hcz27_2 : wc.cell? ⟨gb959,2,none⟩ = some (.int .i64 a0_2):=(blk_cell BK959.out 2).trans rfl
       have hcz27_3 : wc.cell? ⟨gb959,3,none⟩ = some (.int .i64 a0_3):=(blk_cell BK959.out 3).trans rfl
       have hcz27_4 : wc.cell? ⟨gb959,4,none⟩ = some (.int .i64 a0_4):=(blk_cell BK959.out 4).trans rfl
       have hcz27_5 : wc.cell? ⟨gb959,5,none⟩ = some (.int .i64 a0_5):=(blk_cell BK959.out 5).trans rfl
       have hcz27_6 : wc.cell? ⟨gb959,6,none⟩ = some (.int .i64 a0_6):=(blk_cell BK959.out 6).trans rfl
       have hcz27_7 : wc.cell? ⟨gb959,7,none⟩ = some (.int .i64 a0_7):=(blk_cell BK959.out 7).trans rfl
       have hcz27_8 : wc.cell? ⟨gb959,8,none⟩ = some (.int .i64 a0_8):=(blk_cell BK959.out 8).trans rfl
       have hcz27_9 : wc.cell? ⟨gb959,9,none⟩ = some (.int .i64 a0_9):=(blk_cell BK959.out 9).trans rfl
       have hfz27_0:=blk_frozen BK959.out 0
       have hfz27_1:=blk_frozen BK959.out 1
       have hfz27_2:=blk_frozen BK959.out 2
       have hfz27_3:=blk_frozen BK959.out 3
       have hfz27_4:=blk_frozen BK959.out 4
       have hfz27_5:=blk_frozen BK959.out 5
       have hfz27_6:=blk_frozen BK959.out 6
       have hfz27_7:=blk_frozen BK959.out 7
       have hfz27_8:=blk_frozen BK959.out 8
       have hfz27_9:=blk_frozen BK959.out 9
       go_wp2_with (first | (go_at_call 84;(with_reducible refine (reeveref04_in.calls a0_2 1 65536 true _ A20.out).mono ?_);rintro e w' ⟨rfl,⟨nd,rfl⟩⟩) | (go_at_call 84;(with_reducible refine (reeveref04_in.calls a0_3 1 65536 false _ A22.out).mono ?_);rintro e w' ⟨rfl,⟨nd,rfl⟩⟩))
       go_meet
       case rel => exact ⟨_,(false),(by first | rfl | (simp;done) | (simp [*];done)),H',⟨by have:=HJ1.out;first | omega | exact Nat.le_refl _⟩,⟨by (with_reducible repeat (first | refine blk_drewN ?_ _ | refine blk_drew ?_ | refine blk_alloc ?_ _));exact BK959.out⟩,⟨by repeat (first | (with_reducible first | exact HB.out | apply below_alloc | apply pw_below_drewN | apply below_drew1 | refine below_set ?_ GE959.out) | exact HB.out)⟩⟩
     ·replace c21:=Bool.eq_false_iff.mpr c21
      subst c21
      have H1 : (reeveref04_Right.j1 kj1 x3_1 false a0_0 a0_1 a0_2 a0_3 a0_4 a0_5 a0_6 a0_7 a0_8 a0_9) = some r:=by rw [if_neg (show ¬ (false = true) by decide)] at H;exact H
      clear H
      have H:=H1
      clear H1
      have H':=Aside0.mk H
      clear H
      have hcz28_0 : wc.cell? ⟨gb959,0,none⟩ = some (.int .i64 a0_0):=(blk_cell BK959.out 0).trans rfl
      have hcz28_1 : wc.cell? ⟨gb959,1,none⟩ = some (.int .i64 a0_1):=(blk_cell BK959.out 1).trans rfl
      have hcz28_2 : wc.cell? ⟨gb959,2,none⟩ = some (.int .i64 a0_2):=(blk_cell BK959.out 2).trans rfl
      have hcz28_3 : wc.cell? ⟨gb959,3,none⟩ = some (.int .i64 a0_3):=(blk_cell BK959.out 3).trans rfl
      have hcz28_4 : wc.cell? ⟨gb959,4,none⟩ = some (.int .i64 a0_4):=(blk_cell BK959.out 4).trans rfl
      have hcz28_5 : wc.cell? ⟨gb959,5,none⟩ = some (.int .i64 a0_5):=(blk_cell BK959.out 5).trans rfl
      have hcz28_6 : wc.cell? ⟨gb959,6,none⟩ = some (.int .i64 a0_6):=(blk_cell BK959.out 6).trans rfl
      have hcz28_7 : wc.cell? ⟨gb959,7,none⟩ = some (.int .i64 a0_7):=(blk_cell BK959.out 7).trans rfl
      have hcz28_8 : wc.cell? ⟨gb959,8,none⟩ = some (.int .i64 a0_8):=(blk_cell BK959.out 8).trans rfl
      have hcz28_9 : wc.cell? ⟨gb959,9,none⟩ = some (.int .i64 a0_9):=(blk_cell BK959.out 9).trans rfl
      have hfz28_0:=blk_frozen BK959.out 0
      have hfz28_1:=blk_frozen BK959.out 1
      have hfz28_2:=blk_frozen BK959.out 2
      have hfz28_3:=blk_frozen BK959.out 3
      have hfz28_4:=blk_frozen BK959.out 4
      have hfz28_5:=blk_frozen BK959.out 5
      have hfz28_6:=blk_frozen BK959.out 6
      have hfz28_7:=blk_frozen BK959.out 7
      have hfz28_8:=blk_frozen BK959.out 8
      have hfz28_9:=blk_frozen BK959.out 9
      go_wp2_with (first | (go_at_call 84;(with_reducible refine (reeveref04_in.calls a0_2 1 65536 false _ A20.out).mono ?_);rintro e w' ⟨rfl,⟨nd,rfl⟩⟩))
      go_meet
      case rel => exact ⟨_,(false),(by first | rfl | (simp;done) | (simp [*];done)),H',⟨by have:=HJ1.out;first | omega | exact Nat.le_refl _⟩,⟨by (with_reducible repeat (first | refine blk_drewN ?_ _ | refine blk_drew ?_ | refine blk_alloc ?_ _));exact BK959.out⟩,⟨by repeat (first | (with_reducible first | exact HB.out | apply below_alloc | apply pw_below_drewN | apply below_drew1 | refine below_set ?_ GE959.out) | exact HB.out)⟩⟩
    ·rw [if_neg c19] at H
     have c19b0 : (a0_0 == 1) = false:=beq_eq_false_iff_ne.mpr c19
     have c19b1 : (a0_0 != 1) = true:=bne_iff_ne.mpr c19
     (first | rw [c19b0] | (simp only [i64_w,i32_w];rw [c19b0]) | skip)
     have H':=Aside0.mk H
     clear H
     have hcz29_0 : wc.cell? ⟨gb959,0,none⟩ = some (.int .i64 a0_0):=(blk_cell BK959.out 0).trans rfl
     have hcz29_1 : wc.cell? ⟨gb959,1,none⟩ = some (.int .i64 a0_1):=(blk_cell BK959.out 1).trans rfl
     have hcz29_2 : wc.cell? ⟨gb959,2,none⟩ = some (.int .i64 a0_2):=(blk_cell BK959.out 2).trans rfl
     have hcz29_3 : wc.cell? ⟨gb959,3,none⟩ = some (.int .i64 a0_3):=(blk_cell BK959.out 3).trans rfl
     have hcz29_4 : wc.cell? ⟨gb959,4,none⟩ = some (.int .i64 a0_4):=(blk_cell BK959.out 4).trans rfl
     have hcz29_5 : wc.cell? ⟨gb959,5,none⟩ = some (.int .i64 a0_5):=(blk_cell BK959.out 5).trans rfl
     have hcz29_6 : wc.cell? ⟨gb959,6,none⟩ = some (.int .i64 a0_6):=(blk_cell BK959.out 6).trans rfl
     have hcz29_7 : wc.cell? ⟨gb959,7,none⟩ = some (.int .i64 a0_7):=(blk_cell BK959.out 7).trans rfl
     have hcz29_8 : wc.cell? ⟨gb959,8,none⟩ = some (.int .i64 a0_8):=(blk_cell BK959.out 8).trans rfl
     have hcz29_9 : wc.cell? ⟨gb959,9,none⟩ = some (.int .i64 a0_9):=(blk_cell BK959.out 9).trans rfl
     have hfz29_0:=blk_frozen BK959.out 0
     have hfz29_1:=blk_frozen BK959.out 1
     have hfz29_2:=blk_frozen BK959.out 2
     have hfz29_3:=blk_frozen BK959.out 3
     have hfz29_4:=blk_frozen BK959.out 4
     have hfz29_5:=blk_frozen BK959.out 5
     have hfz29_6:=blk_frozen BK959.out 6
     have hfz29_7:=blk_frozen BK959.out 7
     have hfz29_8:=blk_frozen BK959.out 8
     have hfz29_9:=blk_frozen BK959.out 9
     go_wp2
     go_meet
     case rel => exact ⟨_,(false),(by first | rfl | (simp;done) | (simp [*];done)),H',⟨by have:=HJ1.out;first | omega | exact Nat.le_refl _⟩,⟨by (with_reducible repeat (first | refine blk_drewN ?_ _ | refine blk_drew ?_ | refine blk_alloc ?_ _));exact BK959.out⟩,⟨by repeat (first | (with_reducible first | exact HB.out | apply below_alloc | apply pw_below_drewN | apply below_drew1 | refine below_set ?_ GE959.out) | exact HB.out)⟩⟩
   case rest =>
    clear HC18
    try clear c1
    try clear c2
    try clear p2
    try clear c5
    try clear c6
    try clear c7
    try clear c8
    try clear c9
    try clear c11
    try clear c19
    try clear c19b0
    try clear c19b1
    try clear c21
    try clear c23
    try clear c24
    try clear c24b0
    try clear c24b1
    try clear hcz13_0
    try clear hcz13_1
    try clear hcz13_2
    try clear hcz13_3
    try clear hcz13_4
    try clear hcz13_5
    try clear hcz13_6
    try clear hcz13_7
    try clear hcz13_8
    try clear hcz13_9
    try clear hcz14_0
    try clear hcz14_1
    try clear hcz14_2
    try clear hcz14_3
    try clear hcz14_4
    try clear hcz14_5
    try clear hcz14_6
    try clear hcz14_7
    try clear hcz14_8
    try clear hcz14_9
    try clear hcz15_0
    try clear hcz15_1
    try clear hcz15_2
    try clear hcz15_3
    try clear hcz15_4
    try clear hcz15_5
    try clear hcz15_6
    try clear hcz15_7
    try clear hcz15_8
    try clear hcz15_9
    try clear hcz16_0
    try clear hcz16_1
    try clear hcz16_2
    try clear hcz16_3
    try clear hcz16_4
    try clear hcz16_5
    try clear hcz16_6
    try clear hcz16_7
    try clear hcz16_8
    try clear hcz16_9
    try clear hcz17_0
    try clear hcz17_1
    try clear hcz17_2
    try clear hcz17_3
    try clear hcz17_4
    try clear hcz17_5
    try clear hcz17_6
    try clear hcz17_7
    try clear hcz17_8
    try clear hcz17_9
    try clear hcz25_0
    try clear hcz25_1
    try clear hcz25_2
    try clear hcz25_3
    try clear hcz25_4
    try clear hcz25_5
    try clear hcz25_6
    try clear hcz25_7
    try clear hcz25_8
    try clear hcz25_9
    try clear hcz26_0
    try clear hcz26_1
    try clear hcz26_2
    try clear hcz26_3
    try clear hcz26_4
    try clear hcz26_5
    try clear hcz26_6
    try clear hcz26_7
    try clear hcz26_8
    try clear hcz26_9
    try clear hcz27_0
    try clear hcz27_1
    try clear hcz27_2
    try clear hcz27_3
    try clear hcz27_4
    try clear hcz27_5
    try clear hcz27_6
    try clear hcz27_7
    try clear hcz27_8
    try clear hcz27_9
    try clear hcz28_0
    try clear hcz28_1
    try clear hcz28_2
    try clear hcz28_3
    try clear hcz28_4
    try clear hcz28_5
    try clear hcz28_6
    try clear hcz28_7
    try clear hcz28_8
    try clear hcz28_9
    try clear hcz29_0
    try clear hcz29_1
    try clear hcz29_2
    try clear hcz29_3
    try clear hcz29_4
    try clear hcz29_5
    try clear hcz29_6
    try clear hcz29_7
    try clear hcz29_8
    try clear hcz29_9
    try clear hfz13_0
    try clear hfz13_1
    try clear hfz13_2
    try clear hfz13_3
    try clear hfz13_4
    try clear hfz13_5
    try clear hfz13_6
    try clear hfz13_7
    try clear hfz13_8
    try clear hfz13_9
    try clear hfz14_0
    try clear hfz14_1
    try clear hfz14_2
    try clear hfz14_3
    try clear hfz14_4
    try clear hfz14_5
    try clear hfz14_6
    try clear hfz14_7
    try clear hfz14_8
    try clear hfz14_9
    try clear hfz15_0
    try clear hfz15_1
    try clear hfz15_2
    try clear hfz15_3
    try clear hfz15_4
    try clear hfz15_5
    try clear hfz15_6
    try clear hfz15_7
    try clear hfz15_8
    try clear hfz15_9
    try clear hfz16_0
    try clear hfz16_1
    try clear hfz16_2
    try clear hfz16_3
    try clear hfz16_4
    try clear hfz16_5
    try clear hfz16_6
    try clear hfz16_7
    try clear hfz16_8
    try clear hfz16_9
    try clear hfz17_0
    try clear hfz17_1
    try clear hfz17_2
    try clear hfz17_3
    try clear hfz17_4
    try clear hfz17_5
    try clear hfz17_6
    try clear hfz17_7
    try clear hfz17_8
    try clear hfz17_9
    try clear hfz25_0
    try clear hfz25_1
    try clear hfz25_2
    try clear hfz25_3
    try clear hfz25_4
    try clear hfz25_5
    try clear hfz25_6
    try clear hfz25_7
    try clear hfz25_8
    try clear hfz25_9
    try clear hfz26_0
    try clear hfz26_1
    try clear hfz26_2
    try clear hfz26_3
    try clear hfz26_4
    try clear hfz26_5
    try clear hfz26_6
    try clear hfz26_7
    try clear hfz26_8
    try clear hfz26_9
    try clear hfz27_0
    try clear hfz27_1
    try clear hfz27_2
    try clear hfz27_3
    try clear hfz27_4
    try clear hfz27_5
    try clear hfz27_6
    try clear hfz27_7
    try clear hfz27_8
    try clear hfz27_9
    try clear hfz28_0
    try clear hfz28_1
    try clear hfz28_2
    try clear hfz28_3
    try clear hfz28_4
    try clear hfz28_5
    try clear hfz28_6
    try clear hfz28_7
    try clear hfz28_8
    try clear hfz28_9
    try clear hfz29_0
    try clear hfz29_1
    try clear hfz29_2
    try clear hfz29_3
    try clear hfz29_4
    try clear hfz29_5
    try clear hfz29_6
    try clear hfz29_7
    try clear hfz29_8
    try clear hfz29_9
    try clear p2
    obtain ⟨kq,x4_17,rfl,HA,HJ17,BK959,HB⟩:=hcut
    cases kq with
    | zero => exact absurd HA.out (by simp [reeveref04_Right.j1])
    | succ kj17 =>
     have H:=HA.out
     clear HA
     simp only [reeveref04_Right.j1] at H
     by_cases c30 : a0_0 = 2
     ·rw [if_pos c30] at H
      have c30b0 : (a0_0 == 2) = true:=beq_iff_eq.mpr c30
      have c30b1 : (a0_0 != 2) = false:=bne_eq_false_iff_eq.mpr c30
      clear c30
      replace H:=Option.bind_eq_some_iff.mp H
      obtain ⟨t967,A310,H⟩:=H
      replace H : (if t967 = true then ((reeveref04_in.f a0_5 1 32).bind fun t968 => (if t968 = true then (if a0_2 = 0 then (if x3_1 = true then (if x4_17 = true then (some 0) else (if a0_3 = 0 then (some 0) else (some 40))) else (some 40)) else (if x3_1 = true then (if x4_17 = true then (some 0) else (some 40)) else (some 40))) else (if x3_1 = true then (if x4_17 = true then (some 0) else (some 40)) else (some 40)))) else (if x3_1 = true then (if x4_17 = true then (some 0) else (some 40)) else (some 40))) = some r:=H
      have A31:=Aside0.mk A310
      clear A310
      by_cases c32 : t967 = true
      ·subst c32
       have H1 : ((reeveref04_in.f a0_5 1 32).bind fun t968 => (if t968 = true then (if a0_2 = 0 then (if x3_1 = true then (if x4_17 = true then (some 0) else (if a0_3 = 0 then (some 0) else (some 40))) else (some 40)) else (if x3_1 = true then (if x4_17 = true then (some 0) else (some 40)) else (some 40))) else (if x3_1 = true then (if x4_17 = true then (some 0) else (some 40)) else (some 40)))) = some r:=by rw [if_pos rfl] at H;exact H
       clear H
       have H:=H1
       clear H1
       replace H:=Option.bind_eq_some_iff.mp H
       obtain ⟨t968,A330,H⟩:=H
       replace H : (if t968 = true then (if a0_2 = 0 then (if x3_1 = true then (if x4_17 = true then (some 0) else (if a0_3 = 0 then (some 0) else (some 40))) else (some 40)) else (if x3_1 = true then (if x4_17 = true then (some 0) else (some 40)) else (some 40))) else (if x3_1 = true then (if x4_17 = true then (some 0) else (some 40)) else (some 40))) = some r:=H
       have A33:=Aside0.mk A330
       clear A330
       by_cases c34 : t968 = true
       ·subst c34
        have H1 : (if a0_2 = 0 then (if x3_1 = true then (if x4_17 = true then (some 0) else (if a0_3 = 0 then (some 0) else (some 40))) else (some 40)) else (if x3_1 = true then (if x4_17 = true then (some 0) else (some 40)) else (some 40))) = some r:=by rw [if_pos rfl] at H;exact H
        clear H
        have H:=H1
        clear H1
        by_cases c35 : a0_2 = 0
        ·rw [if_pos c35] at H
         have c35b0 : (a0_2 == 0) = true:=beq_iff_eq.mpr c35
         have c35b1 : (a0_2 != 0) = false:=bne_eq_false_iff_eq.mpr c35
         clear c35
         by_cases c36 : x3_1 = true
         ·subst c36
          have H1 : (if x4_17 = true then (some 0) else (if a0_3 = 0 then (some 0) else (some 40))) = some r:=by rw [if_pos rfl] at H;exact H
          clear H
          have H:=H1
          clear H1
          by_cases c37 : x4_17 = true
          ·subst c37
           have H1 : (some 0) = some r:=by rw [if_pos rfl] at H;exact H
           clear H
           have H:=H1
           clear H1
           obtain rfl:=Option.some.inj H
           have hcz38_0 : wc.cell? ⟨gb959,0,none⟩ = some (.int .i64 a0_0):=(blk_cell BK959.out 0).trans rfl
           have hcz38_1 : wc.cell? ⟨gb959,1,none⟩ = some (.int .i64 a0_1):=(blk_cell BK959.out 1).trans rfl
           have hcz38_2 : wc.cell? ⟨gb959,2,none⟩ = some (.int .i64 a0_2):=(blk_cell BK959.out 2).trans rfl
           have hcz38_3 : wc.cell? ⟨gb959,3,none⟩ = some (.int .i64 a0_3):=(blk_cell BK959.out 3).trans rfl
           have hcz38_4 : wc.cell? ⟨gb959,4,none⟩ = some (.int .i64 a0_4):=(blk_cell BK959.out 4).trans rfl
           have hcz38_5 : wc.cell? ⟨gb959,5,none⟩ = some (.int .i64 a0_5):=(blk_cell BK959.out 5).trans rfl
           have hcz38_6 : wc.cell? ⟨gb959,6,none⟩ = some (.int .i64 a0_6):=(blk_cell BK959.out 6).trans rfl
           have hcz38_7 : wc.cell? ⟨gb959,7,none⟩ = some (.int .i64 a0_7):=(blk_cell BK959.out 7).trans rfl
           have hcz38_8 : wc.cell? ⟨gb959,8,none⟩ = some (.int .i64 a0_8):=(blk_cell BK959.out 8).trans rfl
           have hcz38_9 : wc.cell? ⟨gb959,9,none⟩ = some (.int .i64 a0_9):=(blk_cell BK959.out 9).trans rfl
           have hfz38_0:=blk_frozen BK959.out 0
           have hfz38_1:=blk_frozen BK959.out 1
           have hfz38_2:=blk_frozen BK959.out 2
           have hfz38_3:=blk_frozen BK959.out 3
           have hfz38_4:=blk_frozen BK959.out 4
           have hfz38_5:=blk_frozen BK959.out 5
           have hfz38_6:=blk_frozen BK959.out 6
           have hfz38_7:=blk_frozen BK959.out 7
           have hfz38_8:=blk_frozen BK959.out 8
           have hfz38_9:=blk_frozen BK959.out 9
           go_wp2_with (first | (go_at_call 84;(with_reducible refine (reeveref04_in.calls a0_4 1 1048576 true _ A31.out).mono ?_);rintro e w' ⟨rfl,⟨nd,rfl⟩⟩) | (go_at_call 84;(with_reducible refine (reeveref04_in.calls a0_5 1 32 true _ A33.out).mono ?_);rintro e w' ⟨rfl,⟨nd,rfl⟩⟩))
           go_ret
           exact ⟨by first | rfl | (simp [errW_none,errW_some] <;> rfl) | (simp [*,errW_none,errW_some] <;> rfl),by repeat (first | (with_reducible first | exact HB.out | apply below_alloc | apply pw_below_drewN | apply below_drew1 | refine below_set ?_ GE959.out) | exact HB.out)⟩
          ·replace c37:=Bool.eq_false_iff.mpr c37
           subst c37
           have H1 : (if a0_3 = 0 then (some 0) else (some 40)) = some r:=by rw [if_neg (show ¬ (false = true) by decide)] at H;exact H
           clear H
           have H:=H1
           clear H1
           by_cases c39 : a0_3 = 0
           ·rw [if_pos c39] at H
            have c39b0 : (a0_3 == 0) = true:=beq_iff_eq.mpr c39
            have c39b1 : (a0_3 != 0) = false:=bne_eq_false_iff_eq.mpr c39
            clear c39
            obtain rfl:=Option.some.inj H
            have hcz40_0 : wc.cell? ⟨gb959,0,none⟩ = some (.int .i64 a0_0):=(blk_cell BK959.out 0).trans rfl
            have hcz40_1 : wc.cell? ⟨gb959,1,none⟩ = some (.int .i64 a0_1):=(blk_cell BK959.out 1).trans rfl
            have hcz40_2 : wc.cell? ⟨gb959,2,none⟩ = some (.int .i64 a0_2):=(blk_cell BK959.out 2).trans rfl
            have hcz40_3 : wc.cell? ⟨gb959,3,none⟩ = some (.int .i64 a0_3):=(blk_cell BK959.out 3).trans rfl
            have hcz40_4 : wc.cell? ⟨gb959,4,none⟩ = some (.int .i64 a0_4):=(blk_cell BK959.out 4).trans rfl
            have hcz40_5 : wc.cell? ⟨gb959,5,none⟩ = some (.int .i64 a0_5):=(blk_cell BK959.out 5).trans rfl
            have hcz40_6 : wc.cell? ⟨gb959,6,none⟩ = some (.int .i64 a0_6):=(blk_cell BK959.out 6).trans rfl
            have hcz40_7 : wc.cell? ⟨gb959,7,none⟩ = some (.int .i64 a0_7):=(blk_cell BK959.out 7).trans rfl
            have hcz40_8 : wc.cell? ⟨gb959,8,none⟩ = some (.int .i64 a0_8):=(blk_cell BK959.out 8).trans rfl
            have hcz40_9 : wc.cell? ⟨gb959,9,none⟩ = some (.int .i64 a0_9):=(blk_cell BK959.out 9).trans rfl
            have hfz40_0:=blk_frozen BK959.out 0
            have hfz40_1:=blk_frozen BK959.out 1
            have hfz40_2:=blk_frozen BK959.out 2
            have hfz40_3:=blk_frozen BK959.out 3
            have hfz40_4:=blk_frozen BK959.out 4
            have hfz40_5:=blk_frozen BK959.out 5
            have hfz40_6:=blk_frozen BK959.out 6
            have hfz40_7:=blk_frozen BK959.out 7
            have hfz40_8:=blk_frozen BK959.out 8
            have hfz40_9:=blk_frozen BK959.out 9
            go_wp2_with (first | (go_at_call 84;(with_reducible refine (reeveref04_in.calls a0_4 1 1048576 true _ A31.out).mono ?_);rintro e w' ⟨rfl,⟨nd,rfl⟩⟩) | (go_at_call 84;(with_reducible refine (reeveref04_in.calls a0_5 1 32 true _ A33.out).mono ?_);rintro e w' ⟨rfl,⟨nd,rfl⟩⟩))
            go_ret
            exact ⟨by first | rfl | (simp [errW_none,errW_some] <;> rfl) | (simp [*,errW_none,errW_some] <;> rfl),by repeat (first | (with_reducible first | exact HB.out | apply below_alloc | apply pw_below_drewN | apply below_drew1 | refine below_set ?_ GE959.out) | exact HB.out)⟩
           ·rw [if_neg c39] at H
            have c39b0 : (a0_3 == 0) = false:=beq_eq_false_iff_ne.mpr c39
            have c39b1 : (a0_3 != 0) = true:=bne_iff_ne.mpr c39
            obtain rfl:=Option.some.inj H
            have hcz41_0 : wc.cell? ⟨gb959,0,none⟩ = some (.int .i64 a0_0):=(blk_cell BK959.out 0).trans rfl
            have hcz41_1 : wc.cell? ⟨gb959,1,none⟩ = some (.int .i64 a0_1):=(blk_cell BK959.out 1).trans rfl
            have hcz41_2 : wc.cell? ⟨gb959,2,none⟩ = some (.int .i64 a0_2):=(blk_cell BK959.out 2).trans rfl
            have hcz41_3 : wc.cell? ⟨gb959,3,none⟩ = some (.int .i64 a0_3):=(blk_cell BK959.out 3).trans rfl
            have hcz41_4 : wc.cell? ⟨gb959,4,none⟩ = some (.int .i64 a0_4):=(blk_cell BK959.out 4).trans rfl
            have hcz41_5 : wc.cell? ⟨gb959,5,none⟩ = some (.int .i64 a0_5):=(blk_cell BK959.out 5).trans rfl
            have hcz41_6 : wc.cell? ⟨gb959,6,none⟩ = some (.int .i64 a0_6):=(blk_cell BK959.out 6).trans rfl
            have hcz41_7 : wc.cell? ⟨gb959,7,none⟩ = some (.int .i64 a0_7):=(blk_cell BK959.out 7).trans rfl
            have hcz41_8 : wc.cell? ⟨gb959,8,none⟩ = some (.int .i64 a0_8):=(blk_cell BK959.out 8).trans rfl
            have hcz41_9 : wc.cell? ⟨gb959,9,none⟩ = some (.int .i64 a0_9):=(blk_cell BK959.out 9).trans rfl
            have hfz41_0:=blk_frozen BK959.out 0
            have hfz41_1:=blk_frozen BK959.out 1
            have hfz41_2:=blk_frozen BK959.out 2
            have hfz41_3:=blk_frozen BK959.out 3
            have hfz41_4:=blk_frozen BK959.out 4
            have hfz41_5:=blk_frozen BK959.out 5
            have hfz41_6:=blk_frozen BK959.out 6
            have hfz41_7:=blk_frozen BK959.out 7
            have hfz41_8:=blk_frozen BK959.out 8
            have hfz41_9:=blk_frozen BK959.out 9
            go_wp2_with (first | (go_at_call 84;(with_reducible refine (reeveref04_in.calls a0_4 1 1048576 true _ A31.out).mono ?_);rintro e w' ⟨rfl,⟨nd,rfl⟩⟩) | (go_at_call 84;(with_reducible refine (reeveref04_in.calls a0_5 1 32 true _ A33.out).mono ?_);rintro e w' ⟨rfl,⟨nd,rfl⟩⟩))
            go_ret
            exact ⟨by first | rfl | (simp [errW_none,errW_some] <;> rfl) | (simp [*,errW_none,errW_some] <;> rfl),by repeat (first | (with_reducible first | exact HB.out | apply below_alloc | apply pw_below_drewN | apply below_drew1 | refine below_set ?_ GE959.out) | exact HB.out)⟩
         ·replace c36:=Bool.eq_false_iff.mpr c36
          subst c36
          have H1 : (some 40) = some r:=by rw [if_neg (show ¬ (false = true) by decide)] at H;exact H
          clear H
          have H:=H1
          clear H1
          obtain rfl:=Option.some.inj H
          have hcz42_0 : wc.cell? ⟨gb959,0,none⟩ = some (.int .i64 a0_0):=(blk_cell BK959.out 0).trans rfl
          have hcz42_1 : wc.cell? ⟨gb959,1,none⟩ = some (.int .i64 a0_1):=(blk_cell BK959.out 1).trans rfl
          have hcz42_2 : wc.cell? ⟨gb959,2,none⟩ = some (.int .i64 a0_2):=(blk_cell BK959.out 2).trans rfl
          have hcz42_3 : wc.cell? ⟨gb959,3,none⟩ = some (.int .i64 a0_3):=(blk_cell BK959.out 3).trans rfl
          have hcz42_4 : wc.cell? ⟨gb959,4,none⟩ = some (.int .i64 a0_4):=(blk_cell BK959.out 4).trans rfl
          have hcz42_5 : wc.cell? ⟨gb959,5,none⟩ = some (.int .i64 a0_5):=(blk_cell BK959.out 5).trans rfl
          have hcz42_6 : wc.cell? ⟨gb959,6,none⟩ = some (.int .i64 a0_6):=(blk_cell BK959.out 6).trans rfl
          have hcz42_7 : wc.cell? ⟨gb959,7,none⟩ = some (.int .i64 a0_7):=(blk_cell BK959.out 7).trans rfl
          have hcz42_8 : wc.cell? ⟨gb959,8,none⟩ = some (.int .i64 a0_8):=(blk_cell BK959.out 8).trans rfl
          have hcz42_9 : wc.cell? ⟨gb959,9,none⟩ = some (.int .i64 a0_9):=(blk_cell BK959.out 9).trans rfl
          have hfz42_0:=blk_frozen BK959.out 0
          have hfz42_1:=blk_frozen BK959.out 1
          have hfz42_2:=blk_frozen BK959.out 2
          have hfz42_3:=blk_frozen BK959.out 3
          have hfz42_4:=blk_frozen BK959.out 4
          have hfz42_5:=blk_frozen BK959.out 5
          have hfz42_6:=blk_frozen BK959.out 6
          have hfz42_7:=blk_frozen BK959.out 7
          have hfz42_8:=blk_frozen BK959.out 8
          have hfz42_9:=blk_frozen BK959.out 9
          go_wp2_with (first | (go_at_call 84;(with_reducible refine (reeveref04_in.calls a0_4 1 1048576 true _ A31.out).mono ?_);rintro e w' ⟨rfl,⟨nd,rfl⟩⟩) | (go_at_call 84;(with_reducible refine (reeveref04_in.calls a0_5 1 32 true _ A33.out).mono ?_);rintro e w' ⟨rfl,⟨nd,rfl⟩⟩))
          go_ret
          exact ⟨by first | rfl | (simp [errW_none,errW_some] <;> rfl) | (simp [*,errW_none,errW_some] <;> rfl),by repeat (first | (with_reducible first | exact HB.out | apply below_alloc | apply pw_below_drewN | apply below_drew1 | refine below_set ?_ GE959.out) | exact HB.out)⟩
        ·rw [if_neg c35] at H
         have c35b0 : (a0_2 == 0) = false:=beq_eq_false_iff_ne.mpr c35
         have c35b1 : (a0_2 != 0) = true:=bne_iff_ne.mpr c35
         by_cases c43 : x3_1 = true
         ·subst c43
          have H1 : (if x4_17 = true then (some 0) else (some 40)) = some r:=by rw [if_pos rfl] at H;exact H
          clear H
          have H:=H1
          clear H1
          by_cases c44 : x4_17 = true
          ·subst c44
           have H1 : (some 0) = some r:=by rw [if_pos rfl] at H;exact H
           clear H
           have H:=H1
           clear H1
           obtain rfl:=Option.some.inj H
           have hcz45_0 : wc.cell? ⟨gb959,0,none⟩ = some (.int .i64 a0_0):=(blk_cell BK959.out 0).trans rfl
           have hcz45_1 : wc.cell? ⟨gb959,1,none⟩ = some (.int .i64 a0_1):=(blk_cell BK959.out 1).trans rfl
           have hcz45_2 : wc.cell? ⟨gb959,2,none⟩ = some (.int .i64 a0_2):=(blk_cell BK959.out 2).trans rfl
           have hcz45_3 : wc.cell? ⟨gb959,3,none⟩ = some (.int .i64 a0_3):=(blk_cell BK959.out 3).trans rfl
           have hcz45_4 : wc.cell? ⟨gb959,4,none⟩ = some (.int .i64 a0_4):=(blk_cell BK959.out 4).trans rfl
           have hcz45_5 : wc.cell? ⟨gb959,5,none⟩ = some (.int .i64 a0_5):=(blk_cell BK959.out 5).trans rfl
           have hcz45_6 : wc.cell? ⟨gb959,6,none⟩ = some (.int .i64 a0_6):=(blk_cell BK959.out 6).trans rfl
           have hcz45_7 : wc.cell? ⟨gb959,7,none⟩ = some (.int .i64 a0_7):=(blk_cell BK959.out 7).trans rfl
           have hcz45_8 : wc.cell? ⟨gb959,8,none⟩ = some (.int .i64 a0_8):=(blk_cell BK959.out 8).trans rfl
           have hcz45_9 : wc.cell? ⟨gb959,9,none⟩ = some (.int .i64 a0_9):=(blk_cell BK959.out 9).trans rfl
           have hfz45_0:=blk_frozen BK959.out 0
           have hfz45_1:=blk_frozen BK959.out 1
           have hfz45_2:=blk_frozen BK959.out 2
           have hfz45_3:=blk_frozen BK959.out 3
           have hfz45_4:=blk_frozen BK959.out 4
           have hfz45_5:=blk_frozen BK959.out 5
           have hfz45_6:=blk_frozen BK959.out 6
           have hfz45_7:=blk_frozen BK959.out 7
           have hfz45_8:=blk_frozen BK959.out 8
           have hfz45_9:=blk_frozen BK959.out 9
           go_wp2_with (first | (go_at_call 84;(with_reducible refine (reeveref04_in.calls a0_4 1 1048576 true _ A31.out).mono ?_);rintro e w' ⟨rfl,⟨nd,rfl⟩⟩) | (go_at_call 84;(with_reducible refine (reeveref04_in.calls a0_5 1 32 true _ A33.out).mono ?_);rintro e w' ⟨rfl,⟨nd,rfl⟩⟩))
           go_ret
           exact ⟨by first | rfl | (simp [errW_none,errW_some] <;> rfl) | (simp [*,errW_none,errW_some] <;> rfl),by repeat (first | (with_reducible first | exact HB.out | apply below_alloc | apply pw_below_drewN | apply below_drew1 | refine below_set ?_ GE959.out) | exact HB.out)⟩
          ·replace c44:=Bool.eq_false_iff.mpr c44
           subst c44
           have H1 : (some 40) = some r:=by rw [if_neg (show ¬ (false = true) by decide)] at H;exact H
           clear H
           have H:=H1
           clear H1
           obtain rfl:=Option.some.inj H
           have hcz46_0 : wc.cell? ⟨gb959,0,none⟩ = some (.int .i64 a0_0):=(blk_cell BK959.out 0).trans rfl
           have hcz46_1 : wc.cell? ⟨gb959,1,none⟩ = some (.int .i64 a0_1):=(blk_cell BK959.out 1).trans rfl
           have hcz46_2 : wc.cell? ⟨gb959,2,none⟩ = some (.int .i64 a0_2):=(blk_cell BK959.out 2).trans rfl
           have hcz46_3 : wc.cell? ⟨gb959,3,none⟩ = some (.int .i64 a0_3):=(blk_cell BK959.out 3).trans rfl
           have hcz46_4 : wc.cell? ⟨gb959,4,none⟩ = some (.int .i64 a0_4):=(blk_cell BK959.out 4).trans rfl
           have hcz46_5 : wc.cell? ⟨gb959,5,none⟩ = some (.int .i64 a0_5):=(blk_cell BK959.out 5).trans rfl
           have hcz46_6 : wc.cell? ⟨gb959,6,none⟩ = some (.int .i64 a0_6):=(blk_cell BK959.out 6).trans rfl
           have hcz46_7 : wc.cell? ⟨gb959,7,none⟩ = some (.int .i64 a0_7):=(blk_cell BK959.out 7).trans rfl
           have hcz46_8 : wc.cell? ⟨gb959,8,none⟩ = some (.int .i64 a0_8):=(blk_cell BK959.out 8).trans rfl
           have hcz46_9 : wc.cell? ⟨gb959,9,none⟩ = some (.int .i64 a0_9):=(blk_cell BK959.out 9).trans rfl
           have hfz46_0:=blk_frozen BK959.out 0
           have hfz46_1:=blk_frozen BK959.out 1
           have hfz46_2:=blk_frozen BK959.out 2
           have hfz46_3:=blk_frozen BK959.out 3
           have hfz46_4:=blk_frozen BK959.out 4
           have hfz46_5:=blk_frozen BK959.out 5
           have hfz46_6:=blk_frozen BK959.out 6
           have hfz46_7:=blk_frozen BK959.out 7
           have hfz46_8:=blk_frozen BK959.out 8
           have hfz46_9:=blk_frozen BK959.out 9
           go_wp2_with (first | (go_at_call 84;(with_reducible refine (reeveref04_in.calls a0_4 1 1048576 true _ A31.out).mono ?_);rintro e w' ⟨rfl,⟨nd,rfl⟩⟩) | (go_at_call 84;(with_reducible refine (reeveref04_in.calls a0_5 1 32 true _ A33.out).mono ?_);rintro e w' ⟨rfl,⟨nd,rfl⟩⟩))
           go_ret
           exact ⟨by first | rfl | (simp [errW_none,errW_some] <;> rfl) | (simp [*,errW_none,errW_some] <;> rfl),by repeat (first | (with_reducible first | exact HB.out | apply below_alloc | apply pw_below_drewN | apply below_drew1 | refine below_set ?_ GE959.out) | exact HB.out)⟩
         ·replace c43:=Bool.eq_false_iff.mpr c43
          subst c43
          have H1 : (some 40) = some r:=by rw [if_neg (show ¬ (false = true) by decide)] at H;exact H
          clear H
          have H:=H1
          clear H1
          obtain rfl:=Option.some.inj H
          have hcz47_0 : wc.cell? ⟨gb959,0,none⟩ = some (.int .i64 a0_0):=(blk_cell BK959.out 0).trans rfl
          have hcz47_1 : wc.cell? ⟨gb959,1,none⟩ = some (.int .i64 a0_1):=(blk_cell BK959.out 1).trans rfl
          have hcz47_2 : wc.cell? ⟨gb959,2,none⟩ = some (.int .i64 a0_2):=(blk_cell BK959.out 2).trans rfl
          have hcz47_3 : wc.cell? ⟨gb959,3,none⟩ = some (.int .i64 a0_3):=(blk_cell BK959.out 3).trans rfl
          have hcz47_4 : wc.cell? ⟨gb959,4,none⟩ = some (.int .i64 a0_4):=(blk_cell BK959.out 4).trans rfl
          have hcz47_5 : wc.cell? ⟨gb959,5,none⟩ = some (.int .i64 a0_5):=(blk_cell BK959.out 5).trans rfl
          have hcz47_6 : wc.cell? ⟨gb959,6,none⟩ = some (.int .i64 a0_6):=(blk_cell BK959.out 6).trans rfl
          have hcz47_7 : wc.cell? ⟨gb959,7,none⟩ = some (.int .i64 a0_7):=(blk_cell BK959.out 7).trans rfl
          have hcz47_8 : wc.cell? ⟨gb959,8,none⟩ = some (.int .i64 a0_8):=(blk_cell BK959.out 8).trans rfl
          have hcz47_9 : wc.cell? ⟨gb959,9,none⟩ = some (.int .i64 a0_9):=(blk_cell BK959.out 9).trans rfl
          have hfz47_0:=blk_frozen BK959.out 0
          have hfz47_1:=blk_frozen BK959.out 1
          have hfz47_2:=blk_frozen BK959.out 2
          have hfz47_3:=blk_frozen BK959.out 3
          have hfz47_4:=blk_frozen BK959.out 4
          have hfz47_5:=blk_frozen BK959.out 5
          have hfz47_6:=blk_frozen BK959.out 6
          have hfz47_7:=blk_frozen BK959.out 7
          have hfz47_8:=blk_frozen BK959.out 8
          have hfz47_9:=blk_frozen BK959.out 9
          go_wp2_with (first | (go_at_call 84;(with_reducible refine (reeveref04_in.calls a0_4 1 1048576 true _ A31.out).mono ?_);rintro e w' ⟨rfl,⟨nd,rfl⟩⟩) | (go_at_call 84;(with_reducible refine (reeveref04_in.calls a0_5 1 32 true _ A33.out).mono ?_);rintro e w' ⟨rfl,⟨nd,rfl⟩⟩))
          go_ret
          exact ⟨by first | rfl | (simp [errW_none,errW_some] <;> rfl) | (simp [*,errW_none,errW_some] <;> rfl),by repeat (first | (with_reducible first | exact HB.out | apply below_alloc | apply pw_below_drewN | apply below_drew1 | refine below_set ?_ GE959.out) | exact HB.out)⟩
       ·replace c34:=Bool.eq_false_iff.mpr c34
        subst c34
        have H1 : (if x3_1 = true then (if x4_17 = true then (some 0) else (some 40)) else (some 40)) = some r:=by rw [if_neg (show ¬ (false = true) by decide)] at H;exact H
        clear H
        have H:=H1
        clear H1
        by_cases c48 : x3_1 = true
        ·subst c48
         have H1 : (if x4_17 = true then (some 0) else (some 40)) = some r:=by rw [if_pos rfl] at H;exact H
         clear H
         have H:=H1
         clear H1
         by_cases c49 : x4_17 = true
         ·subst c49
          have H1 : (some 0) = some r:=by rw [if_pos rfl] at H;exact H
          clear H
          have H:=H1
          clear H1
          obtain rfl:=Option.some.inj H
          have hcz50_0 : wc.cell? ⟨gb959,0,none⟩ = some (.int .i64 a0_0):=(blk_cell BK959.out 0).trans rfl
          have hcz50_1 : wc.cell? ⟨gb959,1,none⟩ = some (.int .i64 a0_1):=(blk_cell BK959.out 1).trans rfl
          have hcz50_2 : wc.cell? ⟨gb959,2,none⟩ = some (.int .i64 a0_2):=(blk_cell BK959.out 2).trans rfl
          have hcz50_3 : wc.cell? ⟨gb959,3,none⟩ = some (.int .i64 a0_3):=(blk_cell BK959.out 3).trans rfl
          have hcz50_4 : wc.cell? ⟨gb959,4,none⟩ = some (.int .i64 a0_4):=(blk_cell BK959.out 4).trans rfl
          have hcz50_5 : wc.cell? ⟨gb959,5,none⟩ = some (.int .i64 a0_5):=(blk_cell BK959.out 5).trans rfl
          have hcz50_6 : wc.cell? ⟨gb959,6,none⟩ = some (.int .i64 a0_6):=(blk_cell BK959.out 6).trans rfl
          have hcz50_7 : wc.cell? ⟨gb959,7,none⟩ = some (.int .i64 a0_7):=(blk_cell BK959.out 7).trans rfl
          have hcz50_8 : wc.cell? ⟨gb959,8,none⟩ = some (.int .i64 a0_8):=(blk_cell BK959.out 8).trans rfl
          have hcz50_9 : wc.cell? ⟨gb959,9,none⟩ = some (.int .i64 a0_9):=(blk_cell BK959.out 9).trans rfl
          have hfz50_0:=blk_frozen BK959.out 0
          have hfz50_1:=blk_frozen BK959.out 1
          have hfz50_2:=blk_frozen BK959.out 2
          have hfz50_3:=blk_frozen BK959.out 3
          have hfz50_4:=blk_frozen BK959.out 4
          have hfz50_5:=blk_frozen BK959.out 5
          have hfz50_6:=blk_frozen BK959.out 6
          have hfz50_7:=blk_frozen BK959.out 7
          have hfz50_8:=blk_frozen BK959.out 8
          have hfz50_9:=blk_frozen BK959.out 9
          go_wp2_with (first | (go_at_call 84;(with_reducible refine (reeveref04_in.calls a0_4 1 1048576 true _ A31.out).mono ?_);rintro e w' ⟨rfl,⟨nd,rfl⟩⟩) | (go_at_call 84;(with_reducible refine (reeveref04_in.calls a0_5 1 32 false _ A33.out).mono ?_);rintro e w' ⟨rfl,⟨nd,rfl⟩⟩))
          go_ret
          exact ⟨by first | rfl | (simp [errW_none,errW_some] <;> rfl) | (simp [*,errW_none,errW_some] <;> rfl),by repeat (first | (with_reducible first | exact HB.out | apply below_alloc | apply pw_below_drewN | apply below_drew1 | refine below_set ?_ GE959.out) | exact HB.out)⟩
         ·replace c49:=Bool.eq_false_iff.mpr c49
          subst c49
          have H1 : (some 40) = some r:=by rw [if_neg (show ¬ (false = true) by decide)] at H;exact H
          clear H
          have H:=H1
          clear H1
          obtain rfl:=Option.some.inj H
          have hcz51_0 : wc.cell? ⟨gb959,0,none⟩ = some (.int .i64 a0_0):=(blk_cell BK959.out 0).trans rfl
          have hcz51_1 : wc.cell? ⟨gb959,1,none⟩ = some (.int .i64 a0_1):=(blk_cell BK959.out 1).trans rfl
          have hcz51_2 : wc.cell? ⟨gb959,2,none⟩ = some (.int .i64 a0_2):=(blk_cell BK959.out 2).trans rfl
          have hcz51_3 : wc.cell? ⟨gb959,3,none⟩ = some (.int .i64 a0_3):=(blk_cell BK959.out 3).trans rfl
          have hcz51_4 : wc.cell? ⟨gb959,4,none⟩ = some (.int .i64 a0_4):=(blk_cell BK959.out 4).trans rfl
          have hcz51_5 : wc.cell? ⟨gb959,5,none⟩ = some (.int .i64 a0_5):=(blk_cell BK959.out 5).trans rfl
          have hcz51_6 : wc.cell? ⟨gb959,6,none⟩ = some (.int .i64 a0_6):=(blk_cell BK959.out 6).trans rfl
          have hcz51_7 : wc.cell? ⟨gb959,7,none⟩ = some (.int .i64 a0_7):=(blk_cell BK959.out 7).trans rfl
          have hcz51_8 : wc.cell? ⟨gb959,8,none⟩ = some (.int .i64 a0_8):=(blk_cell BK959.out 8).trans rfl
          have hcz51_9 : wc.cell? ⟨gb959,9,none⟩ = some (.int .i64 a0_9):=(blk_cell BK959.out 9).trans rfl
          have hfz51_0:=blk_frozen BK959.out 0
          have hfz51_1:=blk_frozen BK959.out 1
          have hfz51_2:=blk_frozen BK959.out 2
          have hfz51_3:=blk_frozen BK959.out 3
          have hfz51_4:=blk_frozen BK959.out 4
          have hfz51_5:=blk_frozen BK959.out 5
          have hfz51_6:=blk_frozen BK959.out 6
          have hfz51_7:=blk_frozen BK959.out 7
          have hfz51_8:=blk_frozen BK959.out 8
          have hfz51_9:=blk_frozen BK959.out 9
          go_wp2_with (first | (go_at_call 84;(with_reducible refine (reeveref04_in.calls a0_4 1 1048576 true _ A31.out).mono ?_);rintro e w' ⟨rfl,⟨nd,rfl⟩⟩) | (go_at_call 84;(with_reducible refine (reeveref04_in.calls a0_5 1 32 false _ A33.out).mono ?_);rintro e w' ⟨rfl,⟨nd,rfl⟩⟩))
          go_ret
          exact ⟨by first | rfl | (simp [errW_none,errW_some] <;> rfl) | (simp [*,errW_none,errW_some] <;> rfl),by repeat (first | (with_reducible first | exact HB.out | apply below_alloc | apply pw_below_drewN | apply below_drew1 | refine below_set ?_ GE959.out) | exact HB.out)⟩
        ·replace c48:=Bool.eq_false_iff.mpr c48
         subst c48
         have H1 : (some 40) = some r:=by rw [if_neg (show ¬ (false = true) by decide)] at H;exact H
         clear H
         have H:=H1
         clear H1
         obtain rfl:=Option.some.inj H
         have hcz52_0 : wc.cell? ⟨gb959,0,none⟩ = some (.int .i64 a0_0):=(blk_cell BK959.out 0).trans rfl
         have hcz52_1 : wc.cell? ⟨gb959,1,none⟩ = some (.int .i64 a0_1):=(blk_cell BK959.out 1).trans rfl
         have hcz52_2 : wc.cell? ⟨gb959,2,none⟩ = some (.int .i64 a0_2):=(blk_cell BK959.out 2).trans rfl
         have hcz52_3 : wc.cell? ⟨gb959,3,none⟩ = some (.int .i64 a0_3):=(blk_cell BK959.out 3).trans rfl
         have hcz52_4 : wc.cell? ⟨gb959,4,none⟩ = some (.int .i64 a0_4):=(blk_cell BK959.out 4).trans rfl
         have hcz52_5 : wc.cell? ⟨gb959,5,none⟩ = some (.int .i64 a0_5):=(blk_cell BK959.out 5).trans rfl
         have hcz52_6 : wc.cell? ⟨gb959,6,none⟩ = some (.int .i64 a0_6):=(blk_cell BK959.out 6).trans rfl
         have hcz52_7 : wc.cell? ⟨gb959,7,none⟩ = some (.int .i64 a0_7):=(blk_cell BK959.out 7).trans rfl
         have hcz52_8 : wc.cell? ⟨gb959,8,none⟩ = some (.int .i64 a0_8):=(blk_cell BK959.out 8).trans rfl
         have hcz52_9 : wc.cell? ⟨gb959,9,none⟩ = some (.int .i64 a0_9):=(blk_cell BK959.out 9).trans rfl
         have hfz52_0:=blk_frozen BK959.out 0
         have hfz52_1:=blk_frozen BK959.out 1
         have hfz52_2:=blk_frozen BK959.out 2
         have hfz52_3:=blk_frozen BK959.out 3
         have hfz52_4:=blk_frozen BK959.out 4
         have hfz52_5:=blk_frozen BK959.out 5
         have hfz52_6:=blk_frozen BK959.out 6
         have hfz52_7:=blk_frozen BK959.out 7
         have hfz52_8:=blk_frozen BK959.out 8
         have hfz52_9:=blk_frozen BK959.out 9
         go_wp2_with (first | (go_at_call 84;(with_reducible refine (reeveref04_in.calls a0_4 1 1048576 true _ A31.out).mono ?_);rintro e w' ⟨rfl,⟨nd,rfl⟩⟩) | (go_at_call 84;(with_reducible refine (reeveref04_in.calls a0_5 1 32 false _ A33.out).mono ?_);rintro e w' ⟨rfl,⟨nd,rfl⟩⟩))
         go_ret
         exact ⟨by first | rfl | (simp [errW_none,errW_some] <;> rfl) | (simp [*,errW_none,errW_some] <;> rfl),by repeat (first | (with_reducible first | exact HB.out | apply below_alloc | apply pw_below_drewN | apply below_drew1 | refine below_set ?_ GE959.out) | exact HB.out)⟩
      ·replace c32:=Bool.eq_false_iff.mpr c32
       subst c32
       have H1 : (if x3_1 = true then (if x4_17 = true then (some 0) else (some 40)) else (some 40)) = some r:=by rw [if_neg (show ¬ (false = true) by decide)] at H;exact H
       clear H
       have H:=H1
       clear H1
       by_cases c53 : x3_1 = true
       ·subst c53
        have H1 : (if x4_17 = true then (some 0) else (some 40)) = some r:=by rw [if_pos rfl] at H;exact H
        clear H
        have H:=H1
        clear H1
        by_cases c54 : x4_17 = true
        ·subst c54
         have H1 : (some 0) = some r:=by rw [if_pos rfl] at H;exact H
         clear H
         have H:=H1
         clear H1
         obtain rfl:=Option.some.inj H
         have hcz55_0 : wc.cell? ⟨gb959,0,none⟩ = some (.int .i64 a0_0):=(blk_cell BK959.out 0).trans rfl
         have hcz55_1 : wc.cell? ⟨gb959,1,none⟩ = some (.int .i64 a0_1):=(blk_cell BK959.out 1).trans rfl
         have hcz55_2 : wc.cell? ⟨gb959,2,none⟩ = some (.int .i64 a0_2):=(blk_cell BK959.out 2).trans rfl
         have hcz55_3 : wc.cell? ⟨gb959,3,none⟩ = some (.int .i64 a0_3):=(blk_cell BK959.out 3).trans rfl
         have hcz55_4 : wc.cell? ⟨gb959,4,none⟩ = some (.int .i64 a0_4):=(blk_cell BK959.out 4).trans rfl
         have hcz55_5 : wc.cell? ⟨gb959,5,none⟩ = some (.int .i64 a0_5):=(blk_cell BK959.out 5).trans rfl
         have hcz55_6 : wc.cell? ⟨gb959,6,none⟩ = some (.int .i64 a0_6):=(blk_cell BK959.out 6).trans rfl
         have hcz55_7 : wc.cell? ⟨gb959,7,none⟩ = some (.int .i64 a0_7):=(blk_cell BK959.out 7).trans rfl
         have hcz55_8 : wc.cell? ⟨gb959,8,none⟩ = some (.int .i64 a0_8):=(blk_cell BK959.out 8).trans rfl
         have hcz55_9 : wc.cell? ⟨gb959,9,none⟩ = some (.int .i64 a0_9):=(blk_cell BK959.out 9).trans rfl
         have hfz55_0:=blk_frozen BK959.out 0
         have hfz55_1:=blk_frozen BK959.out 1
         have hfz55_2:=blk_frozen BK959.out 2
         have hfz55_3:=blk_frozen BK959.out 3
         have hfz55_4:=blk_frozen BK959.out 4
         have hfz55_5:=blk_frozen BK959.out 5
         have hfz55_6:=blk_frozen BK959.out 6
         have hfz55_7:=blk_frozen BK959.out 7
         have hfz55_8:=blk_frozen BK959.out 8
         have hfz55_9:=blk_frozen BK959.out 9
         go_wp2_with (first | (go_at_call 84;(with_reducible refine (reeveref04_in.calls a0_4 1 1048576 false _ A31.out).mono ?_);rintro e w' ⟨rfl,⟨nd,rfl⟩⟩))
         go_ret
         exact ⟨by first | rfl | (simp [errW_none,errW_some] <;> rfl) | (simp [*,errW_none,errW_some] <;> rfl),by repeat (first | (with_reducible first | exact HB.out | apply below_alloc | apply pw_below_drewN | apply below_drew1 | refine below_set ?_ GE959.out) | exact HB.out)⟩
        ·replace c54:=Bool.eq_false_iff.mpr c54
         subst c54
         have H1 : (some 40) = some r:=by rw [if_neg (show ¬ (false = true) by decide)] at H;exact H
         clear H
         have H:=H1
         clear H1
         obtain rfl:=Option.some.inj H
         have hcz56_0 : wc.cell? ⟨gb959,0,none⟩ = some (.int .i64 a0_0):=(blk_cell BK959.out 0).trans rfl
         have hcz56_1 : wc.cell? ⟨gb959,1,none⟩ = some (.int .i64 a0_1):=(blk_cell BK959.out 1).trans rfl
         have hcz56_2 : wc.cell? ⟨gb959,2,none⟩ = some (.int .i64 a0_2):=(blk_cell BK959.out 2).trans rfl
         have hcz56_3 : wc.cell? ⟨gb959,3,none⟩ = some (.int .i64 a0_3):=(blk_cell BK959.out 3).trans rfl
         have hcz56_4 : wc.cell? ⟨gb959,4,none⟩ = some (.int .i64 a0_4):=(blk_cell BK959.out 4).trans rfl
         have hcz56_5 : wc.cell? ⟨gb959,5,none⟩ = some (.int .i64 a0_5):=(blk_cell BK959.out 5).trans rfl
         have hcz56_6 : wc.cell? ⟨gb959,6,none⟩ = some (.int .i64 a0_6):=(blk_cell BK959.out 6).trans rfl
         have hcz56_7 : wc.cell? ⟨gb959,7,none⟩ = some (.int .i64 a0_7):=(blk_cell BK959.out 7).trans rfl
         have hcz56_8 : wc.cell? ⟨gb959,8,none⟩ = some (.int .i64 a0_8):=(blk_cell BK959.out 8).trans rfl
         have hcz56_9 : wc.cell? ⟨gb959,9,none⟩ = some (.int .i64 a0_9):=(blk_cell BK959.out 9).trans rfl
         have hfz56_0:=blk_frozen BK959.out 0
         have hfz56_1:=blk_frozen BK959.out 1
         have hfz56_2:=blk_frozen BK959.out 2
         have hfz56_3:=blk_frozen BK959.out 3
         have hfz56_4:=blk_frozen BK959.out 4
         have hfz56_5:=blk_frozen BK959.out 5
         have hfz56_6:=blk_frozen BK959.out 6
         have hfz56_7:=blk_frozen BK959.out 7
         have hfz56_8:=blk_frozen BK959.out 8
         have hfz56_9:=blk_frozen BK959.out 9
         go_wp2_with (first | (go_at_call 84;(with_reducible refine (reeveref04_in.calls a0_4 1 1048576 false _ A31.out).mono ?_);rintro e w' ⟨rfl,⟨nd,rfl⟩⟩))
         go_ret
         exact ⟨by first | rfl | (simp [errW_none,errW_some] <;> rfl) | (simp [*,errW_none,errW_some] <;> rfl),by repeat (first | (with_reducible first | exact HB.out | apply below_alloc | apply pw_below_drewN | apply below_drew1 | refine below_set ?_ GE959.out) | exact HB.out)⟩
       ·replace c53:=Bool.eq_false_iff.mpr c53
        subst c53
        have H1 : (some 40) = some r:=by rw [if_neg (show ¬ (false = true) by decide)] at H;exact H
        clear H
        have H:=H1
        clear H1
        obtain rfl:=Option.some.inj H
        have hcz57_0 : wc.cell? ⟨gb959,0,none⟩ = some (.int .i64 a0_0):=(blk_cell BK959.out 0).trans rfl
        have hcz57_1 : wc.cell? ⟨gb959,1,none⟩ = some (.int .i64 a0_1):=(blk_cell BK959.out 1).trans rfl
        have hcz57_2 : wc.cell? ⟨gb959,2,none⟩ = some (.int .i64 a0_2):=(blk_cell BK959.out 2).trans rfl
        have hcz57_3 : wc.cell? ⟨gb959,3,none⟩ = some (.int .i64 a0_3):=(blk_cell BK959.out 3).trans rfl
        have hcz57_4 : wc.cell? ⟨gb959,4,none⟩ = some (.int .i64 a0_4):=(blk_cell BK959.out 4).trans rfl
        have hcz57_5 : wc.cell? ⟨gb959,5,none⟩ = some (.int .i64 a0_5):=(blk_cell BK959.out 5).trans rfl
        have hcz57_6 : wc.cell? ⟨gb959,6,none⟩ = some (.int .i64 a0_6):=(blk_cell BK959.out 6).trans rfl
        have hcz57_7 : wc.cell? ⟨gb959,7,none⟩ = some (.int .i64 a0_7):=(blk_cell BK959.out 7).trans rfl
        have hcz57_8 : wc.cell? ⟨gb959,8,none⟩ = some (.int .i64 a0_8):=(blk_cell BK959.out 8).trans rfl
        have hcz57_9 : wc.cell? ⟨gb959,9,none⟩ = some (.int .i64 a0_9):=(blk_cell BK959.out 9).trans rfl
        have hfz57_0:=blk_frozen BK959.out 0
        have hfz57_1:=blk_frozen BK959.out 1
        have hfz57_2:=blk_frozen BK959.out 2
        have hfz57_3:=blk_frozen BK959.out 3
        have hfz57_4:=blk_frozen BK959.out 4
        have hfz57_5:=blk_frozen BK959.out 5
        have hfz57_6:=blk_frozen BK959.out 6
        have hfz57_7:=blk_frozen BK959.out 7
        have hfz57_8:=blk_frozen BK959.out 8
        have hfz57_9:=blk_frozen BK959.out 9
        go_wp2_with (first | (go_at_call 84;(with_reducible refine (reeveref04_in.calls a0_4 1 1048576 false _ A31.out).mono ?_);rintro e w' ⟨rfl,⟨nd,rfl⟩⟩))
        go_ret
        exact ⟨by first | rfl | (simp [errW_none,errW_some] <;> rfl) | (simp [*,errW_none,errW_some] <;> rfl),by repeat (first | (with_reducible first | exact HB.out | apply below_alloc | apply pw_below_drewN | apply below_drew1 | refine below_set ?_ GE959.out) | exact HB.out)⟩
     ·rw [if_neg c30] at H
      have c30b0 : (a0_0 == 2) = false:=beq_eq_false_iff_ne.mpr c30
      have c30b1 : (a0_0 != 2) = true:=bne_iff_ne.mpr c30
      by_cases c58 : x3_1 = true
      ·subst c58
       have H1 : (if x4_17 = true then (some 0) else (some 40)) = some r:=by rw [if_pos rfl] at H;exact H
       clear H
       have H:=H1
       clear H1
       by_cases c59 : x4_17 = true
       ·subst c59
        have H1 : (some 0) = some r:=by rw [if_pos rfl] at H;exact H
        clear H
        have H:=H1
        clear H1
        obtain rfl:=Option.some.inj H
        have hcz60_0 : wc.cell? ⟨gb959,0,none⟩ = some (.int .i64 a0_0):=(blk_cell BK959.out 0).trans rfl
        have hcz60_1 : wc.cell? ⟨gb959,1,none⟩ = some (.int .i64 a0_1):=(blk_cell BK959.out 1).trans rfl
        have hcz60_2 : wc.cell? ⟨gb959,2,none⟩ = some (.int .i64 a0_2):=(blk_cell BK959.out 2).trans rfl
        have hcz60_3 : wc.cell? ⟨gb959,3,none⟩ = some (.int .i64 a0_3):=(blk_cell BK959.out 3).trans rfl
        have hcz60_4 : wc.cell? ⟨gb959,4,none⟩ = some (.int .i64 a0_4):=(blk_cell BK959.out 4).trans rfl
        have hcz60_5 : wc.cell? ⟨gb959,5,none⟩ = some (.int .i64 a0_5):=(blk_cell BK959.out 5).trans rfl
        have hcz60_6 : wc.cell? ⟨gb959,6,none⟩ = some (.int .i64 a0_6):=(blk_cell BK959.out 6).trans rfl
        have hcz60_7 : wc.cell? ⟨gb959,7,none⟩ = some (.int .i64 a0_7):=(blk_cell BK959.out 7).trans rfl
        have hcz60_8 : wc.cell? ⟨gb959,8,none⟩ = some (.int .i64 a0_8):=(blk_cell BK959.out 8).trans rfl
        have hcz60_9 : wc.cell? ⟨gb959,9,none⟩ = some (.int .i64 a0_9):=(blk_cell BK959.out 9).trans rfl
        have hfz60_0:=blk_frozen BK959.out 0
        have hfz60_1:=blk_frozen BK959.out 1
        have hfz60_2:=blk_frozen BK959.out 2
        have hfz60_3:=blk_frozen BK959.out 3
        have hfz60_4:=blk_frozen BK959.out 4
        have hfz60_5:=blk_frozen BK959.out 5
        have hfz60_6:=blk_frozen BK959.out 6
        have hfz60_7:=blk_frozen BK959.out 7
        have hfz60_8:=blk_frozen BK959.out 8
        have hfz60_9:=blk_frozen BK959.out 9
        go_wp2
        go_ret
        exact ⟨by first | rfl | (simp [errW_none,errW_some] <;> rfl) | (simp [*,errW_none,errW_some] <;> rfl),by repeat (first | (with_reducible first | exact HB.out | apply below_alloc | apply pw_below_drewN | apply below_drew1 | refine below_set ?_ GE959.out) | exact HB.out)⟩
       ·replace c59:=Bool.eq_false_iff.mpr c59
        subst c59
        have H1 : (some 40) = some r:=by rw [if_neg (show ¬ (false = true) by decide)] at H;exact H
        clear H
        have H:=H1
        clear H1
        obtain rfl:=Option.some.inj H
        have hcz61_0 : wc.cell? ⟨gb959,0,none⟩ = some (.int .i64 a0_0):=(blk_cell BK959.out 0).trans rfl
        have hcz61_1 : wc.cell? ⟨gb959,1,none⟩ = some (.int .i64 a0_1):=(blk_cell BK959.out 1).trans rfl
        have hcz61_2 : wc.cell? ⟨gb959,2,none⟩ = some (.int .i64 a0_2):=(blk_cell BK959.out 2).trans rfl
        have hcz61_3 : wc.cell? ⟨gb959,3,none⟩ = some (.int .i64 a0_3):=(blk_cell BK959.out 3).trans rfl
        have hcz61_4 : wc.cell? ⟨gb959,4,none⟩ = some (.int .i64 a0_4):=(blk_cell BK959.out 4).trans rfl
        have hcz61_5 : wc.cell? ⟨gb959,5,none⟩ = some (.int .i64 a0_5):=(blk_cell BK959.out 5).trans rfl
        have hcz61_6 : wc.cell? ⟨gb959,6,none⟩ = some (.int .i64 a0_6):=(blk_cell BK959.out 6).trans rfl
        have hcz61_7 : wc.cell? ⟨gb959,7,none⟩ = some (.int .i64 a0_7):=(blk_cell BK959.out 7).trans rfl
        have hcz61_8 : wc.cell? ⟨gb959,8,none⟩ = some (.int .i64 a0_8):=(blk_cell BK959.out 8).trans rfl
        have hcz61_9 : wc.cell? ⟨gb959,9,none⟩ = some (.int .i64 a0_9):=(blk_cell BK959.out 9).trans rfl
        have hfz61_0:=blk_frozen BK959.out 0
        have hfz61_1:=blk_frozen BK959.out 1
        have hfz61_2:=blk_frozen BK959.out 2
        have hfz61_3:=blk_frozen BK959.out 3
        have hfz61_4:=blk_frozen BK959.out 4
        have hfz61_5:=blk_frozen BK959.out 5
        have hfz61_6:=blk_frozen BK959.out 6
        have hfz61_7:=blk_frozen BK959.out 7
        have hfz61_8:=blk_frozen BK959.out 8
        have hfz61_9:=blk_frozen BK959.out 9
        go_wp2
        go_ret
        exact ⟨by first | rfl | (simp [errW_none,errW_some] <;> rfl) | (simp [*,errW_none,errW_some] <;> rfl),by repeat (first | (with_reducible first | exact HB.out | apply below_alloc | apply pw_below_drewN | apply below_drew1 | refine below_set ?_ GE959.out) | exact HB.out)⟩
      ·replace c58:=Bool.eq_false_iff.mpr c58
       subst c58
       have H1 : (some 40) = some r:=by rw [if_neg (show ¬ (false = true) by decide)] at H;exact H
       clear H
       have H:=H1
       clear H1
       obtain rfl:=Option.some.inj H
       have hcz62_0 : wc.cell? ⟨gb959,0,none⟩ = some (.int .i64 a0_0):=(blk_cell BK959.out 0).trans rfl
       have hcz62_1 : wc.cell? ⟨gb959,1,none⟩ = some (.int .i64 a0_1):=(blk_cell BK959.out 1).trans rfl
       have hcz62_2 : wc.cell? ⟨gb959,2,none⟩ = some (.int .i64 a0_2):=(blk_cell BK959.out 2).trans rfl
       have hcz62_3 : wc.cell? ⟨gb959,3,none⟩ = some (.int .i64 a0_3):=(blk_cell BK959.out 3).trans rfl
       have hcz62_4 : wc.cell? ⟨gb959,4,none⟩ = some (.int .i64 a0_4):=(blk_cell BK959.out 4).trans rfl
       have hcz62_5 : wc.cell? ⟨gb959,5,none⟩ = some (.int .i64 a0_5):=(blk_cell BK959.out 5).trans rfl
       have hcz62_6 : wc.cell? ⟨gb959,6,none⟩ = some (.int .i64 a0_6):=(blk_cell BK959.out 6).trans rfl
       have hcz62_7 : wc.cell? ⟨gb959,7,none⟩ = some (.int .i64 a0_7):=(blk_cell BK959.out 7).trans rfl
       have hcz62_8 : wc.cell? ⟨gb959,8,none⟩ = some (.int .i64 a0_8):=(blk_cell BK959.out 8).trans rfl
       have hcz62_9 : wc.cell? ⟨gb959,9,none⟩ = some (.int .i64 a0_9):=(blk_cell BK959.out 9).trans rfl
       have hfz62_0:=blk_frozen BK959.out 0
       have hfz62_1:=blk_frozen BK959.out 1
       have hfz62_2:=blk_frozen BK959.out 2
       have hfz62_3:=blk_frozen BK959.out 3
       have hfz62_4:=blk_frozen BK959.out 4
       have hfz62_5:=blk_frozen BK959.out 5
       have hfz62_6:=blk_frozen BK959.out 6
       have hfz62_7:=blk_frozen BK959.out 7
       have hfz62_8:=blk_frozen BK959.out 8
       have hfz62_9:=blk_frozen BK959.out 9
       go_wp2
       go_ret
       exact ⟨by first | rfl | (simp [errW_none,errW_some] <;> rfl) | (simp [*,errW_none,errW_some] <;> rfl),by repeat (first | (with_reducible first | exact HB.out | apply below_alloc | apply pw_below_drewN | apply below_drew1 | refine below_set ?_ GE959.out) | exact HB.out)⟩
end Go.Proofs.Ytbiijcehgiibeaa.Q

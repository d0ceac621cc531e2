/- A text that a program of this session wrote (wip/qprint.py, over the kit's printer): Lean functions with the same answers as Go functions of the program, and proofs that the calls come to these answers; where a function is named in wip/ext, its definition and proof were written by hand. -/
import Derived.Test.YtbiijcehgiibeaaKCTellsJFloat
import Derived.Test.YtbiijcehgiibeaaKCTellsQg7
namespace Go.Proofs.Ytbiijcehgiibeaa.Q
open Go.RowKit Go.Proofs.YtbiijcehgiibeaaW.PrintWords Go.Proofs.YtbiijcehgiibeaaW.PrintLast Go.Proofs.YtbiijcehgiibeaaW.PrintMore
attribute [local go_sem] max2_int min2_int max_two min_two max_three min_three max_four min_four   -- for this text's walks alone
set_option linter.unusedVariables false
set_option linter.unusedSimpArgs false
def reevelaw03_links.l0 : Nat → List (List Int) → List (S60) → Int → Int → Int → Int → Int → Option ((List (S60)) × Bool)
  | 0, _, _, _, _, _, _, _ => none
  | k + 1, x0, x4, x6, x736000, x736001, x736002, x736003 => if x6 < (x0.length : Int) then (if 0 ≤ x6 then ((chain_Next.f x736000 x736001 x736002 x736003 (rd_L2 x0 x6)).bind fun bt737 => (if bt737.2.2.2.2 = 0 then (if x4.length < 4398046511104 then (reevelaw03_links.l0 k x0 (x4 ++ [(⟨bt737.1, bt737.2.1, (⟨bt737.2.2.1, bt737.2.2.2.1⟩ : S23)⟩ : S60)]) (wrap64 (x6 + 1)) bt737.1 bt737.2.1 bt737.2.2.1 bt737.2.2.2.1) else (none)) else (some (([] : List (S60)), false)))) else (none)) else (some (x4, true))
def reevelaw03_links.f (k : Nat) (l0 : List (List Int)) : Option ((List (S60)) × Bool) := (chain_First.f).bind fun bt731 => (reevelaw03_links.l0 k l0 ([] : List (S60)) 0 bt731.1 bt731.2.1 bt731.2.2.1 bt731.2.2.2)
def reevelaw03_links.T6 : Bool × List (List Nat × List Nat) := (true, [([], []), ([], []), ([], []), ([1, 2], [1, 2]), ([3], [3]), ([0, 4], [0, 4]), ([5], [5]), ([6], [6]), ([6], [6]), ([], []), ([9, 7, 5, 0, 1, 2, 3, 4, 5, 6, 7, 9], [7, 9]), ([8, 10, 0, 1, 2, 3, 4, 5, 6, 7, 8, 9, 10], [8])])
def reevelaw03_links.B6 : List Nat := [0, 0, 0, 6, 14, 31, 63, 127, 127, 0, 767, 2047]
theorem reevelaw03_links.tab6 : rtab .any (opsOf Try.f55 6) = reevelaw03_links.T6 := by kernel_rfl
theorem reevelaw03_links.bits6 : waitsOk reevelaw03_links.T6.2 reevelaw03_links.B6 = true := by kernel_rfl
set_option maxHeartbeats 8000000 in
set_option maxRecDepth 100000 in
theorem reevelaw03_links.calls (k : Nat) (A0 : Option Addr) (c0 : Nat) (l0 : List (List Int)) (r1 : List (S60)) (r2 : Bool) (w : World) (hr0 : Kd.C (Kd.slice 5 (Kd.int .u8)) w A0 l0.length l0) (hc0 : l0.length ≤ c0) (h : reevelaw03_links.f k l0 = some (r1, r2)) :
    Calls Try.prog 55 #[.slice A0 l0.length c0] w fun e w' => ∃ v0_ : Value, e = .returned (.tuple #[v0_, .bool r2]) ∧ Kd.R k60 60 w' w.heap.size (fun _ => True) v0_ r1 ∧ Below w.heap.size w w' := by
  have hu60 := Try.underlying60
  have HR0 := Aside0.mk hr0
  have HC0 := Aside0.mk hc0
  clear hr0 hc0
  have HB := Aside0.mk (Below.refl w.heap.size w)
  have H : ((chain_First.f).bind fun bt731 => (reevelaw03_links.l0 k l0 ([] : List (S60)) 0 bt731.1 bt731.2.1 bt731.2.2.1 bt731.2.2.2)) = some (r1, r2) := h
  clear h
  replace H := Option.bind_eq_some_iff.mp H
  obtain ⟨⟨t731, t732, t733, t734⟩, A20, H⟩ := H
  replace H : (reevelaw03_links.l0 k l0 ([] : List (S60)) 0 t731 t732 t733 t734) = some (r1, r2) := H
  have A2 := Aside0.mk A20
  clear A20
  have H' := Aside0.mk H
  clear H
  go_enter Try.func55, Try.ntmps55
  go_wp2_with (first | ((with_reducible refine gate_callee (f := 53) rfl ?_); refine goesL_ (some 9) rfl rfl Try.func53 (by kernel_rfl) rfl #[] rfl (by (try simp only [List.map_toArray, List.map_cons, List.map_nil]); first | done | rfl | (simp only [List.length_drop, List.length_take]; rfl)) ?_; (with_reducible refine (chain_First.calls  t731 t732 t733 t734 _ A2.out).mono ?_); rintro e w3 ⟨rfl, hb⟩; refine ⟨_, rfl, ?_⟩; have n0_ := Aside0.mk (below_step (by repeat (first | (with_reducible first | exact HB.out | apply below_alloc | apply pw_below_drewN | apply below_drew1) | exact HB.out)) hb); clear HB; have HB := n0_; clear n0_; (try clear hb); (try clear hb2); (try clear hk); (try clear hi)) | ((with_reducible refine gate_dst (N := 5) rfl ?_); refine box_event ?hg (N := 5) ?hd (cs := #[.int .i64 0, .int .i64 0, .int .i64 0, .int .i64 0]) (t := 60) ?hr ?_; (case hd => rfl); (case hg => rfl); (case hr => first | (go_simp; done) | (go_simp; rfl)); intro gb735 hg w4 hbox hb; have n0_ := Aside0.mk (below_step (by repeat (first | (with_reducible first | exact HB.out | apply below_alloc | apply pw_below_drewN | apply below_drew1) | exact HB.out)) hb); have n1_ := Aside0.mk (hbox); have n2_ := Aside0.mk ((by rw [hg]; exact (below_size (by repeat (first | (with_reducible first | exact HB.out | apply below_alloc | apply pw_below_drewN | apply below_drew1) | exact HB.out))) : w.heap.size ≤ gb735)); have n3_ := Aside0.mk ((by rw [hg]; exact (below_size (by repeat (first | (with_reducible first | exact HB.out | apply below_alloc | apply pw_below_drewN | apply below_drew1) | exact HB.out))) : w.heap.size ≤ gb735)); clear HB; have HB := n0_; have BK735 := n1_; have GW735 := n2_; have GE735 := n3_; clear n0_ n1_ n2_ n3_; clear hb hbox hg; have hcz5_0 : w4.cell? ⟨gb735, 0, none⟩ = some (.int .i64 0) := (blk_cell BK735.out 0).trans rfl; have hcz5_1 : w4.cell? ⟨gb735, 1, none⟩ = some (.int .i64 0) := (blk_cell BK735.out 1).trans rfl; have hcz5_2 : w4.cell? ⟨gb735, 2, none⟩ = some (.int .i64 0) := (blk_cell BK735.out 2).trans rfl; have hcz5_3 : w4.cell? ⟨gb735, 3, none⟩ = some (.int .i64 0) := (blk_cell BK735.out 3).trans rfl; have hfz5_0 := blk_frozen BK735.out 0; have hfz5_1 := blk_frozen BK735.out 1; have hfz5_2 := blk_frozen BK735.out 2; have hfz5_3 := blk_frozen BK735.out 3))
  go_loopg [4, 6] k (fun kq v4 v6 w' => ∃ (x4_1 : List (S60)) (x6_1 : Int) (x736000_1 : Int) (x736001_1 : Int) (x736002_1 : Int) (x736003_1 : Int), v6 = .int .i64 x6_1 ∧ Aside0 (reevelaw03_links.l0 kq l0 x4_1 x6_1 x736000_1 x736001_1 x736002_1 x736003_1 = some (r1, r2)) ∧ Aside0 (kq ≤ k) ∧ Aside0 (Kd.R k60 60 w' w.heap.size (fun k_ => k_ ≠ gb735) v4 x4_1) ∧ Aside0 (w'.heap[gb735]? = some (.cells #[.int .i64 x736000_1, .int .i64 x736001_1, .int .i64 x736002_1, .int .i64 x736003_1] 60 (0, 0))) ∧ Aside0 (Below w.heap.size w w'))
  case atStart => exact ⟨(([] : List (S60))), (0), (t731), (t732), (t733), (t734), (by first | rfl | (simp; done) | (simp [*]; done)), H', ⟨Nat.le_refl _⟩, ⟨by first | exact Kd.R_nil _ _ _ _ _ | exact Kd.N_nil _ _ _ _ _ | exact Kd.V_nil _ _ _ _ _ | exact Kd.Q_nil _ _ _ _ _ | exact Kd.S_nil _ _ _ _ _⟩, ⟨by (with_reducible repeat (first | refine blk_drewN ?_ _ | refine blk_drew ?_ | refine blk_alloc ?_ _)); refine blk_put (cs := #[.int .i64 t731, .int .i64 t732, .int .i64 t733, .int .i64 0]) ?_ 3 _ rfl; (with_reducible repeat (first | refine blk_drewN ?_ _ | refine blk_drew ?_ | refine blk_alloc ?_ _)); refine blk_put (cs := #[.int .i64 t731, .int .i64 t732, .int .i64 0, .int .i64 0]) ?_ 2 _ rfl; (with_reducible repeat (first | refine blk_drewN ?_ _ | refine blk_drew ?_ | refine blk_alloc ?_ _)); refine blk_put (cs := #[.int .i64 t731, .int .i64 0, .int .i64 0, .int .i64 0]) ?_ 1 _ rfl; (with_reducible repeat (first | refine blk_drewN ?_ _ | refine blk_drew ?_ | refine blk_alloc ?_ _)); refine blk_put (cs := #[.int .i64 0, .int .i64 0, .int .i64 0, .int .i64 0]) ?_ 0 _ rfl; (with_reducible repeat (first | refine blk_drewN ?_ _ | refine blk_drew ?_ | refine blk_alloc ?_ _)); exact BK735.out⟩, ⟨by repeat (first | (with_reducible first | exact HB.out | apply below_alloc | apply pw_below_drewN | apply below_drew1 | refine below_set ?_ GE735.out) | exact HB.out)⟩⟩
  case round =>
    clear H'
    try clear p2
    try clear c5
    try clear hcz5_0
    try clear hcz5_1
    try clear hcz5_2
    try clear hcz5_3
    try clear hfz5_0
    try clear hfz5_1
    try clear hfz5_2
    try clear hfz5_3
    obtain ⟨x4_1, x6_1, x736000_1, x736001_1, x736002_1, x736003_1, rfl, HA, HK1, HO_4, BK735, HB⟩ := hrel
    cases gk with
    | zero => exact absurd HA.out (by simp [reevelaw03_links.l0])
    | succ k1 =>
      have H := HA.out
      clear HA
      simp only [reevelaw03_links.l0] at H
      by_cases c6 : x6_1 < (l0.length : Int)
      · rw [if_pos c6] at H
        have c6b0 : decide (x6_1 < (l0.length : Int)) = true := decide_eq_true c6
        clear c6
        by_cases c7 : 0 ≤ x6_1
        · rw [if_pos c7] at H
          have c7b0 : decide (0 ≤ x6_1) = true := decide_eq_true c7
          clear c7
          replace H := Option.bind_eq_some_iff.mp H
          obtain ⟨⟨t737, t738, t739, t740, t741⟩, A80, H⟩ := H
          replace H : (if t741 = 0 then (if x4_1.length < 4398046511104 then (reevelaw03_links.l0 k1 l0 (x4_1 ++ [(⟨t737, t738, (⟨t739, t740⟩ : S23)⟩ : S60)]) (wrap64 (x6_1 + 1)) t737 t738 t739 t740) else (none)) else (some (([] : List (S60)), false))) = some (r1, r2) := H
          have A8 := Aside0.mk A80
          clear A80
          by_cases c9 : t741 = 0
          · rw [if_pos c9] at H
            have c9b0 : (t741 == 0) = true := beq_iff_eq.mpr c9
            have c9b1 : (t741 != 0) = false := bne_eq_false_iff_eq.mpr c9
            clear c9
            by_cases c10 : x4_1.length < 4398046511104
            · rw [if_pos c10] at H
              have LMc10 := Aside0.mk c10
              clear c10
              obtain ⟨y743, hy743⟩ : ∃ y_ : List (S60), y_ = (x4_1 ++ [(⟨t737, t738, (⟨t739, t740⟩ : S23)⟩ : S60)]) := ⟨_, rfl⟩
              replace H : (reevelaw03_links.l0 k1 l0 y743 (wrap64 (x6_1 + 1)) t737 t738 t739 t740) = some (r1, r2) := by first | (rw [hy743]; with_reducible exact H) | (have H2_ := (Option.bind_some _ _).symm.trans H; rw [hy743]; with_reducible exact H2_) | (have H2_ := (Option.bind_some _ _).symm.trans H; with_reducible exact H2_) | with_reducible exact H | (rw [hy743]; exact H) | exact H
              have Ny743 := Aside0.mk hy743
              clear hy743
              have H' := Aside0.mk H
              clear H
              try go_wp2
              have n0_ := Aside0.mk (Kd.R_drew HO_4.out)
              have n1_ := Aside0.mk (blk_drew BK735.out)
              have n2_ := Aside0.mk (below_drew1 HB.out)
              clear HO_4
              clear BK735
              clear HB
              have HO_4 := n0_
              have BK735 := n1_
              have HB := n2_
              clear n0_ n1_ n2_
              have p736 : 0 ≤ (x6_1 : Int) := of_decide_eq_true (by first | (with_reducible assumption) | assumption)
              have q736 : x6_1 < (l0.length : Int) := of_decide_eq_true (by first | (with_reducible assumption) | assumption)
              obtain ⟨ad736, A736_0, c736_0, e736, hx736_0, hl736_0, hi736_0⟩ := at_L2 HR0.out x6_1 p736 q736
              have hw736_0 := hx736_0
              cases e736
              replace hx736_0 := (HB.out.cell (World.block_lt_of_cell? w _ hx736_0)).trans hx736_0
              have HR736_0 := Aside0.mk hi736_0
              have HC736_0 := Aside0.mk hl736_0
              clear hi736_0 hl736_0
              replace p736 := eq_true p736
              replace q736 := eq_true q736
              refine start_ (n := 12) (S := fun w' => w'.cell? ⟨gb735, 0, none⟩ = some (.int .i64 x736000_1) ∧ w'.cell? ⟨gb735, 1, none⟩ = some (.int .i64 x736001_1) ∧ w'.cell? ⟨gb735, 2, none⟩ = some (.int .i64 x736002_1) ∧ w'.cell? ⟨gb735, 3, none⟩ = some (.int .i64 x736003_1) ∧ w'.cell? (ad736.add (x6_1).toNat) = some (.slice A736_0 (rd_L2 l0 x6_1).length c736_0)) (ds := []) #[false, false, false, false, false, false, false, false, false, false, false, false] (by kernel_rfl) rfl rfl ⟨(blk_cell BK735.out 0).trans rfl, (blk_cell BK735.out 1).trans rfl, (blk_cell BK735.out 2).trans rfl, (blk_cell BK735.out 3).trans rfl, ((HB.out.cell (World.block_lt_of_cell? w _ hw736_0)).trans hw736_0)⟩ (fun hHeld => ?_); refine with_tabW reevelaw03_links.tab6 reevelaw03_links.bits6 (fun HT_ HW_ => ?_)
              generalize wr.drew = w11 at HO_4 BK735 HB HR736_0 hx736_0 hHeld ⊢
              refine pure_ (i := 1) (N := some 18) (v := ?_) (a' := ?_) #[false, true, false, false, false, false, false, false, false, false, false, false] rfl rfl (any_of HT_.out (by kernel_rfl)) (fun _ _ _ h => h) (Or.inl ⟨by rfl, ?_⟩) ?_ ?_
              rotate_left
              · intro w'
                go_simp
                with_reducible rfl
              rotate_left
              · simp only [Act.put, List.setIfInBounds_toArray, List.set_cons_zero, List.set_cons_succ, i64_w, i32_w]
                rfl
              refine pure_ (i := 2) (N := some 19) (v := ?_) (a' := ?_) #[false, true, true, false, false, false, false, false, false, false, false, false] rfl rfl (any_of HT_.out (by kernel_rfl)) (fun _ _ _ h => h) (Or.inl ⟨by rfl, ?_⟩) ?_ ?_
              rotate_left
              · intro w'
                go_simp
                with_reducible rfl
              rotate_left
              · simp only [Act.put, List.setIfInBounds_toArray, List.set_cons_zero, List.set_cons_succ, i64_w, i32_w]
                rfl
              refine pure_ (i := 3) (N := some 20) (v := ?_) (a' := ?_) #[false, true, true, true, false, false, false, false, false, false, false, false] rfl rfl (any_of HT_.out (by kernel_rfl)) (fun _ _ _ h => h) (Or.inl ⟨by rfl, ?_⟩) ?_ ?_
              rotate_left
              · intro w'
                go_simp
                with_reducible rfl
              rotate_left
              · simp only [Act.put, List.setIfInBounds_toArray, List.set_cons_zero, List.set_cons_succ, i64_w, i32_w]
                rfl
              refine take_ (i := 0) (N := some 17) (v := ?_) (a' := ?_) #[true, true, true, true, false, false, false, false, false, false, false, false] rfl rfl (take_ofW HT_.out HW_.out (by kernel_rfl)) (fun _ _ _ h => h) (Or.inl ⟨by rfl, ?_⟩) hHeld ?_ ?_
              rotate_left
              · rintro w' ⟨s0, s1, s2, s3, s4⟩
                go_simp
                with_reducible rfl
              rotate_left
              · simp only [Act.put, List.setIfInBounds_toArray, List.set_cons_zero, List.set_cons_succ, i64_w, i32_w]
                rfl
              refine take_ (i := 4) (N := some 21) (v := ?_) (a' := ?_) #[true, true, true, true, true, false, false, false, false, false, false, false] rfl rfl (take_ofW HT_.out HW_.out (by kernel_rfl)) (fun _ _ _ h => h) (Or.inl ⟨by rfl, ?_⟩) hHeld ?_ ?_
              rotate_left
              · rintro w' ⟨s0, s1, s2, s3, s4⟩
                go_simp
                with_reducible rfl
              rotate_left
              · simp only [Act.put, List.setIfInBounds_toArray, List.set_cons_zero, List.set_cons_succ, i64_w, i32_w]
                rfl
              refine join_ (σ := Nat) 2 #[true, true, true, true, true, true, true, true, true, true, false, false] (fun s_ => [(22, .tuple #[.agg #[.int .i64 t737, .int .i64 t738, .int .i64 t739, .int .i64 t740], .int .i64 t741]), (7, .pointer (some ⟨s_, 0, none⟩)), (16, .tuple #[.agg #[.int .i64 t737, .int .i64 t738, .int .i64 t739, .int .i64 t740], .int .i64 t741]), (23, .agg #[.int .i64 t737, .int .i64 t738, .int .i64 t739, .int .i64 t740]), (24, .int .i64 t741)]) (fun s_ w' => (w'.cell? ⟨gb735, 0, none⟩ = some (.int .i64 x736000_1) ∧ w'.cell? ⟨gb735, 1, none⟩ = some (.int .i64 x736001_1) ∧ w'.cell? ⟨gb735, 2, none⟩ = some (.int .i64 x736002_1) ∧ w'.cell? ⟨gb735, 3, none⟩ = some (.int .i64 x736003_1) ∧ w'.cell? (ad736.add (x6_1).toNat) = some (.slice A736_0 (rd_L2 l0 x6_1).length c736_0)) ∧ (Kd.R k60 60 w' w.heap.size (fun k_ => k_ ≠ gb735 ∧ k_ ≠ s_) u4 x4_1) ∧ (w'.heap[gb735]? = some (.cells #[.int .i64 x736000_1, .int .i64 x736001_1, .int .i64 x736002_1, .int .i64 x736003_1] 60 (0, 0))) ∧ (w'.heap[s_]? = some (.cells #[.int .i64 0, .int .i64 0, .int .i64 0, .int .i64 0] 60 (0, 0))) ∧ (w.heap.size ≤ s_) ∧ (w.heap.size ≤ s_) ∧ (gb735 ≠ s_) ∧ (s_ ≠ gb735) ∧ (Below w.heap.size w w')) ?_ ?_
              rotate_left
              · intro hCont
                refine two_ (i := 5) (j := 9) (Ni := some 22) (Nj := some 7) #[true, true, true, true, true, true, false, false, false, false, false, false] #[true, true, true, true, true, false, false, false, false, true, false, false] rfl rfl rfl rfl (two_of HT_.out (by kernel_rfl)) (by decide) (by decide) (fun K hK => ?_) (fun K hK => ?_)
                · skip
                  refine goes_ Try.func52 (by kernel_rfl) rfl #[.agg #[.int .i64 x736000_1, .int .i64 x736001_1, .int .i64 x736002_1, .int .i64 x736003_1], .slice A736_0 (rd_L2 l0 x6_1).length c736_0] (by rfl) rfl rfl (by (try simp only [List.map_toArray, List.map_cons, List.map_nil]); first | done | rfl | (simp only [List.length_drop, List.length_take]; rfl)) ?_
                  with_reducible refine (chain_Next.calls x736000_1 x736001_1 x736002_1 x736003_1 _ _ (rd_L2 l0 x6_1) t737 t738 t739 t740 t741 _ ?side1 ?side2 A8.out).mono ?_
                  (case side1 => repeat (first | exact (Kd.C_below HR736_0.out HB.out) | (with_reducible refine Kd.C_alloc ?_ _) | (with_reducible refine Kd.C_drewN ?_ _) | (with_reducible refine Kd.C_drew ?_)))
                  (case side2 => exact HC736_0.out)
                  rintro e w12 ⟨rfl, hb⟩
                  refine ⟨_, rfl, ?_⟩
                  have n0_ := Aside0.mk (Kd.R_below (by (with_reducible repeat (first | apply Kd.R_alloc | apply Kd.R_drewN | apply Kd.R_drew)); exact HO_4.out) hb)
                  have n1_ := Aside0.mk (blk_below (g := gb735) (o := .cells #[.int .i64 x736000_1, .int .i64 x736001_1, .int .i64 x736002_1, .int .i64 x736003_1] 60 (0, 0)) (by (with_reducible repeat (first | refine blk_drewN ?_ _ | refine blk_drew ?_ | refine blk_alloc ?_ _)); exact BK735.out) hb)
                  have n2_ := Aside0.mk (below_step (by repeat (first | (with_reducible first | exact HB.out | apply below_alloc | apply pw_below_drewN | apply below_drew1 | refine below_set ?_ GE735.out) | exact HB.out)) hb)
                  clear HO_4
                  clear BK735
                  clear HB
                  have HO_4 := n0_
                  have BK735 := n1_
                  have HB := n2_
                  clear n0_ n1_ n2_
                  (try clear hb)
                  (try clear hb2)
                  (try clear hk)
                  (try clear hi)
                  refine hK.out _ _ ⟨(blk_cell BK735.out 0).trans rfl, (blk_cell BK735.out 1).trans rfl, (blk_cell BK735.out 2).trans rfl, (blk_cell BK735.out 3).trans rfl, ((HB.out.cell (World.block_lt_of_cell? w _ hw736_0)).trans hw736_0)⟩ (fun hHeld => ?_)
                  clear hK K
                  refine norm_ (a' := ?_) ?_ ?_
                  rotate_left
                  · show Act.put _ (some 22) _ = _
                    simp only [Act.put, List.setIfInBounds_toArray, List.set_cons_zero, List.set_cons_succ, i64_w, i32_w]
                    rfl
                  refine pure_ (i := 6) (N := some 16) (v := ?_) (a' := ?_) #[true, true, true, true, true, true, true, false, false, false, false, false] rfl rfl (any_of HT_.out (by kernel_rfl)) (fun _ _ _ h => h) (Or.inl ⟨by rfl, ?_⟩) ?_ ?_
                  rotate_left
                  · intro w'
                    go_simp
                    with_reducible rfl
                  rotate_left
                  · simp only [Act.put, List.setIfInBounds_toArray, List.set_cons_zero, List.set_cons_succ, i64_w, i32_w]
                    rfl
                  refine pure_ (i := 7) (N := some 23) (v := ?_) (a' := ?_) #[true, true, true, true, true, true, true, true, false, false, false, false] rfl rfl (any_of HT_.out (by kernel_rfl)) (fun _ _ _ h => h) (Or.inl ⟨by rfl, ?_⟩) ?_ ?_
                  rotate_left
                  · intro w'
                    go_simp
                    with_reducible rfl
                  rotate_left
                  · simp only [Act.put, List.setIfInBounds_toArray, List.set_cons_zero, List.set_cons_succ, i64_w, i32_w]
                    rfl
                  refine pure_ (i := 8) (N := some 24) (v := ?_) (a' := ?_) #[true, true, true, true, true, true, true, true, true, false, false, false] rfl rfl (any_of HT_.out (by kernel_rfl)) (fun _ _ _ h => h) (Or.inl ⟨by rfl, ?_⟩) ?_ ?_
                  rotate_left
                  · intro w'
                    go_simp
                    with_reducible rfl
                  rotate_left
                  · simp only [Act.put, List.setIfInBounds_toArray, List.set_cons_zero, List.set_cons_succ, i64_w, i32_w]
                    rfl
                  refine one_ (i := 9) (N := some 7) #[true, true, true, true, true, true, true, true, true, true, false, false] rfl rfl (one_of HT_.out (by kernel_rfl)) (by decide) (fun K hK => ?_)
                  refine box_step ?hg (N := 7) ?hd (cs := #[.int .i64 0, .int .i64 0, .int .i64 0, .int .i64 0]) (t := 60) ?hr ?_; (case hd => rfl); (case hg => rfl); (case hr => first | (go_simp; done) | (go_simp; rfl))
                  intro gb742 hg w13 hbox hb
                  have n0_ := Aside0.mk (Kd.R_below (Kd.R_elderB (by (with_reducible repeat (first | apply Kd.R_alloc | apply Kd.R_drewN | apply Kd.R_drew)); exact HO_4.out) gb742 (Nat.le_of_eq hg.symm)) hb)
                  have n1_ := Aside0.mk (blk_below (g := gb735) (o := .cells #[.int .i64 x736000_1, .int .i64 x736001_1, .int .i64 x736002_1, .int .i64 x736003_1] 60 (0, 0)) (by (with_reducible repeat (first | refine blk_drewN ?_ _ | refine blk_drew ?_ | refine blk_alloc ?_ _)); exact BK735.out) hb)
                  have n2_ := Aside0.mk (below_step (by repeat (first | (with_reducible first | exact HB.out | apply below_alloc | apply pw_below_drewN | apply below_drew1 | refine below_set ?_ GE735.out) | exact HB.out)) hb)
                  have n3_ := Aside0.mk (hbox)
                  have n4_ := Aside0.mk ((by rw [hg]; exact (below_size (by repeat (first | (with_reducible first | exact HB.out | apply below_alloc | apply pw_below_drewN | apply below_drew1 | refine below_set ?_ GE735.out) | exact HB.out))) : w.heap.size ≤ gb742))
                  have n5_ := Aside0.mk ((by rw [hg]; exact (below_size (by repeat (first | (with_reducible first | exact HB.out | apply below_alloc | apply pw_below_drewN | apply below_drew1 | refine below_set ?_ GE735.out) | exact HB.out))) : w.heap.size ≤ gb742))
                  have n6_ := Aside0.mk ((by rw [hg]; exact Nat.ne_of_lt (blk_lt (g := gb735) (o := .cells #[.int .i64 x736000_1, .int .i64 x736001_1, .int .i64 x736002_1, .int .i64 x736003_1] 60 (0, 0)) (by (with_reducible repeat (first | refine blk_drewN ?_ _ | refine blk_drew ?_ | refine blk_alloc ?_ _)); exact BK735.out)) : gb735 ≠ gb742))
                  have n7_ := Aside0.mk ((by rw [hg]; exact Nat.ne_of_gt (blk_lt (g := gb735) (o := .cells #[.int .i64 x736000_1, .int .i64 x736001_1, .int .i64 x736002_1, .int .i64 x736003_1] 60 (0, 0)) (by (with_reducible repeat (first | refine blk_drewN ?_ _ | refine blk_drew ?_ | refine blk_alloc ?_ _)); exact BK735.out)) : gb742 ≠ gb735))
                  clear HO_4
                  clear BK735
                  clear HB
                  have HO_4 := n0_
                  have BK735 := n1_
                  have HB := n2_
                  have BK742 := n3_
                  have GW742 := n4_
                  have GE742 := n5_
                  have NB735_742 := n6_
                  have NB742_735 := n7_
                  clear n0_ n1_ n2_ n3_ n4_ n5_ n6_ n7_
                  clear hb hbox hg
                  refine hK.out _ _ ⟨(blk_cell BK735.out 0).trans rfl, (blk_cell BK735.out 1).trans rfl, (blk_cell BK735.out 2).trans rfl, (blk_cell BK735.out 3).trans rfl, ((HB.out.cell (World.block_lt_of_cell? w _ hw736_0)).trans hw736_0)⟩ (fun hHeld => ?_)
                  clear hK K
                  refine norm_ (a' := ?_) ?_ ?_
                  rotate_left
                  · show Act.put _ (some 7) _ = _
                    simp only [Act.put, List.setIfInBounds_toArray, List.set_cons_zero, List.set_cons_succ, i64_w, i32_w]
                    rfl
                  exact norm_ (by simp only [putAll, Act.put, List.setIfInBounds_toArray, List.set_cons_zero, List.set_cons_succ]) (hCont (gb742) _ ⟨hHeld, (by (with_reducible repeat (first | apply Kd.R_alloc | apply Kd.R_drewN | apply Kd.R_drew)); exact HO_4.out), (by (with_reducible repeat (first | refine blk_drewN ?_ _ | refine blk_drew ?_ | refine blk_alloc ?_ _)); exact BK735.out), (by (with_reducible repeat (first | refine blk_drewN ?_ _ | refine blk_drew ?_ | refine blk_alloc ?_ _)); exact BK742.out), GW742.out, GE742.out, NB735_742.out, NB742_735.out, (by repeat (first | (with_reducible first | exact HB.out | apply below_alloc | apply pw_below_drewN | apply below_drew1 | refine below_set ?_ GE735.out | refine below_set ?_ GE742.out) | exact HB.out))⟩)
                · skip
                  refine box_step ?hg (N := 7) ?hd (cs := #[.int .i64 0, .int .i64 0, .int .i64 0, .int .i64 0]) (t := 60) ?hr ?_; (case hd => rfl); (case hg => rfl); (case hr => first | (go_simp; done) | (go_simp; rfl))
                  intro gb742 hg w12 hbox hb
                  have n0_ := Aside0.mk (Kd.R_below (Kd.R_elderB (by (with_reducible repeat (first | apply Kd.R_alloc | apply Kd.R_drewN | apply Kd.R_drew)); exact HO_4.out) gb742 (Nat.le_of_eq hg.symm)) hb)
                  have n1_ := Aside0.mk (blk_below (g := gb735) (o := .cells #[.int .i64 x736000_1, .int .i64 x736001_1, .int .i64 x736002_1, .int .i64 x736003_1] 60 (0, 0)) (by (with_reducible repeat (first | refine blk_drewN ?_ _ | refine blk_drew ?_ | refine blk_alloc ?_ _)); exact BK735.out) hb)
                  have n2_ := Aside0.mk (below_step (by repeat (first | (with_reducible first | exact HB.out | apply below_alloc | apply pw_below_drewN | apply below_drew1 | refine below_set ?_ GE735.out) | exact HB.out)) hb)
                  have n3_ := Aside0.mk (hbox)
                  have n4_ := Aside0.mk ((by rw [hg]; exact (below_size (by repeat (first | (with_reducible first | exact HB.out | apply below_alloc | apply pw_below_drewN | apply below_drew1 | refine below_set ?_ GE735.out) | exact HB.out))) : w.heap.size ≤ gb742))
                  have n5_ := Aside0.mk ((by rw [hg]; exact (below_size (by repeat (first | (with_reducible first | exact HB.out | apply below_alloc | apply pw_below_drewN | apply below_drew1 | refine below_set ?_ GE735.out) | exact HB.out))) : w.heap.size ≤ gb742))
                  have n6_ := Aside0.mk ((by rw [hg]; exact Nat.ne_of_lt (blk_lt (g := gb735) (o := .cells #[.int .i64 x736000_1, .int .i64 x736001_1, .int .i64 x736002_1, .int .i64 x736003_1] 60 (0, 0)) (by (with_reducible repeat (first | refine blk_drewN ?_ _ | refine blk_drew ?_ | refine blk_alloc ?_ _)); exact BK735.out)) : gb735 ≠ gb742))
                  have n7_ := Aside0.mk ((by rw [hg]; exact Nat.ne_of_gt (blk_lt (g := gb735) (o := .cells #[.int .i64 x736000_1, .int .i64 x736001_1, .int .i64 x736002_1, .int .i64 x736003_1] 60 (0, 0)) (by (with_reducible repeat (first | refine blk_drewN ?_ _ | refine blk_drew ?_ | refine blk_alloc ?_ _)); exact BK735.out)) : gb742 ≠ gb735))
                  clear HO_4
                  clear BK735
                  clear HB
                  have HO_4 := n0_
                  have BK735 := n1_
                  have HB := n2_
                  have BK742 := n3_
                  have GW742 := n4_
                  have GE742 := n5_
                  have NB735_742 := n6_
                  have NB742_735 := n7_
                  clear n0_ n1_ n2_ n3_ n4_ n5_ n6_ n7_
                  clear hb hbox hg
                  refine hK.out _ _ ⟨(blk_cell BK735.out 0).trans rfl, (blk_cell BK735.out 1).trans rfl, (blk_cell BK735.out 2).trans rfl, (blk_cell BK735.out 3).trans rfl, ((HB.out.cell (World.block_lt_of_cell? w _ hw736_0)).trans hw736_0)⟩ (fun hHeld => ?_)
                  clear hK K
                  refine norm_ (a' := ?_) ?_ ?_
                  rotate_left
                  · show Act.put _ (some 7) _ = _
                    simp only [Act.put, List.setIfInBounds_toArray, List.set_cons_zero, List.set_cons_succ, i64_w, i32_w]
                    rfl
                  refine one_ (i := 5) (N := some 22) #[true, true, true, true, true, true, false, false, false, true, false, false] rfl rfl (one_of HT_.out (by kernel_rfl)) (by decide) (fun K hK => ?_)
                  refine goes_ Try.func52 (by kernel_rfl) rfl #[.agg #[.int .i64 x736000_1, .int .i64 x736001_1, .int .i64 x736002_1, .int .i64 x736003_1], .slice A736_0 (rd_L2 l0 x6_1).length c736_0] (by rfl) rfl rfl (by (try simp only [List.map_toArray, List.map_cons, List.map_nil]); first | done | rfl | (simp only [List.length_drop, List.length_take]; rfl)) ?_
                  with_reducible refine (chain_Next.calls x736000_1 x736001_1 x736002_1 x736003_1 _ _ (rd_L2 l0 x6_1) t737 t738 t739 t740 t741 _ ?side1 ?side2 A8.out).mono ?_
                  (case side1 => repeat (first | exact (Kd.C_below HR736_0.out HB.out) | (with_reducible refine Kd.C_alloc ?_ _) | (with_reducible refine Kd.C_drewN ?_ _) | (with_reducible refine Kd.C_drew ?_)))
                  (case side2 => exact HC736_0.out)
                  rintro e w13 ⟨rfl, hb⟩
                  refine ⟨_, rfl, ?_⟩
                  have n0_ := Aside0.mk (Kd.R_below (by (with_reducible repeat (first | apply Kd.R_alloc | apply Kd.R_drewN | apply Kd.R_drew)); exact HO_4.out) hb)
                  have n1_ := Aside0.mk (blk_below (g := gb735) (o := .cells #[.int .i64 x736000_1, .int .i64 x736001_1, .int .i64 x736002_1, .int .i64 x736003_1] 60 (0, 0)) (by (with_reducible repeat (first | refine blk_drewN ?_ _ | refine blk_drew ?_ | refine blk_alloc ?_ _)); exact BK735.out) hb)
                  have n2_ := Aside0.mk (blk_below (g := gb742) (o := .cells #[.int .i64 0, .int .i64 0, .int .i64 0, .int .i64 0] 60 (0, 0)) (by (with_reducible repeat (first | refine blk_drewN ?_ _ | refine blk_drew ?_ | refine blk_alloc ?_ _)); exact BK742.out) hb)
                  have n3_ := Aside0.mk (below_step (by repeat (first | (with_reducible first | exact HB.out | apply below_alloc | apply pw_below_drewN | apply below_drew1 | refine below_set ?_ GE735.out | refine below_set ?_ GE742.out) | exact HB.out)) hb)
                  clear HO_4
                  clear BK735
                  clear BK742
                  clear HB
                  have HO_4 := n0_
                  have BK735 := n1_
                  have BK742 := n2_
                  have HB := n3_
                  clear n0_ n1_ n2_ n3_
                  (try clear hb)
                  (try clear hb2)
                  (try clear hk)
                  (try clear hi)
                  refine hK.out _ _ ⟨(blk_cell BK735.out 0).trans rfl, (blk_cell BK735.out 1).trans rfl, (blk_cell BK735.out 2).trans rfl, (blk_cell BK735.out 3).trans rfl, ((HB.out.cell (World.block_lt_of_cell? w _ hw736_0)).trans hw736_0)⟩ (fun hHeld => ?_)
                  clear hK K
                  refine norm_ (a' := ?_) ?_ ?_
                  rotate_left
                  · show Act.put _ (some 22) _ = _
                    simp only [Act.put, List.setIfInBounds_toArray, List.set_cons_zero, List.set_cons_succ, i64_w, i32_w]
                    rfl
                  refine pure_ (i := 6) (N := some 16) (v := ?_) (a' := ?_) #[true, true, true, true, true, true, true, false, false, true, false, false] rfl rfl (any_of HT_.out (by kernel_rfl)) (fun _ _ _ h => h) (Or.inl ⟨by rfl, ?_⟩) ?_ ?_
                  rotate_left
                  · intro w'
                    go_simp
                    with_reducible rfl
                  rotate_left
                  · simp only [Act.put, List.setIfInBounds_toArray, List.set_cons_zero, List.set_cons_succ, i64_w, i32_w]
                    rfl
                  refine pure_ (i := 7) (N := some 23) (v := ?_) (a' := ?_) #[true, true, true, true, true, true, true, true, false, true, false, false] rfl rfl (any_of HT_.out (by kernel_rfl)) (fun _ _ _ h => h) (Or.inl ⟨by rfl, ?_⟩) ?_ ?_
                  rotate_left
                  · intro w'
                    go_simp
                    with_reducible rfl
                  rotate_left
                  · simp only [Act.put, List.setIfInBounds_toArray, List.set_cons_zero, List.set_cons_succ, i64_w, i32_w]
                    rfl
                  refine pure_ (i := 8) (N := some 24) (v := ?_) (a' := ?_) #[true, true, true, true, true, true, true, true, true, true, false, false] rfl rfl (any_of HT_.out (by kernel_rfl)) (fun _ _ _ h => h) (Or.inl ⟨by rfl, ?_⟩) ?_ ?_
                  rotate_left
                  · intro w'
                    go_simp
                    with_reducible rfl
                  rotate_left
                  · simp only [Act.put, List.setIfInBounds_toArray, List.set_cons_zero, List.set_cons_succ, i64_w, i32_w]
                    rfl
                  exact norm_ (by simp only [putAll, Act.put, List.setIfInBounds_toArray, List.set_cons_zero, List.set_cons_succ]) (hCont (gb742) _ ⟨hHeld, (by (with_reducible repeat (first | apply Kd.R_alloc | apply Kd.R_drewN | apply Kd.R_drew)); exact HO_4.out), (by (with_reducible repeat (first | refine blk_drewN ?_ _ | refine blk_drew ?_ | refine blk_alloc ?_ _)); exact BK735.out), (by (with_reducible repeat (first | refine blk_drewN ?_ _ | refine blk_drew ?_ | refine blk_alloc ?_ _)); exact BK742.out), GW742.out, GE742.out, NB735_742.out, NB742_735.out, (by repeat (first | (with_reducible first | exact HB.out | apply below_alloc | apply pw_below_drewN | apply below_drew1 | refine below_set ?_ GE735.out | refine below_set ?_ GE742.out) | exact HB.out))⟩)
              rintro gb742 w14 ⟨hS_, h0_, h1_, h2_, h3_, h4_, h5_, h6_, h7_⟩
              have n0_ : Aside0 (Kd.R k60 60 w14 w.heap.size (fun k_ => k_ ≠ gb735 ∧ k_ ≠ gb742) u4 x4_1) := ⟨h0_⟩
              have n1_ : Aside0 (w14.heap[gb735]? = some (.cells #[.int .i64 x736000_1, .int .i64 x736001_1, .int .i64 x736002_1, .int .i64 x736003_1] 60 (0, 0))) := ⟨h1_⟩
              have n2_ : Aside0 (w14.heap[gb742]? = some (.cells #[.int .i64 0, .int .i64 0, .int .i64 0, .int .i64 0] 60 (0, 0))) := ⟨h2_⟩
              have n3_ : Aside0 (w.heap.size ≤ gb742) := ⟨h3_⟩
              have n4_ : Aside0 (w.heap.size ≤ gb742) := ⟨h4_⟩
              have n5_ : Aside0 (gb735 ≠ gb742) := ⟨h5_⟩
              have n6_ : Aside0 (gb742 ≠ gb735) := ⟨h6_⟩
              have n7_ : Aside0 (Below w.heap.size w w14) := ⟨h7_⟩
              clear HO_4
              clear BK735
              clear HB
              clear h0_ h1_ h2_ h3_ h4_ h5_ h6_ h7_
              have HO_4 := n0_
              have BK735 := n1_
              have BK742 := n2_
              have GW742 := n3_
              have GE742 := n4_
              have NB735_742 := n5_
              have NB742_735 := n6_
              have HB := n7_
              clear n0_ n1_ n2_ n3_ n4_ n5_ n6_ n7_
              have hHeld : w14.cell? ⟨gb735, 0, none⟩ = some (.int .i64 x736000_1) ∧ w14.cell? ⟨gb735, 1, none⟩ = some (.int .i64 x736001_1) ∧ w14.cell? ⟨gb735, 2, none⟩ = some (.int .i64 x736002_1) ∧ w14.cell? ⟨gb735, 3, none⟩ = some (.int .i64 x736003_1) ∧ w14.cell? (ad736.add (x6_1).toNat) = some (.slice A736_0 (rd_L2 l0 x6_1).length c736_0) := hS_
              refine norm_ (a' := ?_) ?_ ?_
              rotate_left
              · simp only [putAll, Act.put, List.setIfInBounds_toArray, List.set_cons_zero, List.set_cons_succ]
                rfl
              refine one_ (i := 10) (N := none) #[true, true, true, true, true, true, true, true, true, true, true, false] rfl rfl (one_of HT_.out (by kernel_rfl)) (by decide) (fun K hK => ?_)
              have hs15 : w14.cell? ⟨gb742, 0, none⟩ = some (.int .i64 0) := (blk_cell BK742.out 0).trans rfl
              have hfs15 := blk_frozen BK742.out 0
              have hns15_0 := NB735_742.out
              have hms15_0 := NB742_735.out
              have hs16 : w14.cell? ⟨gb742, 1, none⟩ = some (.int .i64 0) := (blk_cell BK742.out 1).trans rfl
              have hfs16 := blk_frozen BK742.out 1
              have hns16_0 := NB735_742.out
              have hms16_0 := NB742_735.out
              have hs17 : w14.cell? ⟨gb742, 2, none⟩ = some (.int .i64 0) := (blk_cell BK742.out 2).trans rfl
              have hfs17 := blk_frozen BK742.out 2
              have hns17_0 := NB735_742.out
              have hms17_0 := NB742_735.out
              have hs18 : w14.cell? ⟨gb742, 3, none⟩ = some (.int .i64 0) := (blk_cell BK742.out 3).trans rfl
              have hfs18 := blk_frozen BK742.out 3
              have hns18_0 := NB735_742.out
              have hms18_0 := NB742_735.out
              refine skip_ (w1 := ?_) (by rfl) rfl ?_ ?_
              rotate_left
              · go_simp
                rfl
              refine hK.out _ _ ⟨((cell_far (p := ⟨gb742, _, none⟩) NB735_742.out _).trans (((cell_far (p := ⟨gb742, _, none⟩) NB735_742.out _).trans (((cell_far (p := ⟨gb742, _, none⟩) NB735_742.out _).trans (((cell_far (p := ⟨gb742, _, none⟩) NB735_742.out _).trans (hHeld.1)))))))), ((cell_far (p := ⟨gb742, _, none⟩) NB735_742.out _).trans (((cell_far (p := ⟨gb742, _, none⟩) NB735_742.out _).trans (((cell_far (p := ⟨gb742, _, none⟩) NB735_742.out _).trans (((cell_far (p := ⟨gb742, _, none⟩) NB735_742.out _).trans (hHeld.2.1)))))))), ((cell_far (p := ⟨gb742, _, none⟩) NB735_742.out _).trans (((cell_far (p := ⟨gb742, _, none⟩) NB735_742.out _).trans (((cell_far (p := ⟨gb742, _, none⟩) NB735_742.out _).trans (((cell_far (p := ⟨gb742, _, none⟩) NB735_742.out _).trans (hHeld.2.2.1)))))))), ((cell_far (p := ⟨gb742, _, none⟩) NB735_742.out _).trans (((cell_far (p := ⟨gb742, _, none⟩) NB735_742.out _).trans (((cell_far (p := ⟨gb742, _, none⟩) NB735_742.out _).trans (((cell_far (p := ⟨gb742, _, none⟩) NB735_742.out _).trans (hHeld.2.2.2.1)))))))), ((cell_far (p := ⟨gb742, _, none⟩) (by first | exact Nat.ne_of_lt (Nat.lt_of_lt_of_le (by have := World.block_lt_of_cell? _ _ hw736_0; first | rwa [add_block] at this | exact this) GW742.out) | (rw [add_block]; exact Nat.ne_of_lt (Nat.lt_of_lt_of_le (by have := World.block_lt_of_cell? _ _ hw736_0; first | rwa [add_block] at this | exact this) GW742.out)) | (show (Addr.add _ _).block ≠ _; rw [add_block]; exact Nat.ne_of_lt (Nat.lt_of_lt_of_le (by have := World.block_lt_of_cell? _ _ hw736_0; first | rwa [add_block] at this | exact this) GW742.out)) | (dsimp only; exact Nat.ne_of_lt (Nat.lt_of_lt_of_le (by have := World.block_lt_of_cell? _ _ hw736_0; first | rwa [add_block] at this | exact this) GW742.out))) _).trans (((cell_far (p := ⟨gb742, _, none⟩) (by first | exact Nat.ne_of_lt (Nat.lt_of_lt_of_le (by have := World.block_lt_of_cell? _ _ hw736_0; first | rwa [add_block] at this | exact this) GW742.out) | (rw [add_block]; exact Nat.ne_of_lt (Nat.lt_of_lt_of_le (by have := World.block_lt_of_cell? _ _ hw736_0; first | rwa [add_block] at this | exact this) GW742.out)) | (show (Addr.add _ _).block ≠ _; rw [add_block]; exact Nat.ne_of_lt (Nat.lt_of_lt_of_le (by have := World.block_lt_of_cell? _ _ hw736_0; first | rwa [add_block] at this | exact this) GW742.out)) | (dsimp only; exact Nat.ne_of_lt (Nat.lt_of_lt_of_le (by have := World.block_lt_of_cell? _ _ hw736_0; first | rwa [add_block] at this | exact this) GW742.out))) _).trans (((cell_far (p := ⟨gb742, _, none⟩) (by first | exact Nat.ne_of_lt (Nat.lt_of_lt_of_le (by have := World.block_lt_of_cell? _ _ hw736_0; first | rwa [add_block] at this | exact this) GW742.out) | (rw [add_block]; exact Nat.ne_of_lt (Nat.lt_of_lt_of_le (by have := World.block_lt_of_cell? _ _ hw736_0; first | rwa [add_block] at this | exact this) GW742.out)) | (show (Addr.add _ _).block ≠ _; rw [add_block]; exact Nat.ne_of_lt (Nat.lt_of_lt_of_le (by have := World.block_lt_of_cell? _ _ hw736_0; first | rwa [add_block] at this | exact this) GW742.out)) | (dsimp only; exact Nat.ne_of_lt (Nat.lt_of_lt_of_le (by have := World.block_lt_of_cell? _ _ hw736_0; first | rwa [add_block] at this | exact this) GW742.out))) _).trans (((cell_far (p := ⟨gb742, _, none⟩) (by first | exact Nat.ne_of_lt (Nat.lt_of_lt_of_le (by have := World.block_lt_of_cell? _ _ hw736_0; first | rwa [add_block] at this | exact this) GW742.out) | (rw [add_block]; exact Nat.ne_of_lt (Nat.lt_of_lt_of_le (by have := World.block_lt_of_cell? _ _ hw736_0; first | rwa [add_block] at this | exact this) GW742.out)) | (show (Addr.add _ _).block ≠ _; rw [add_block]; exact Nat.ne_of_lt (Nat.lt_of_lt_of_le (by have := World.block_lt_of_cell? _ _ hw736_0; first | rwa [add_block] at this | exact this) GW742.out)) | (dsimp only; exact Nat.ne_of_lt (Nat.lt_of_lt_of_le (by have := World.block_lt_of_cell? _ _ hw736_0; first | rwa [add_block] at this | exact this) GW742.out))) _).trans (hHeld.2.2.2.2))))))))⟩ (fun hHeld => ?_)
              clear hK K
              refine pure_ (i := 11) (N := some 8) (v := ?_) (a' := ?_) #[true, true, true, true, true, true, true, true, true, true, true, true] rfl rfl (any_of HT_.out (by kernel_rfl)) (fun _ _ _ h => h) (Or.inl ⟨by rfl, ?_⟩) ?_ ?_
              rotate_left
              · intro w'
                go_simp
                with_reducible rfl
              rotate_left
              · simp only [Act.put, List.setIfInBounds_toArray, List.set_cons_zero, List.set_cons_succ, i64_w, i32_w]
                rfl
              refine done_ (done_of HT_.out (by kernel_rfl)) ?_
              have hnb19 := NB742_735.out
              have hnc19 := NB735_742.out
              have hcz20_0 : w14.cell? ⟨gb742, 0, none⟩ = some (.int .i64 0) := (blk_cell BK742.out 0).trans rfl
              have hcz20_1 : w14.cell? ⟨gb742, 1, none⟩ = some (.int .i64 0) := (blk_cell BK742.out 1).trans rfl
              have hcz20_2 : w14.cell? ⟨gb742, 2, none⟩ = some (.int .i64 0) := (blk_cell BK742.out 2).trans rfl
              have hcz20_3 : w14.cell? ⟨gb742, 3, none⟩ = some (.int .i64 0) := (blk_cell BK742.out 3).trans rfl
              have hfz20_0 := blk_frozen BK742.out 0
              have hfz20_1 := blk_frozen BK742.out 1
              have hfz20_2 := blk_frozen BK742.out 2
              have hfz20_3 := blk_frozen BK742.out 3
              try go_wp2_with (first | ((with_reducible refine gate_builtin (b := .append) (xs := #[.tmp 27, .tmp 29]) rfl ?_); at_builtin; refine Kd.R_append k60 (w0 := w) w.heap.size rfl (.tmp 27) (.tmp 29) 66 60 (.agg #[(.int .i64 0), (.int .i64 0), (.int .i64 0), (.int .i64 0)]) 32 rfl Try.underlying66 info60 rfl (by decide) (by omega) u4 x4_1 (⟨t737, t738, (⟨t739, t740⟩ : S23)⟩ : S60) [.int .i64 t737, .int .i64 t738, .int .i64 t739, .int .i64 t740] (fun k_ => k_ ≠ gb735 ∧ k_ ≠ gb742) (fun _ => False) rfl (by first | (go_simp; done) | (go_simp; rfl)) ?aP (fun _ hk => hk.elim) ?aF ?aO ?aB ?aS ?aL ?_; (case aP => exact k60_mkM _ _ _ (⟨t737, t738, (⟨t739, t740⟩ : S23)⟩ : S60)); (case aB => exact (by repeat (first | (with_reducible first | exact HB.out | apply below_alloc | apply pw_below_drewN | apply below_drew1 | refine below_set ?_ GE735.out | refine below_set ?_ GE742.out) | exact HB.out))); (case aF => exact (fun k_ hk => ⟨Kd.freshB (g := gb735) (o := .cells #[.int .i64 x736000_1, .int .i64 x736001_1, .int .i64 x736002_1, .int .i64 x736003_1] 60 (0, 0)) (by (with_reducible repeat (first | refine blk_drewN ?_ _ | refine blk_drew ?_ | refine blk_alloc ?_ _)); refine blk_far ?_ NB735_742.out _; (with_reducible repeat (first | refine blk_drewN ?_ _ | refine blk_drew ?_ | refine blk_alloc ?_ _)); refine blk_far ?_ NB735_742.out _; (with_reducible repeat (first | refine blk_drewN ?_ _ | refine blk_drew ?_ | refine blk_alloc ?_ _)); refine blk_far ?_ NB735_742.out _; (with_reducible repeat (first | refine blk_drewN ?_ _ | refine blk_drew ?_ | refine blk_alloc ?_ _)); refine blk_far ?_ NB735_742.out _; (with_reducible repeat (first | refine blk_drewN ?_ _ | refine blk_drew ?_ | refine blk_alloc ?_ _)); exact BK735.out) k_ hk, Kd.freshB (g := gb742) (o := .cells #[.int .i64 t737, .int .i64 t738, .int .i64 t739, .int .i64 t740] 60 (0, 0)) (by (with_reducible repeat (first | refine blk_drewN ?_ _ | refine blk_drew ?_ | refine blk_alloc ?_ _)); refine blk_put (cs := #[.int .i64 t737, .int .i64 t738, .int .i64 t739, .int .i64 0]) ?_ 3 _ rfl; (with_reducible repeat (first | refine blk_drewN ?_ _ | refine blk_drew ?_ | refine blk_alloc ?_ _)); refine blk_put (cs := #[.int .i64 t737, .int .i64 t738, .int .i64 0, .int .i64 0]) ?_ 2 _ rfl; (with_reducible repeat (first | refine blk_drewN ?_ _ | refine blk_drew ?_ | refine blk_alloc ?_ _)); refine blk_put (cs := #[.int .i64 t737, .int .i64 0, .int .i64 0, .int .i64 0]) ?_ 1 _ rfl; (with_reducible repeat (first | refine blk_drewN ?_ _ | refine blk_drew ?_ | refine blk_alloc ?_ _)); refine blk_put (cs := #[.int .i64 0, .int .i64 0, .int .i64 0, .int .i64 0]) ?_ 0 _ rfl; (with_reducible repeat (first | refine blk_drewN ?_ _ | refine blk_drew ?_ | refine blk_alloc ?_ _)); exact BK742.out) k_ hk⟩)); (case aO => exact (by (with_reducible repeat (first | apply Kd.R_alloc | apply Kd.R_drewN | apply Kd.R_drew)); exact Kd.R_mono (Kd.R_far (p := ⟨gb742, 3, none⟩) (Kd.R_far (p := ⟨gb742, 2, none⟩) (Kd.R_far (p := ⟨gb742, 1, none⟩) (Kd.R_far (p := ⟨gb742, 0, none⟩) (Kd.R_mono HO_4.out (fun k_ hk => (⟨hk, hk.2⟩ : _ ∧ k_ ≠ gb742))) (fun _ hk => hk.2) (.int .i64 t737)) (fun _ hk => hk.2) (.int .i64 t738)) (fun _ hk => hk.2) (.int .i64 t739)) (fun _ hk => hk.2) (.int .i64 t740)) (fun _ hk => ⟨hk.1.1, hk.1.2⟩))); (case aS => exact (below_size (by repeat (first | (with_reducible first | exact HB.out | apply below_alloc | apply pw_below_drewN | apply below_drew1 | refine below_set ?_ GE735.out | refine below_set ?_ GE742.out) | exact HB.out)))); (case aL => have := LMc10.out; omega); intro v744 w21 ho hb hg hat; rw [← Ny743.out] at ho; have n0_ := Aside0.mk (blk_grown (g := gb735) (o := .cells #[.int .i64 x736000_1, .int .i64 x736001_1, .int .i64 x736002_1, .int .i64 x736003_1] 60 (0, 0)) (by (with_reducible repeat (first | refine blk_drewN ?_ _ | refine blk_drew ?_ | refine blk_alloc ?_ _)); refine blk_far ?_ NB735_742.out _; (with_reducible repeat (first | refine blk_drewN ?_ _ | refine blk_drew ?_ | refine blk_alloc ?_ _)); refine blk_far ?_ NB735_742.out _; (with_reducible repeat (first | refine blk_drewN ?_ _ | refine blk_drew ?_ | refine blk_alloc ?_ _)); refine blk_far ?_ NB735_742.out _; (with_reducible repeat (first | refine blk_drewN ?_ _ | refine blk_drew ?_ | refine blk_alloc ?_ _)); refine blk_far ?_ NB735_742.out _; (with_reducible repeat (first | refine blk_drewN ?_ _ | refine blk_drew ?_ | refine blk_alloc ?_ _)); exact BK735.out) hg (Kd.R_away HO_4.out (fun _ hk => hk.1))); have n1_ := Aside0.mk (blk_grown (g := gb742) (o := .cells #[.int .i64 t737, .int .i64 t738, .int .i64 t739, .int .i64 t740] 60 (0, 0)) (by (with_reducible repeat (first | refine blk_drewN ?_ _ | refine blk_drew ?_ | refine blk_alloc ?_ _)); refine blk_put (cs := #[.int .i64 t737, .int .i64 t738, .int .i64 t739, .int .i64 0]) ?_ 3 _ rfl; (with_reducible repeat (first | refine blk_drewN ?_ _ | refine blk_drew ?_ | refine blk_alloc ?_ _)); refine blk_put (cs := #[.int .i64 t737, .int .i64 t738, .int .i64 0, .int .i64 0]) ?_ 2 _ rfl; (with_reducible repeat (first | refine blk_drewN ?_ _ | refine blk_drew ?_ | refine blk_alloc ?_ _)); refine blk_put (cs := #[.int .i64 t737, .int .i64 0, .int .i64 0, .int .i64 0]) ?_ 1 _ rfl; (with_reducible repeat (first | refine blk_drewN ?_ _ | refine blk_drew ?_ | refine blk_alloc ?_ _)); refine blk_put (cs := #[.int .i64 0, .int .i64 0, .int .i64 0, .int .i64 0]) ?_ 0 _ rfl; (with_reducible repeat (first | refine blk_drewN ?_ _ | refine blk_drew ?_ | refine blk_alloc ?_ _)); exact BK742.out) hg (Kd.R_away HO_4.out (fun _ hk => hk.2))); have n2_ := Aside0.mk (hb); have n3_ := Aside0.mk (ho); clear BK735; clear BK742; clear HB; clear HO_4; have BK735 := n0_; have BK742 := n1_; have HB := n2_; have HO745 := n3_; clear n0_ n1_ n2_ n3_; clear ho hb hg hat; have hcz22_0 : w21.cell? ⟨gb742, 0, none⟩ = some (.int .i64 t737) := (blk_cell BK742.out 0).trans rfl; have hcz22_1 : w21.cell? ⟨gb742, 1, none⟩ = some (.int .i64 t738) := (blk_cell BK742.out 1).trans rfl; have hcz22_2 : w21.cell? ⟨gb742, 2, none⟩ = some (.int .i64 t739) := (blk_cell BK742.out 2).trans rfl; have hcz22_3 : w21.cell? ⟨gb742, 3, none⟩ = some (.int .i64 t740) := (blk_cell BK742.out 3).trans rfl; have hfz22_0 := blk_frozen BK742.out 0; have hfz22_1 := blk_frozen BK742.out 1; have hfz22_2 := blk_frozen BK742.out 2; have hfz22_3 := blk_frozen BK742.out 3; have hcz23_0 : w21.cell? ⟨gb735, 0, none⟩ = some (.int .i64 x736000_1) := (blk_cell BK735.out 0).trans rfl; have hcz23_1 : w21.cell? ⟨gb735, 1, none⟩ = some (.int .i64 x736001_1) := (blk_cell BK735.out 1).trans rfl; have hcz23_2 : w21.cell? ⟨gb735, 2, none⟩ = some (.int .i64 x736002_1) := (blk_cell BK735.out 2).trans rfl; have hcz23_3 : w21.cell? ⟨gb735, 3, none⟩ = some (.int .i64 x736003_1) := (blk_cell BK735.out 3).trans rfl; have hfz23_0 := blk_frozen BK735.out 0; have hfz23_1 := blk_frozen BK735.out 1; have hfz23_2 := blk_frozen BK735.out 2; have hfz23_3 := blk_frozen BK735.out 3))
              go_roundg k1
              case measure => have := HK1.out; omega
              case rel => exact ⟨(y743), (wrap64 (x6_1 + 1)), (t737), (t738), (t739), (t740), (by first | rfl | (simp; done) | (simp [*]; done)), H', ⟨by have := HK1.out; omega⟩, ⟨by (with_reducible repeat (first | apply Kd.R_alloc | apply Kd.R_drewN | apply Kd.R_drew)); exact Kd.R_mono (Kd.R_far (p := ⟨gb735, 3, none⟩) (Kd.R_far (p := ⟨gb735, 2, none⟩) (Kd.R_far (p := ⟨gb735, 1, none⟩) (Kd.R_far (p := ⟨gb735, 0, none⟩) (Kd.R_mono HO745.out (fun k_ hk => (⟨hk, hk.1⟩ : _ ∧ k_ ≠ gb735))) (fun _ hk => hk.2) (.int .i64 t737)) (fun _ hk => hk.2) (.int .i64 t738)) (fun _ hk => hk.2) (.int .i64 t739)) (fun _ hk => hk.2) (.int .i64 t740)) (fun _ hk => hk.1.1)⟩, ⟨by (with_reducible repeat (first | refine blk_drewN ?_ _ | refine blk_drew ?_ | refine blk_alloc ?_ _)); refine blk_put (cs := #[.int .i64 t737, .int .i64 t738, .int .i64 t739, .int .i64 x736003_1]) ?_ 3 _ rfl; (with_reducible repeat (first | refine blk_drewN ?_ _ | refine blk_drew ?_ | refine blk_alloc ?_ _)); refine blk_put (cs := #[.int .i64 t737, .int .i64 t738, .int .i64 x736002_1, .int .i64 x736003_1]) ?_ 2 _ rfl; (with_reducible repeat (first | refine blk_drewN ?_ _ | refine blk_drew ?_ | refine blk_alloc ?_ _)); refine blk_put (cs := #[.int .i64 t737, .int .i64 x736001_1, .int .i64 x736002_1, .int .i64 x736003_1]) ?_ 1 _ rfl; (with_reducible repeat (first | refine blk_drewN ?_ _ | refine blk_drew ?_ | refine blk_alloc ?_ _)); refine blk_put (cs := #[.int .i64 x736000_1, .int .i64 x736001_1, .int .i64 x736002_1, .int .i64 x736003_1]) ?_ 0 _ rfl; (with_reducible repeat (first | refine blk_drewN ?_ _ | refine blk_drew ?_ | refine blk_alloc ?_ _)); exact BK735.out⟩, ⟨by repeat (first | (with_reducible first | exact HB.out | apply below_alloc | apply pw_below_drewN | apply below_drew1 | refine below_set ?_ GE735.out | refine below_set ?_ GE742.out) | exact HB.out)⟩⟩
            · rw [if_neg c10] at H
              exact absurd H (by simp)
          · rw [if_neg c9] at H
            have c9b0 : (t741 == 0) = false := beq_eq_false_iff_ne.mpr c9
            have c9b1 : (t741 != 0) = true := bne_iff_ne.mpr c9
            simp only [Option.some.injEq, Prod.mk.injEq] at H
            obtain ⟨rfl, rfl⟩ := H
            try go_wp2
            have n0_ := Aside0.mk (Kd.R_drew HO_4.out)
            have n1_ := Aside0.mk (blk_drew BK735.out)
            have n2_ := Aside0.mk (below_drew1 HB.out)
            clear HO_4
            clear BK735
            clear HB
            have HO_4 := n0_
            have BK735 := n1_
            have HB := n2_
            clear n0_ n1_ n2_
            have p736 : 0 ≤ (x6_1 : Int) := of_decide_eq_true (by first | (with_reducible assumption) | assumption)
            have q736 : x6_1 < (l0.length : Int) := of_decide_eq_true (by first | (with_reducible assumption) | assumption)
            obtain ⟨ad736, A736_0, c736_0, e736, hx736_0, hl736_0, hi736_0⟩ := at_L2 HR0.out x6_1 p736 q736
            have hw736_0 := hx736_0
            cases e736
            replace hx736_0 := (HB.out.cell (World.block_lt_of_cell? w _ hx736_0)).trans hx736_0
            have HR736_0 := Aside0.mk hi736_0
            have HC736_0 := Aside0.mk hl736_0
            clear hi736_0 hl736_0
            replace p736 := eq_true p736
            replace q736 := eq_true q736
            refine start_ (n := 12) (S := fun w' => w'.cell? ⟨gb735, 0, none⟩ = some (.int .i64 x736000_1) ∧ w'.cell? ⟨gb735, 1, none⟩ = some (.int .i64 x736001_1) ∧ w'.cell? ⟨gb735, 2, none⟩ = some (.int .i64 x736002_1) ∧ w'.cell? ⟨gb735, 3, none⟩ = some (.int .i64 x736003_1) ∧ w'.cell? (ad736.add (x6_1).toNat) = some (.slice A736_0 (rd_L2 l0 x6_1).length c736_0)) (ds := []) #[false, false, false, false, false, false, false, false, false, false, false, false] (by kernel_rfl) rfl rfl ⟨(blk_cell BK735.out 0).trans rfl, (blk_cell BK735.out 1).trans rfl, (blk_cell BK735.out 2).trans rfl, (blk_cell BK735.out 3).trans rfl, ((HB.out.cell (World.block_lt_of_cell? w _ hw736_0)).trans hw736_0)⟩ (fun hHeld => ?_); refine with_tabW reevelaw03_links.tab6 reevelaw03_links.bits6 (fun HT_ HW_ => ?_)
            generalize wr.drew = w24 at HO_4 BK735 HB HR736_0 hx736_0 hHeld ⊢
            refine pure_ (i := 1) (N := some 18) (v := ?_) (a' := ?_) #[false, true, false, false, false, false, false, false, false, false, false, false] rfl rfl (any_of HT_.out (by kernel_rfl)) (fun _ _ _ h => h) (Or.inl ⟨by rfl, ?_⟩) ?_ ?_
            rotate_left
            · intro w'
              go_simp
              with_reducible rfl
            rotate_left
            · simp only [Act.put, List.setIfInBounds_toArray, List.set_cons_zero, List.set_cons_succ, i64_w, i32_w]
              rfl
            refine pure_ (i := 2) (N := some 19) (v := ?_) (a' := ?_) #[false, true, true, false, false, false, false, false, false, false, false, false] rfl rfl (any_of HT_.out (by kernel_rfl)) (fun _ _ _ h => h) (Or.inl ⟨by rfl, ?_⟩) ?_ ?_
            rotate_left
            · intro w'
              go_simp
              with_reducible rfl
            rotate_left
            · simp only [Act.put, List.setIfInBounds_toArray, List.set_cons_zero, List.set_cons_succ, i64_w, i32_w]
              rfl
            refine pure_ (i := 3) (N := some 20) (v := ?_) (a' := ?_) #[false, true, true, true, false, false, false, false, false, false, false, false] rfl rfl (any_of HT_.out (by kernel_rfl)) (fun _ _ _ h => h) (Or.inl ⟨by rfl, ?_⟩) ?_ ?_
            rotate_left
            · intro w'
              go_simp
              with_reducible rfl
            rotate_left
            · simp only [Act.put, List.setIfInBounds_toArray, List.set_cons_zero, List.set_cons_succ, i64_w, i32_w]
              rfl
            refine take_ (i := 0) (N := some 17) (v := ?_) (a' := ?_) #[true, true, true, true, false, false, false, false, false, false, false, false] rfl rfl (take_ofW HT_.out HW_.out (by kernel_rfl)) (fun _ _ _ h => h) (Or.inl ⟨by rfl, ?_⟩) hHeld ?_ ?_
            rotate_left
            · rintro w' ⟨s0, s1, s2, s3, s4⟩
              go_simp
              with_reducible rfl
            rotate_left
            · simp only [Act.put, List.setIfInBounds_toArray, List.set_cons_zero, List.set_cons_succ, i64_w, i32_w]
              rfl
            refine take_ (i := 4) (N := some 21) (v := ?_) (a' := ?_) #[true, true, true, true, true, false, false, false, false, false, false, false] rfl rfl (take_ofW HT_.out HW_.out (by kernel_rfl)) (fun _ _ _ h => h) (Or.inl ⟨by rfl, ?_⟩) hHeld ?_ ?_
            rotate_left
            · rintro w' ⟨s0, s1, s2, s3, s4⟩
              go_simp
              with_reducible rfl
            rotate_left
            · simp only [Act.put, List.setIfInBounds_toArray, List.set_cons_zero, List.set_cons_succ, i64_w, i32_w]
              rfl
            refine join_ (σ := Nat) 2 #[true, true, true, true, true, true, true, true, true, true, false, false] (fun s_ => [(22, .tuple #[.agg #[.int .i64 t737, .int .i64 t738, .int .i64 t739, .int .i64 t740], .int .i64 t741]), (7, .pointer (some ⟨s_, 0, none⟩)), (16, .tuple #[.agg #[.int .i64 t737, .int .i64 t738, .int .i64 t739, .int .i64 t740], .int .i64 t741]), (23, .agg #[.int .i64 t737, .int .i64 t738, .int .i64 t739, .int .i64 t740]), (24, .int .i64 t741)]) (fun s_ w' => (w'.cell? ⟨gb735, 0, none⟩ = some (.int .i64 x736000_1) ∧ w'.cell? ⟨gb735, 1, none⟩ = some (.int .i64 x736001_1) ∧ w'.cell? ⟨gb735, 2, none⟩ = some (.int .i64 x736002_1) ∧ w'.cell? ⟨gb735, 3, none⟩ = some (.int .i64 x736003_1) ∧ w'.cell? (ad736.add (x6_1).toNat) = some (.slice A736_0 (rd_L2 l0 x6_1).length c736_0)) ∧ (Kd.R k60 60 w' w.heap.size (fun k_ => k_ ≠ gb735 ∧ k_ ≠ s_) u4 x4_1) ∧ (w'.heap[gb735]? = some (.cells #[.int .i64 x736000_1, .int .i64 x736001_1, .int .i64 x736002_1, .int .i64 x736003_1] 60 (0, 0))) ∧ (w'.heap[s_]? = some (.cells #[.int .i64 0, .int .i64 0, .int .i64 0, .int .i64 0] 60 (0, 0))) ∧ (w.heap.size ≤ s_) ∧ (w.heap.size ≤ s_) ∧ (gb735 ≠ s_) ∧ (s_ ≠ gb735) ∧ (Below w.heap.size w w')) ?_ ?_
            rotate_left
            · intro hCont
              refine two_ (i := 5) (j := 9) (Ni := some 22) (Nj := some 7) #[true, true, true, true, true, true, false, false, false, false, false, false] #[true, true, true, true, true, false, false, false, false, true, false, false] rfl rfl rfl rfl (two_of HT_.out (by kernel_rfl)) (by decide) (by decide) (fun K hK => ?_) (fun K hK => ?_)
              · skip
                refine goes_ Try.func52 (by kernel_rfl) rfl #[.agg #[.int .i64 x736000_1, .int .i64 x736001_1, .int .i64 x736002_1, .int .i64 x736003_1], .slice A736_0 (rd_L2 l0 x6_1).length c736_0] (by rfl) rfl rfl (by (try simp only [List.map_toArray, List.map_cons, List.map_nil]); first | done | rfl | (simp only [List.length_drop, List.length_take]; rfl)) ?_
                with_reducible refine (chain_Next.calls x736000_1 x736001_1 x736002_1 x736003_1 _ _ (rd_L2 l0 x6_1) t737 t738 t739 t740 t741 _ ?side1 ?side2 A8.out).mono ?_
                (case side1 => repeat (first | exact (Kd.C_below HR736_0.out HB.out) | (with_reducible refine Kd.C_alloc ?_ _) | (with_reducible refine Kd.C_drewN ?_ _) | (with_reducible refine Kd.C_drew ?_)))
                (case side2 => exact HC736_0.out)
                rintro e w25 ⟨rfl, hb⟩
                refine ⟨_, rfl, ?_⟩
                have n0_ := Aside0.mk (Kd.R_below (by (with_reducible repeat (first | apply Kd.R_alloc | apply Kd.R_drewN | apply Kd.R_drew)); exact HO_4.out) hb)
                have n1_ := Aside0.mk (blk_below (g := gb735) (o := .cells #[.int .i64 x736000_1, .int .i64 x736001_1, .int .i64 x736002_1, .int .i64 x736003_1] 60 (0, 0)) (by (with_reducible repeat (first | refine blk_drewN ?_ _ | refine blk_drew ?_ | refine blk_alloc ?_ _)); exact BK735.out) hb)
                have n2_ := Aside0.mk (below_step (by repeat (first | (with_reducible first | exact HB.out | apply below_alloc | apply pw_below_drewN | apply below_drew1 | refine below_set ?_ GE735.out) | exact HB.out)) hb)
                clear HO_4
                clear BK735
                clear HB
                have HO_4 := n0_
                have BK735 := n1_
                have HB := n2_
                clear n0_ n1_ n2_
                (try clear hb)
                (try clear hb2)
                (try clear hk)
                (try clear hi)
                refine hK.out _ _ ⟨(blk_cell BK735.out 0).trans rfl, (blk_cell BK735.out 1).trans rfl, (blk_cell BK735.out 2).trans rfl, (blk_cell BK735.out 3).trans rfl, ((HB.out.cell (World.block_lt_of_cell? w _ hw736_0)).trans hw736_0)⟩ (fun hHeld => ?_)
                clear hK K
                refine norm_ (a' := ?_) ?_ ?_
                rotate_left
                · show Act.put _ (some 22) _ = _
                  simp only [Act.put, List.setIfInBounds_toArray, List.set_cons_zero, List.set_cons_succ, i64_w, i32_w]
                  rfl
                refine pure_ (i := 6) (N := some 16) (v := ?_) (a' := ?_) #[true, true, true, true, true, true, true, false, false, false, false, false] rfl rfl (any_of HT_.out (by kernel_rfl)) (fun _ _ _ h => h) (Or.inl ⟨by rfl, ?_⟩) ?_ ?_
                rotate_left
                · intro w'
                  go_simp
                  with_reducible rfl
                rotate_left
                · simp only [Act.put, List.setIfInBounds_toArray, List.set_cons_zero, List.set_cons_succ, i64_w, i32_w]
                  rfl
                refine pure_ (i := 7) (N := some 23) (v := ?_) (a' := ?_) #[true, true, true, true, true, true, true, true, false, false, false, false] rfl rfl (any_of HT_.out (by kernel_rfl)) (fun _ _ _ h => h) (Or.inl ⟨by rfl, ?_⟩) ?_ ?_
                rotate_left
                · intro w'
                  go_simp
                  with_reducible rfl
                rotate_left
                · simp only [Act.put, List.setIfInBounds_toArray, List.set_cons_zero, List.set_cons_succ, i64_w, i32_w]
                  rfl
                refine pure_ (i := 8) (N := some 24) (v := ?_) (a' := ?_) #[true, true, true, true, true, true, true, true, true, false, false, false] rfl rfl (any_of HT_.out (by kernel_rfl)) (fun _ _ _ h => h) (Or.inl ⟨by rfl, ?_⟩) ?_ ?_
                rotate_left
                · intro w'
                  go_simp
                  with_reducible rfl
                rotate_left
                · simp only [Act.put, List.setIfInBounds_toArray, List.set_cons_zero, List.set_cons_succ, i64_w, i32_w]
                  rfl
                refine one_ (i := 9) (N := some 7) #[true, true, true, true, true, true, true, true, true, true, false, false] rfl rfl (one_of HT_.out (by kernel_rfl)) (by decide) (fun K hK => ?_)
                refine box_step ?hg (N := 7) ?hd (cs := #[.int .i64 0, .int .i64 0, .int .i64 0, .int .i64 0]) (t := 60) ?hr ?_; (case hd => rfl); (case hg => rfl); (case hr => first | (go_simp; done) | (go_simp; rfl))
                intro gb742 hg w26 hbox hb
                have n0_ := Aside0.mk (Kd.R_below (Kd.R_elderB (by (with_reducible repeat (first | apply Kd.R_alloc | apply Kd.R_drewN | apply Kd.R_drew)); exact HO_4.out) gb742 (Nat.le_of_eq hg.symm)) hb)
                have n1_ := Aside0.mk (blk_below (g := gb735) (o := .cells #[.int .i64 x736000_1, .int .i64 x736001_1, .int .i64 x736002_1, .int .i64 x736003_1] 60 (0, 0)) (by (with_reducible repeat (first | refine blk_drewN ?_ _ | refine blk_drew ?_ | refine blk_alloc ?_ _)); exact BK735.out) hb)
                have n2_ := Aside0.mk (below_step (by repeat (first | (with_reducible first | exact HB.out | apply below_alloc | apply pw_below_drewN | apply below_drew1 | refine below_set ?_ GE735.out) | exact HB.out)) hb)
                have n3_ := Aside0.mk (hbox)
                have n4_ := Aside0.mk ((by rw [hg]; exact (below_size (by repeat (first | (with_reducible first | exact HB.out | apply below_alloc | apply pw_below_drewN | apply below_drew1 | refine below_set ?_ GE735.out) | exact HB.out))) : w.heap.size ≤ gb742))
                have n5_ := Aside0.mk ((by rw [hg]; exact (below_size (by repeat (first | (with_reducible first | exact HB.out | apply below_alloc | apply pw_below_drewN | apply below_drew1 | refine below_set ?_ GE735.out) | exact HB.out))) : w.heap.size ≤ gb742))
                have n6_ := Aside0.mk ((by rw [hg]; exact Nat.ne_of_lt (blk_lt (g := gb735) (o := .cells #[.int .i64 x736000_1, .int .i64 x736001_1, .int .i64 x736002_1, .int .i64 x736003_1] 60 (0, 0)) (by (with_reducible repeat (first | refine blk_drewN ?_ _ | refine blk_drew ?_ | refine blk_alloc ?_ _)); exact BK735.out)) : gb735 ≠ gb742))
                have n7_ := Aside0.mk ((by rw [hg]; exact Nat.ne_of_gt (blk_lt (g := gb735) (o := .cells #[.int .i64 x736000_1, .int .i64 x736001_1, .int .i64 x736002_1, .int .i64 x736003_1] 60 (0, 0)) (by (with_reducible repeat (first | refine blk_drewN ?_ _ | refine blk_drew ?_ | refine blk_alloc ?_ _)); exact BK735.out)) : gb742 ≠ gb735))
                clear HO_4
                clear BK735
                clear HB
                have HO_4 := n0_
                have BK735 := n1_
                have HB := n2_
                have BK742 := n3_
                have GW742 := n4_
                have GE742 := n5_
                have NB735_742 := n6_
                have NB742_735 := n7_
                clear n0_ n1_ n2_ n3_ n4_ n5_ n6_ n7_
                clear hb hbox hg
                refine hK.out _ _ ⟨(blk_cell BK735.out 0).trans rfl, (blk_cell BK735.out 1).trans rfl, (blk_cell BK735.out 2).trans rfl, (blk_cell BK735.out 3).trans rfl, ((HB.out.cell (World.block_lt_of_cell? w _ hw736_0)).trans hw736_0)⟩ (fun hHeld => ?_)
                clear hK K
                refine norm_ (a' := ?_) ?_ ?_
                rotate_left
                · show Act.put _ (some 7) _ = _
                  simp only [Act.put, List.setIfInBounds_toArray, List.set_cons_zero, List.set_cons_succ, i64_w, i32_w]
                  rfl
                exact norm_ (by simp only [putAll, Act.put, List.setIfInBounds_toArray, List.set_cons_zero, List.set_cons_succ]) (hCont (gb742) _ ⟨hHeld, (by (with_reducible repeat (first | apply Kd.R_alloc | apply Kd.R_drewN | apply Kd.R_drew)); exact HO_4.out), (by (with_reducible repeat (first | refine blk_drewN ?_ _ | refine blk_drew ?_ | refine blk_alloc ?_ _)); exact BK735.out), (by (with_reducible repeat (first | refine blk_drewN ?_ _ | refine blk_drew ?_ | refine blk_alloc ?_ _)); exact BK742.out), GW742.out, GE742.out, NB735_742.out, NB742_735.out, (by repeat (first | (with_reducible first | exact HB.out | apply below_alloc | apply pw_below_drewN | apply below_drew1 | refine below_set ?_ GE735.out | refine below_set ?_ GE742.out) | exact HB.out))⟩)
              · skip
                refine box_step ?hg (N := 7) ?hd (cs := #[.int .i64 0, .int .i64 0, .int .i64 0, .int .i64 0]) (t := 60) ?hr ?_; (case hd => rfl); (case hg => rfl); (case hr => first | (go_simp; done) | (go_simp; rfl))
                intro gb742 hg w25 hbox hb
                have n0_ := Aside0.mk (Kd.R_below (Kd.R_elderB (by (with_reducible repeat (first | apply Kd.R_alloc | apply Kd.R_drewN | apply Kd.R_drew)); exact HO_4.out) gb742 (Nat.le_of_eq hg.symm)) hb)
                have n1_ := Aside0.mk (blk_below (g := gb735) (o := .cells #[.int .i64 x736000_1, .int .i64 x736001_1, .int .i64 x736002_1, .int .i64 x736003_1] 60 (0, 0)) (by (with_reducible repeat (first | refine blk_drewN ?_ _ | refine blk_drew ?_ | refine blk_alloc ?_ _)); exact BK735.out) hb)
                have n2_ := Aside0.mk (below_step (by repeat (first | (with_reducible first | exact HB.out | apply below_alloc | apply pw_below_drewN | apply below_drew1 | refine below_set ?_ GE735.out) | exact HB.out)) hb)
                have n3_ := Aside0.mk (hbox)
                have n4_ := Aside0.mk ((by rw [hg]; exact (below_size (by repeat (first | (with_reducible first | exact HB.out | apply below_alloc | apply pw_below_drewN | apply below_drew1 | refine below_set ?_ GE735.out) | exact HB.out))) : w.heap.size ≤ gb742))
                have n5_ := Aside0.mk ((by rw [hg]; exact (below_size (by repeat (first | (with_reducible first | exact HB.out | apply below_alloc | apply pw_below_drewN | apply below_drew1 | refine below_set ?_ GE735.out) | exact HB.out))) : w.heap.size ≤ gb742))
                have n6_ := Aside0.mk ((by rw [hg]; exact Nat.ne_of_lt (blk_lt (g := gb735) (o := .cells #[.int .i64 x736000_1, .int .i64 x736001_1, .int .i64 x736002_1, .int .i64 x736003_1] 60 (0, 0)) (by (with_reducible repeat (first | refine blk_drewN ?_ _ | refine blk_drew ?_ | refine blk_alloc ?_ _)); exact BK735.out)) : gb735 ≠ gb742))
                have n7_ := Aside0.mk ((by rw [hg]; exact Nat.ne_of_gt (blk_lt (g := gb735) (o := .cells #[.int .i64 x736000_1, .int .i64 x736001_1, .int .i64 x736002_1, .int .i64 x736003_1] 60 (0, 0)) (by (with_reducible repeat (first | refine blk_drewN ?_ _ | refine blk_drew ?_ | refine blk_alloc ?_ _)); exact BK735.out)) : gb742 ≠ gb735))
                clear HO_4
                clear BK735
                clear HB
                have HO_4 := n0_
                have BK735 := n1_
                have HB := n2_
                have BK742 := n3_
                have GW742 := n4_
                have GE742 := n5_
                have NB735_742 := n6_
                have NB742_735 := n7_
                clear n0_ n1_ n2_ n3_ n4_ n5_ n6_ n7_
                clear hb hbox hg
                refine hK.out _ _ ⟨(blk_cell BK735.out 0).trans rfl, (blk_cell BK735.out 1).trans rfl, (blk_cell BK735.out 2).trans rfl, (blk_cell BK735.out 3).trans rfl, ((HB.out.cell (World.block_lt_of_cell? w _ hw736_0)).trans hw736_0)⟩ (fun hHeld => ?_)
                clear hK K
                refine norm_ (a' := ?_) ?_ ?_
                rotate_left
                · show Act.put _ (some 7) _ = _
                  simp only [Act.put, List.setIfInBounds_toArray, List.set_cons_zero, List.set_cons_succ, i64_w, i32_w]
                  rfl
                refine one_ (i := 5) (N := some 22) #[true, true, true, true, true, true, false, false, false, true, false, false] rfl rfl (one_of HT_.out (by kernel_rfl)) (by decide) (fun K hK => ?_)
                refine goes_ Try.func52 (by kernel_rfl) rfl #[.agg #[.int .i64 x736000_1, .int .i64 x736001_1, .int .i64 x736002_1, .int .i64 x736003_1], .slice A736_0 (rd_L2 l0 x6_1).length c736_0] (by rfl) rfl rfl (by (try simp only [List.map_toArray, List.map_cons, List.map_nil]); first | done | rfl | (simp only [List.length_drop, List.length_take]; rfl)) ?_
                with_reducible refine (chain_Next.calls x736000_1 x736001_1 x736002_1 x736003_1 _ _ (rd_L2 l0 x6_1) t737 t738 t739 t740 t741 _ ?side1 ?side2 A8.out).mono ?_
                (case side1 => repeat (first | exact (Kd.C_below HR736_0.out HB.out) | (with_reducible refine Kd.C_alloc ?_ _) | (with_reducible refine Kd.C_drewN ?_ _) | (with_reducible refine Kd.C_drew ?_)))
                (case side2 => exact HC736_0.out)
                rintro e w26 ⟨rfl, hb⟩
                refine ⟨_, rfl, ?_⟩
                have n0_ := Aside0.mk (Kd.R_below (by (with_reducible repeat (first | apply Kd.R_alloc | apply Kd.R_drewN | apply Kd.R_drew)); exact HO_4.out) hb)
                have n1_ := Aside0.mk (blk_below (g := gb735) (o := .cells #[.int .i64 x736000_1, .int .i64 x736001_1, .int .i64 x736002_1, .int .i64 x736003_1] 60 (0, 0)) (by (with_reducible repeat (first | refine blk_drewN ?_ _ | refine blk_drew ?_ | refine blk_alloc ?_ _)); exact BK735.out) hb)
                have n2_ := Aside0.mk (blk_below (g := gb742) (o := .cells #[.int .i64 0, .int .i64 0, .int .i64 0, .int .i64 0] 60 (0, 0)) (by (with_reducible repeat (first | refine blk_drewN ?_ _ | refine blk_drew ?_ | refine blk_alloc ?_ _)); exact BK742.out) hb)
                have n3_ := Aside0.mk (below_step (by repeat (first | (with_reducible first | exact HB.out | apply below_alloc | apply pw_below_drewN | apply below_drew1 | refine below_set ?_ GE735.out | refine below_set ?_ GE742.out) | exact HB.out)) hb)
                clear HO_4
                clear BK735
                clear BK742
                clear HB
                have HO_4 := n0_
                have BK735 := n1_
                have BK742 := n2_
                have HB := n3_
                clear n0_ n1_ n2_ n3_
                (try clear hb)
                (try clear hb2)
                (try clear hk)
                (try clear hi)
                refine hK.out _ _ ⟨(blk_cell BK735.out 0).trans rfl, (blk_cell BK735.out 1).trans rfl, (blk_cell BK735.out 2).trans rfl, (blk_cell BK735.out 3).trans rfl, ((HB.out.cell (World.block_lt_of_cell? w _ hw736_0)).trans hw736_0)⟩ (fun hHeld => ?_)
                clear hK K
                refine norm_ (a' := ?_) ?_ ?_
                rotate_left
                · show Act.put _ (some 22) _ = _
                  simp only [Act.put, List.setIfInBounds_toArray, List.set_cons_zero, List.set_cons_succ, i64_w, i32_w]
                  rfl
                refine pure_ (i := 6) (N := some 16) (v := ?_) (a' := ?_) #[true, true, true, true, true, true, true, false, false, true, false, false] rfl rfl (any_of HT_.out (by kernel_rfl)) (fun _ _ _ h => h) (Or.inl ⟨by rfl, ?_⟩) ?_ ?_
                rotate_left
                · intro w'
                  go_simp
                  with_reducible rfl
                rotate_left
                · simp only [Act.put, List.setIfInBounds_toArray, List.set_cons_zero, List.set_cons_succ, i64_w, i32_w]
                  rfl
                refine pure_ (i := 7) (N := some 23) (v := ?_) (a' := ?_) #[true, true, true, true, true, true, true, true, false, true, false, false] rfl rfl (any_of HT_.out (by kernel_rfl)) (fun _ _ _ h => h) (Or.inl ⟨by rfl, ?_⟩) ?_ ?_
                rotate_left
                · intro w'
                  go_simp
                  with_reducible rfl
                rotate_left
                · simp only [Act.put, List.setIfInBounds_toArray, List.set_cons_zero, List.set_cons_succ, i64_w, i32_w]
                  rfl
                refine pure_ (i := 8) (N := some 24) (v := ?_) (a' := ?_) #[true, true, true, true, true, true, true, true, true, true, false, false] rfl rfl (any_of HT_.out (by kernel_rfl)) (fun _ _ _ h => h) (Or.inl ⟨by rfl, ?_⟩) ?_ ?_
                rotate_left
                · intro w'
                  go_simp
                  with_reducible rfl
                rotate_left
                · simp only [Act.put, List.setIfInBounds_toArray, List.set_cons_zero, List.set_cons_succ, i64_w, i32_w]
                  rfl
                exact norm_ (by simp only [putAll, Act.put, List.setIfInBounds_toArray, List.set_cons_zero, List.set_cons_succ]) (hCont (gb742) _ ⟨hHeld, (by (with_reducible repeat (first | apply Kd.R_alloc | apply Kd.R_drewN | apply Kd.R_drew)); exact HO_4.out), (by (with_reducible repeat (first | refine blk_drewN ?_ _ | refine blk_drew ?_ | refine blk_alloc ?_ _)); exact BK735.out), (by (with_reducible repeat (first | refine blk_drewN ?_ _ | refine blk_drew ?_ | refine blk_alloc ?_ _)); exact BK742.out), GW742.out, GE742.out, NB735_742.out, NB742_735.out, (by repeat (first | (with_reducible first | exact HB.out | apply below_alloc | apply pw_below_drewN | apply below_drew1 | refine below_set ?_ GE735.out | refine below_set ?_ GE742.out) | exact HB.out))⟩)
            rintro gb742 w27 ⟨hS_, h0_, h1_, h2_, h3_, h4_, h5_, h6_, h7_⟩
            have n0_ : Aside0 (Kd.R k60 60 w27 w.heap.size (fun k_ => k_ ≠ gb735 ∧ k_ ≠ gb742) u4 x4_1) := ⟨h0_⟩
            have n1_ : Aside0 (w27.heap[gb735]? = some (.cells #[.int .i64 x736000_1, .int .i64 x736001_1, .int .i64 x736002_1, .int .i64 x736003_1] 60 (0, 0))) := ⟨h1_⟩
            have n2_ : Aside0 (w27.heap[gb742]? = some (.cells #[.int .i64 0, .int .i64 0, .int .i64 0, .int .i64 0] 60 (0, 0))) := ⟨h2_⟩
            have n3_ : Aside0 (w.heap.size ≤ gb742) := ⟨h3_⟩
            have n4_ : Aside0 (w.heap.size ≤ gb742) := ⟨h4_⟩
            have n5_ : Aside0 (gb735 ≠ gb742) := ⟨h5_⟩
            have n6_ : Aside0 (gb742 ≠ gb735) := ⟨h6_⟩
            have n7_ : Aside0 (Below w.heap.size w w27) := ⟨h7_⟩
            clear HO_4
            clear BK735
            clear HB
            clear h0_ h1_ h2_ h3_ h4_ h5_ h6_ h7_
            have HO_4 := n0_
            have BK735 := n1_
            have BK742 := n2_
            have GW742 := n3_
            have GE742 := n4_
            have NB735_742 := n5_
            have NB742_735 := n6_
            have HB := n7_
            clear n0_ n1_ n2_ n3_ n4_ n5_ n6_ n7_
            have hHeld : w27.cell? ⟨gb735, 0, none⟩ = some (.int .i64 x736000_1) ∧ w27.cell? ⟨gb735, 1, none⟩ = some (.int .i64 x736001_1) ∧ w27.cell? ⟨gb735, 2, none⟩ = some (.int .i64 x736002_1) ∧ w27.cell? ⟨gb735, 3, none⟩ = some (.int .i64 x736003_1) ∧ w27.cell? (ad736.add (x6_1).toNat) = some (.slice A736_0 (rd_L2 l0 x6_1).length c736_0) := hS_
            refine norm_ (a' := ?_) ?_ ?_
            rotate_left
            · simp only [putAll, Act.put, List.setIfInBounds_toArray, List.set_cons_zero, List.set_cons_succ]
              rfl
            refine one_ (i := 10) (N := none) #[true, true, true, true, true, true, true, true, true, true, true, false] rfl rfl (one_of HT_.out (by kernel_rfl)) (by decide) (fun K hK => ?_)
            have hs28 : w27.cell? ⟨gb742, 0, none⟩ = some (.int .i64 0) := (blk_cell BK742.out 0).trans rfl
            have hfs28 := blk_frozen BK742.out 0
            have hns28_0 := NB735_742.out
            have hms28_0 := NB742_735.out
            have hs29 : w27.cell? ⟨gb742, 1, none⟩ = some (.int .i64 0) := (blk_cell BK742.out 1).trans rfl
            have hfs29 := blk_frozen BK742.out 1
            have hns29_0 := NB735_742.out
            have hms29_0 := NB742_735.out
            have hs30 : w27.cell? ⟨gb742, 2, none⟩ = some (.int .i64 0) := (blk_cell BK742.out 2).trans rfl
            have hfs30 := blk_frozen BK742.out 2
            have hns30_0 := NB735_742.out
            have hms30_0 := NB742_735.out
            have hs31 : w27.cell? ⟨gb742, 3, none⟩ = some (.int .i64 0) := (blk_cell BK742.out 3).trans rfl
            have hfs31 := blk_frozen BK742.out 3
            have hns31_0 := NB735_742.out
            have hms31_0 := NB742_735.out
            refine skip_ (w1 := ?_) (by rfl) rfl ?_ ?_
            rotate_left
            · go_simp
              rfl
            refine hK.out _ _ ⟨((cell_far (p := ⟨gb742, _, none⟩) NB735_742.out _).trans (((cell_far (p := ⟨gb742, _, none⟩) NB735_742.out _).trans (((cell_far (p := ⟨gb742, _, none⟩) NB735_742.out _).trans (((cell_far (p := ⟨gb742, _, none⟩) NB735_742.out _).trans (hHeld.1)))))))), ((cell_far (p := ⟨gb742, _, none⟩) NB735_742.out _).trans (((cell_far (p := ⟨gb742, _, none⟩) NB735_742.out _).trans (((cell_far (p := ⟨gb742, _, none⟩) NB735_742.out _).trans (((cell_far (p := ⟨gb742, _, none⟩) NB735_742.out _).trans (hHeld.2.1)))))))), ((cell_far (p := ⟨gb742, _, none⟩) NB735_742.out _).trans (((cell_far (p := ⟨gb742, _, none⟩) NB735_742.out _).trans (((cell_far (p := ⟨gb742, _, none⟩) NB735_742.out _).trans (((cell_far (p := ⟨gb742, _, none⟩) NB735_742.out _).trans (hHeld.2.2.1)))))))), ((cell_far (p := ⟨gb742, _, none⟩) NB735_742.out _).trans (((cell_far (p := ⟨gb742, _, none⟩) NB735_742.out _).trans (((cell_far (p := ⟨gb742, _, none⟩) NB735_742.out _).trans (((cell_far (p := ⟨gb742, _, none⟩) NB735_742.out _).trans (hHeld.2.2.2.1)))))))), ((cell_far (p := ⟨gb742, _, none⟩) (by first | exact Nat.ne_of_lt (Nat.lt_of_lt_of_le (by have := World.block_lt_of_cell? _ _ hw736_0; first | rwa [add_block] at this | exact this) GW742.out) | (rw [add_block]; exact Nat.ne_of_lt (Nat.lt_of_lt_of_le (by have := World.block_lt_of_cell? _ _ hw736_0; first | rwa [add_block] at this | exact this) GW742.out)) | (show (Addr.add _ _).block ≠ _; rw [add_block]; exact Nat.ne_of_lt (Nat.lt_of_lt_of_le (by have := World.block_lt_of_cell? _ _ hw736_0; first | rwa [add_block] at this | exact this) GW742.out)) | (dsimp only; exact Nat.ne_of_lt (Nat.lt_of_lt_of_le (by have := World.block_lt_of_cell? _ _ hw736_0; first | rwa [add_block] at this | exact this) GW742.out))) _).trans (((cell_far (p := ⟨gb742, _, none⟩) (by first | exact Nat.ne_of_lt (Nat.lt_of_lt_of_le (by have := World.block_lt_of_cell? _ _ hw736_0; first | rwa [add_block] at this | exact this) GW742.out) | (rw [add_block]; exact Nat.ne_of_lt (Nat.lt_of_lt_of_le (by have := World.block_lt_of_cell? _ _ hw736_0; first | rwa [add_block] at this | exact this) GW742.out)) | (show (Addr.add _ _).block ≠ _; rw [add_block]; exact Nat.ne_of_lt (Nat.lt_of_lt_of_le (by have := World.block_lt_of_cell? _ _ hw736_0; first | rwa [add_block] at this | exact this) GW742.out)) | (dsimp only; exact Nat.ne_of_lt (Nat.lt_of_lt_of_le (by have := World.block_lt_of_cell? _ _ hw736_0; first | rwa [add_block] at this | exact this) GW742.out))) _).trans (((cell_far (p := ⟨gb742, _, none⟩) (by first | exact Nat.ne_of_lt (Nat.lt_of_lt_of_le (by have := World.block_lt_of_cell? _ _ hw736_0; first | rwa [add_block] at this | exact this) GW742.out) | (rw [add_block]; exact Nat.ne_of_lt (Nat.lt_of_lt_of_le (by have := World.block_lt_of_cell? _ _ hw736_0; first | rwa [add_block] at this | exact this) GW742.out)) | (show (Addr.add _ _).block ≠ _; rw [add_block]; exact Nat.ne_of_lt (Nat.lt_of_lt_of_le (by have := World.block_lt_of_cell? _ _ hw736_0; first | rwa [add_block] at this | exact this) GW742.out)) | (dsimp only; exact Nat.ne_of_lt (Nat.lt_of_lt_of_le (by have := World.block_lt_of_cell? _ _ hw736_0; first | rwa [add_block] at this | exact this) GW742.out))) _).trans (((cell_far (p := ⟨gb742, _, none⟩) (by first | exact Nat.ne_of_lt (Nat.lt_of_lt_of_le (by have := World.block_lt_of_cell? _ _ hw736_0; first | rwa [add_block] at this | exact this) GW742.out) | (rw [add_block]; exact Nat.ne_of_lt (Nat.lt_of_lt_of_le (by have := World.block_lt_of_cell? _ _ hw736_0; first | rwa [add_block] at this | exact this) GW742.out)) | (show (Addr.add _ _).block ≠ _; rw [add_block]; exact Nat.ne_of_lt (Nat.lt_of_lt_of_le (by have := World.block_lt_of_cell? _ _ hw736_0; first | rwa [add_block] at this | exact this) GW742.out)) | (dsimp only; exact Nat.ne_of_lt (Nat.lt_of_lt_of_le (by have := World.block_lt_of_cell? _ _ hw736_0; first | rwa [add_block] at this | exact this) GW742.out))) _).trans (hHeld.2.2.2.2))))))))⟩ (fun hHeld => ?_)
            clear hK K
            refine pure_ (i := 11) (N := some 8) (v := ?_) (a' := ?_) #[true, true, true, true, true, true, true, true, true, true, true, true] rfl rfl (any_of HT_.out (by kernel_rfl)) (fun _ _ _ h => h) (Or.inl ⟨by rfl, ?_⟩) ?_ ?_
            rotate_left
            · intro w'
              go_simp
              with_reducible rfl
            rotate_left
            · simp only [Act.put, List.setIfInBounds_toArray, List.set_cons_zero, List.set_cons_succ, i64_w, i32_w]
              rfl
            refine done_ (done_of HT_.out (by kernel_rfl)) ?_
            try go_wp2
            go_ret2
            exact ⟨_, by first | rfl | (simp [errW_none, errW_some] <;> rfl) | (simp [*, errW_none, errW_some] <;> rfl), by first | exact Kd.R_nil _ _ _ _ _ | exact Kd.N_nil _ _ _ _ _ | exact Kd.V_nil _ _ _ _ _ | exact Kd.Q_nil _ _ _ _ _ | exact Kd.S_nil _ _ _ _ _, by repeat (first | (with_reducible first | exact HB.out | apply below_alloc | apply pw_below_drewN | apply below_drew1 | refine below_set ?_ GE735.out | refine below_set ?_ GE742.out) | exact HB.out)⟩
        · rw [if_neg c7] at H
          exact absurd H (by simp)
      · rw [if_neg c6] at H
        have c6b0 : decide (x6_1 < (l0.length : Int)) = false := decide_eq_false c6
        clear c6
        simp only [Option.some.injEq, Prod.mk.injEq] at H
        obtain ⟨rfl, rfl⟩ := H
        go_wp2
        go_ret2
        exact ⟨_, by first | rfl | (simp [errW_none, errW_some] <;> rfl) | (simp [*, errW_none, errW_some] <;> rfl), by (with_reducible repeat (first | apply Kd.R_alloc | apply Kd.R_drewN | apply Kd.R_drew)); exact Kd.R_mono HO_4.out (fun _ hk => trivial), by repeat (first | (with_reducible first | exact HB.out | apply below_alloc | apply pw_below_drewN | apply below_drew1 | refine below_set ?_ GE735.out) | exact HB.out)⟩
end Go.Proofs.Ytbiijcehgiibeaa.Q

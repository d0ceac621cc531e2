/- Proved here: what seal.Power, seal.Times, seal.Join and seal.Add answer: the pairs of the text Math. Conditions: the guards in each statement's hypothesis. (Pieces by wip/sealgen.py, this session's own.) -/
import Derived.Test.YtbiijcehgiibeaaKSOverJFloat
import Derived.Test.YtbiijcehgiibeaaKSOverWLast
import Derived.Test.YtbiijcehgiibeaaKSOverWTab
import Derived.Test.YtbiijcehgiibeaaKSOverWMore
import Derived.Deep.LoopGhost
namespace Go.Proofs.Ytbiijcehgiibeaa.S
open Go.RowKit Go.Proofs.YtbiijcehgiibeaaW.PrintWords Go.Proofs.YtbiijcehgiibeaaW.PrintLast Go.Proofs.YtbiijcehgiibeaaW.PrintMore
set_option linter.unusedVariables false
set_option linter.unusedSimpArgs false
set_option maxHeartbeats 2000000 in
set_option maxRecDepth 100000 in
theorem power_ext (a b n r1 r2 r3 : Int) (w : World) (h : (if M.right a b = true then if n < 0 then some ((0 : Int), (0 : Int), (1 : Int)) else if n ≤ 9223372036854775807 then some ((M.pow (a, b) n.toNat).1, (M.pow (a, b) n.toNat).2, 0) else none else some (0, 0, 20)) = some (r1, r2, r3)) :
    Calls Try.prog 46 #[.agg #[.int .i64 a, .int .i64 b], .int .i64 n] w fun e w' => e = .returned (.tuple #[.agg #[.int .i64 r1, .int .i64 r2], .int .i64 r3]) ∧ Below w.heap.size w w' := by
  have hu23 := Try.underlying23
  have HB := Lib.hid (Below.refl w.heap.size w)
  by_cases hr : M.right a b = true
  · rw [if_pos hr] at h
    have cr := fun w => right_yes a b hr w
    by_cases hn : n < 0
    · rw [if_pos hn] at h
      obtain ⟨rfl, rfl, rfl⟩ : 0 = r1 ∧ 0 = r2 ∧ 1 = r3 := by simpa using h
      clear h hr
      go_enter Try.func46, Try.ntmps46
      go_wp2_with (first | ((with_reducible refine gate_dst (N := 2) rfl ?_); refine box_event ?hg (N := 2) ?hd (cs := #[.int .i64 a, .int .i64 b]) (t := 23) ?hr ?_; (case hd => rfl); (case hg => rfl); (case hr => first | (go_simp; done) | (go_simp; rfl)); intro g1 hg w1 hbox hb; have Gg1 := Lib.hid ((by rw [hg]; exact below_size HB.out) : w.heap.size ≤ g1); have nB := Lib.hid (below_step HB.out hb); clear HB; have HB := nB; clear nB; have Kg1 := Lib.hid hbox; clear hb hbox hg) | ((with_reducible refine gate_dst (N := 4) rfl ?_); refine box_event ?hg (N := 4) ?hd (cs := #[.int .i64 0, .int .i64 0]) (t := 23) ?hr ?_; (case hd => rfl); (case hg => rfl); (case hr => first | (go_simp; done) | (go_simp; rfl)); intro g2 hg w2 hbox hb; have Gg2 := Lib.hid ((by rw [hg]; exact below_size HB.out) : w.heap.size ≤ g2); have Ng1_g2 : Hid (g1 ≠ g2) := Lib.hid (by rw [hg]; exact Nat.ne_of_lt (blk_lt (g := g1) (o := .cells #[.int .i64 a, .int .i64 b] 23 (0, 0)) Kg1.out)); have Ng2_g1 : Hid (g2 ≠ g1) := Lib.hid (by rw [hg]; exact Nat.ne_of_gt (blk_lt (g := g1) (o := .cells #[.int .i64 a, .int .i64 b] 23 (0, 0)) Kg1.out)); have ng1 := Lib.hid (blk_below (g := g1) (o := .cells #[.int .i64 a, .int .i64 b] 23 (0, 0)) Kg1.out hb); clear Kg1; have Kg1 := ng1; clear ng1; have nB := Lib.hid (below_step HB.out hb); clear HB; have HB := nB; clear nB; have Kg2 := Lib.hid hbox; clear hb hbox hg; have ka_g1_0 : w2.cell? ⟨g1, 0, none⟩ = some (.int .i64 a) := (blk_cell Kg1.out 0).trans rfl; have fa_g1_0 := blk_frozen Kg1.out 0; have ka_g1_1 : w2.cell? ⟨g1, 1, none⟩ = some (.int .i64 b) := (blk_cell Kg1.out 1).trans rfl; have fa_g1_1 := blk_frozen Kg1.out 1; have ka_g2_0 : w2.cell? ⟨g2, 0, none⟩ = some (.int .i64 0) := (blk_cell Kg2.out 0).trans rfl; have fa_g2_0 := blk_frozen Kg2.out 0; have ka_g2_1 : w2.cell? ⟨g2, 1, none⟩ = some (.int .i64 0) := (blk_cell Kg2.out 1).trans rfl; have fa_g2_1 := blk_frozen Kg2.out 1) | ((with_reducible refine (cr _).mono ?_); rintro e w3 ⟨rfl, hb⟩; have ng1 := Lib.hid (blk_below (g := g1) (o := .cells #[.int .i64 a, .int .i64 b] 23 (0, 0)) Kg1.out hb); clear Kg1; have Kg1 := ng1; clear ng1; have ng2 := Lib.hid (blk_below (g := g2) (o := .cells #[.int .i64 0, .int .i64 0] 23 (0, 0)) Kg2.out hb); clear Kg2; have Kg2 := ng2; clear ng2; have nB := Lib.hid (below_step HB.out hb); clear HB; have HB := nB; clear nB hb; have kb_g1_0 : w3.cell? ⟨g1, 0, none⟩ = some (.int .i64 a) := (blk_cell Kg1.out 0).trans rfl; have fb_g1_0 := blk_frozen Kg1.out 0; have kb_g1_1 : w3.cell? ⟨g1, 1, none⟩ = some (.int .i64 b) := (blk_cell Kg1.out 1).trans rfl; have fb_g1_1 := blk_frozen Kg1.out 1; have kb_g2_0 : w3.cell? ⟨g2, 0, none⟩ = some (.int .i64 0) := (blk_cell Kg2.out 0).trans rfl; have fb_g2_0 := blk_frozen Kg2.out 0; have kb_g2_1 : w3.cell? ⟨g2, 1, none⟩ = some (.int .i64 0) := (blk_cell Kg2.out 1).trans rfl; have fb_g2_1 := blk_frozen Kg2.out 1))
      refine bodyPost_ret (results_ct rfl _ _ g2 23 #[.int .i64 0, .int .i64 0] (0, 0) _ rfl (by refine blk_put (cs := #[.int .i64 0, .int .i64 0]) ?_ 1 _ rfl; refine blk_put (cs := #[.int .i64 0, .int .i64 0]) ?_ 0 _ rfl; exact Kg2.out) Try.underlying23 rfl (by kernel_rfl)) rfl ?_
      exact ⟨rfl, by repeat (first | (with_reducible exact HB.out) | refine below_set ?_ Gg1.out | refine below_set ?_ Gg2.out)⟩
    · rw [if_neg hn] at h
      by_cases hn2 : n ≤ 9223372036854775807
      · rw [if_pos hn2] at h
        obtain ⟨rfl, rfl, rfl⟩ : (M.pow (a, b) n.toNat).1 = r1 ∧ (M.pow (a, b) n.toNat).2 = r2 ∧ 0 = r3 := by simpa using h
        have cp := fun w => power_calls _ (a, b) n (number_fi (a, b) hr) hr (by omega) hn2 w
        have hpr := M.pow_right (a, b) n.toNat
        generalize M.pow (a, b) n.toNat = z at cp hpr
        obtain ⟨z1, z2⟩ := z
        have e1 : z1 % 16777199 = z1 := by have := M.right_iff.1 hpr; simp only at this; omega
        have e2 : z2 % 16777199 = z2 := by have := M.right_iff.1 hpr; simp only at this; omega
        have hz1 : z1.natAbs < 2 ^ 53 := by have := M.right_iff.1 hpr; simp only at this; omega
        have hz2 : z2.natAbs < 2 ^ 53 := by have := M.right_iff.1 hpr; simp only at this; omega
        have cs : ∀ u, CI u (z1, z2) → ∀ w, Calls Try.prog 70 #[u] w fun e w' => e = .returned (.agg #[.int .i64 z1, .int .i64 z2]) ∧ Below w.heap.size w w' := by
          rintro u ⟨p, q, rfl, hp, hq⟩ w
          have := seal_calls p q z1 z2 hp hq hz1 hz2 w
          rw [e1, e2] at this
          exact this
        clear h hr e1 e2 hz1 hz2 hpr
        go_enter Try.func46, Try.ntmps46
        go_wp2_with (first | ((with_reducible refine gate_dst (N := 2) rfl ?_); refine box_event ?hg (N := 2) ?hd (cs := #[.int .i64 a, .int .i64 b]) (t := 23) ?hr ?_; (case hd => rfl); (case hg => rfl); (case hr => first | (go_simp; done) | (go_simp; rfl)); intro g1 hg w1 hbox hb; have Gg1 := Lib.hid ((by rw [hg]; exact below_size HB.out) : w.heap.size ≤ g1); have nB := Lib.hid (below_step HB.out hb); clear HB; have HB := nB; clear nB; have Kg1 := Lib.hid hbox; clear hb hbox hg) | ((with_reducible refine gate_dst (N := 4) rfl ?_); refine box_event ?hg (N := 4) ?hd (cs := #[.int .i64 0, .int .i64 0]) (t := 23) ?hr ?_; (case hd => rfl); (case hg => rfl); (case hr => first | (go_simp; done) | (go_simp; rfl)); intro g2 hg w2 hbox hb; have Gg2 := Lib.hid ((by rw [hg]; exact below_size HB.out) : w.heap.size ≤ g2); have Ng1_g2 : Hid (g1 ≠ g2) := Lib.hid (by rw [hg]; exact Nat.ne_of_lt (blk_lt (g := g1) (o := .cells #[.int .i64 a, .int .i64 b] 23 (0, 0)) Kg1.out)); have Ng2_g1 : Hid (g2 ≠ g1) := Lib.hid (by rw [hg]; exact Nat.ne_of_gt (blk_lt (g := g1) (o := .cells #[.int .i64 a, .int .i64 b] 23 (0, 0)) Kg1.out)); have ng1 := Lib.hid (blk_below (g := g1) (o := .cells #[.int .i64 a, .int .i64 b] 23 (0, 0)) Kg1.out hb); clear Kg1; have Kg1 := ng1; clear ng1; have nB := Lib.hid (below_step HB.out hb); clear HB; have HB := nB; clear nB; have Kg2 := Lib.hid hbox; clear hb hbox hg; have ka_g1_0 : w2.cell? ⟨g1, 0, none⟩ = some (.int .i64 a) := (blk_cell Kg1.out 0).trans rfl; have fa_g1_0 := blk_frozen Kg1.out 0; have ka_g1_1 : w2.cell? ⟨g1, 1, none⟩ = some (.int .i64 b) := (blk_cell Kg1.out 1).trans rfl; have fa_g1_1 := blk_frozen Kg1.out 1; have ka_g2_0 : w2.cell? ⟨g2, 0, none⟩ = some (.int .i64 0) := (blk_cell Kg2.out 0).trans rfl; have fa_g2_0 := blk_frozen Kg2.out 0; have ka_g2_1 : w2.cell? ⟨g2, 1, none⟩ = some (.int .i64 0) := (blk_cell Kg2.out 1).trans rfl; have fa_g2_1 := blk_frozen Kg2.out 1) | ((with_reducible refine (cr _).mono ?_); rintro e w3 ⟨rfl, hb⟩; have ng1 := Lib.hid (blk_below (g := g1) (o := .cells #[.int .i64 a, .int .i64 b] 23 (0, 0)) Kg1.out hb); clear Kg1; have Kg1 := ng1; clear ng1; have ng2 := Lib.hid (blk_below (g := g2) (o := .cells #[.int .i64 0, .int .i64 0] 23 (0, 0)) Kg2.out hb); clear Kg2; have Kg2 := ng2; clear ng2; have nB := Lib.hid (below_step HB.out hb); clear HB; have HB := nB; clear nB hb; have kb_g1_0 : w3.cell? ⟨g1, 0, none⟩ = some (.int .i64 a) := (blk_cell Kg1.out 0).trans rfl; have fb_g1_0 := blk_frozen Kg1.out 0; have kb_g1_1 : w3.cell? ⟨g1, 1, none⟩ = some (.int .i64 b) := (blk_cell Kg1.out 1).trans rfl; have fb_g1_1 := blk_frozen Kg1.out 1; have kb_g2_0 : w3.cell? ⟨g2, 0, none⟩ = some (.int .i64 0) := (blk_cell Kg2.out 0).trans rfl; have fb_g2_0 := blk_frozen Kg2.out 0; have kb_g2_1 : w3.cell? ⟨g2, 1, none⟩ = some (.int .i64 0) := (blk_cell Kg2.out 1).trans rfl; have fb_g2_1 := blk_frozen Kg2.out 1) | ((with_reducible refine (number_calls a b _).mono ?_); rintro e w4 ⟨rfl, hb⟩; have ng1 := Lib.hid (blk_below (g := g1) (o := .cells #[.int .i64 a, .int .i64 b] 23 (0, 0)) Kg1.out hb); clear Kg1; have Kg1 := ng1; clear ng1; have ng2 := Lib.hid (blk_below (g := g2) (o := .cells #[.int .i64 0, .int .i64 0] 23 (0, 0)) Kg2.out hb); clear Kg2; have Kg2 := ng2; clear ng2; have nB := Lib.hid (below_step HB.out hb); clear HB; have HB := nB; clear nB hb; have kc_g1_0 : w4.cell? ⟨g1, 0, none⟩ = some (.int .i64 a) := (blk_cell Kg1.out 0).trans rfl; have fc_g1_0 := blk_frozen Kg1.out 0; have kc_g1_1 : w4.cell? ⟨g1, 1, none⟩ = some (.int .i64 b) := (blk_cell Kg1.out 1).trans rfl; have fc_g1_1 := blk_frozen Kg1.out 1; have kc_g2_0 : w4.cell? ⟨g2, 0, none⟩ = some (.int .i64 0) := (blk_cell Kg2.out 0).trans rfl; have fc_g2_0 := blk_frozen Kg2.out 0; have kc_g2_1 : w4.cell? ⟨g2, 1, none⟩ = some (.int .i64 0) := (blk_cell Kg2.out 1).trans rfl; have fc_g2_1 := blk_frozen Kg2.out 1) | ((with_reducible refine (cp _).mono ?_); rintro e w5 ⟨u, rfl, hci, hb⟩; have ng1 := Lib.hid (blk_below (g := g1) (o := .cells #[.int .i64 a, .int .i64 b] 23 (0, 0)) Kg1.out hb); clear Kg1; have Kg1 := ng1; clear ng1; have ng2 := Lib.hid (blk_below (g := g2) (o := .cells #[.int .i64 0, .int .i64 0] 23 (0, 0)) Kg2.out hb); clear Kg2; have Kg2 := ng2; clear ng2; have nB := Lib.hid (below_step HB.out hb); clear HB; have HB := nB; clear nB hb; have kd_g1_0 : w5.cell? ⟨g1, 0, none⟩ = some (.int .i64 a) := (blk_cell Kg1.out 0).trans rfl; have fd_g1_0 := blk_frozen Kg1.out 0; have kd_g1_1 : w5.cell? ⟨g1, 1, none⟩ = some (.int .i64 b) := (blk_cell Kg1.out 1).trans rfl; have fd_g1_1 := blk_frozen Kg1.out 1; have kd_g2_0 : w5.cell? ⟨g2, 0, none⟩ = some (.int .i64 0) := (blk_cell Kg2.out 0).trans rfl; have fd_g2_0 := blk_frozen Kg2.out 0; have kd_g2_1 : w5.cell? ⟨g2, 1, none⟩ = some (.int .i64 0) := (blk_cell Kg2.out 1).trans rfl; have fd_g2_1 := blk_frozen Kg2.out 1) | ((with_reducible refine (cs _ hci _).mono ?_); rintro e w6 ⟨rfl, hb⟩; have ng1 := Lib.hid (blk_below (g := g1) (o := .cells #[.int .i64 a, .int .i64 b] 23 (0, 0)) Kg1.out hb); clear Kg1; have Kg1 := ng1; clear ng1; have ng2 := Lib.hid (blk_below (g := g2) (o := .cells #[.int .i64 0, .int .i64 0] 23 (0, 0)) Kg2.out hb); clear Kg2; have Kg2 := ng2; clear ng2; have nB := Lib.hid (below_step HB.out hb); clear HB; have HB := nB; clear nB hb; have ke_g1_0 : w6.cell? ⟨g1, 0, none⟩ = some (.int .i64 a) := (blk_cell Kg1.out 0).trans rfl; have fe_g1_0 := blk_frozen Kg1.out 0; have ke_g1_1 : w6.cell? ⟨g1, 1, none⟩ = some (.int .i64 b) := (blk_cell Kg1.out 1).trans rfl; have fe_g1_1 := blk_frozen Kg1.out 1; have ke_g2_0 : w6.cell? ⟨g2, 0, none⟩ = some (.int .i64 0) := (blk_cell Kg2.out 0).trans rfl; have fe_g2_0 := blk_frozen Kg2.out 0; have ke_g2_1 : w6.cell? ⟨g2, 1, none⟩ = some (.int .i64 0) := (blk_cell Kg2.out 1).trans rfl; have fe_g2_1 := blk_frozen Kg2.out 1))
        refine bodyPost_ret (results_ct rfl _ _ g2 23 #[.int .i64 z1, .int .i64 z2] (0, 0) _ rfl (by refine blk_put (cs := #[.int .i64 z1, .int .i64 0]) ?_ 1 _ rfl; refine blk_put (cs := #[.int .i64 0, .int .i64 0]) ?_ 0 _ rfl; exact Kg2.out) Try.underlying23 rfl (by kernel_rfl)) rfl ?_
        exact ⟨rfl, by repeat (first | (with_reducible exact HB.out) | refine below_set ?_ Gg1.out | refine below_set ?_ Gg2.out)⟩
      · rw [if_neg hn2] at h
        exact absurd h (by simp)
  · have hr2 := Bool.eq_false_iff.2 hr
    rw [if_neg hr] at h
    have cr := fun w => right_no a b hr2 w
    obtain ⟨rfl, rfl, rfl⟩ : 0 = r1 ∧ 0 = r2 ∧ 20 = r3 := by simpa using h
    clear h hr hr2
    go_enter Try.func46, Try.ntmps46
    go_wp2_with (first | ((with_reducible refine gate_dst (N := 2) rfl ?_); refine box_event ?hg (N := 2) ?hd (cs := #[.int .i64 a, .int .i64 b]) (t := 23) ?hr ?_; (case hd => rfl); (case hg => rfl); (case hr => first | (go_simp; done) | (go_simp; rfl)); intro g1 hg w1 hbox hb; have Gg1 := Lib.hid ((by rw [hg]; exact below_size HB.out) : w.heap.size ≤ g1); have nB := Lib.hid (below_step HB.out hb); clear HB; have HB := nB; clear nB; have Kg1 := Lib.hid hbox; clear hb hbox hg) | ((with_reducible refine gate_dst (N := 4) rfl ?_); refine box_event ?hg (N := 4) ?hd (cs := #[.int .i64 0, .int .i64 0]) (t := 23) ?hr ?_; (case hd => rfl); (case hg => rfl); (case hr => first | (go_simp; done) | (go_simp; rfl)); intro g2 hg w2 hbox hb; have Gg2 := Lib.hid ((by rw [hg]; exact below_size HB.out) : w.heap.size ≤ g2); have Ng1_g2 : Hid (g1 ≠ g2) := Lib.hid (by rw [hg]; exact Nat.ne_of_lt (blk_lt (g := g1) (o := .cells #[.int .i64 a, .int .i64 b] 23 (0, 0)) Kg1.out)); have Ng2_g1 : Hid (g2 ≠ g1) := Lib.hid (by rw [hg]; exact Nat.ne_of_gt (blk_lt (g := g1) (o := .cells #[.int .i64 a, .int .i64 b] 23 (0, 0)) Kg1.out)); have ng1 := Lib.hid (blk_below (g := g1) (o := .cells #[.int .i64 a, .int .i64 b] 23 (0, 0)) Kg1.out hb); clear Kg1; have Kg1 := ng1; clear ng1; have nB := Lib.hid (below_step HB.out hb); clear HB; have HB := nB; clear nB; have Kg2 := Lib.hid hbox; clear hb hbox hg; have ka_g1_0 : w2.cell? ⟨g1, 0, none⟩ = some (.int .i64 a) := (blk_cell Kg1.out 0).trans rfl; have fa_g1_0 := blk_frozen Kg1.out 0; have ka_g1_1 : w2.cell? ⟨g1, 1, none⟩ = some (.int .i64 b) := (blk_cell Kg1.out 1).trans rfl; have fa_g1_1 := blk_frozen Kg1.out 1; have ka_g2_0 : w2.cell? ⟨g2, 0, none⟩ = some (.int .i64 0) := (blk_cell Kg2.out 0).trans rfl; have fa_g2_0 := blk_frozen Kg2.out 0; have ka_g2_1 : w2.cell? ⟨g2, 1, none⟩ = some (.int .i64 0) := (blk_cell Kg2.out 1).trans rfl; have fa_g2_1 := blk_frozen Kg2.out 1) | ((with_reducible refine (cr _).mono ?_); rintro e w3 ⟨rfl, hb⟩; have ng1 := Lib.hid (blk_below (g := g1) (o := .cells #[.int .i64 a, .int .i64 b] 23 (0, 0)) Kg1.out hb); clear Kg1; have Kg1 := ng1; clear ng1; have ng2 := Lib.hid (blk_below (g := g2) (o := .cells #[.int .i64 0, .int .i64 0] 23 (0, 0)) Kg2.out hb); clear Kg2; have Kg2 := ng2; clear ng2; have nB := Lib.hid (below_step HB.out hb); clear HB; have HB := nB; clear nB hb; have kb_g1_0 : w3.cell? ⟨g1, 0, none⟩ = some (.int .i64 a) := (blk_cell Kg1.out 0).trans rfl; have fb_g1_0 := blk_frozen Kg1.out 0; have kb_g1_1 : w3.cell? ⟨g1, 1, none⟩ = some (.int .i64 b) := (blk_cell Kg1.out 1).trans rfl; have fb_g1_1 := blk_frozen Kg1.out 1; have kb_g2_0 : w3.cell? ⟨g2, 0, none⟩ = some (.int .i64 0) := (blk_cell Kg2.out 0).trans rfl; have fb_g2_0 := blk_frozen Kg2.out 0; have kb_g2_1 : w3.cell? ⟨g2, 1, none⟩ = some (.int .i64 0) := (blk_cell Kg2.out 1).trans rfl; have fb_g2_1 := blk_frozen Kg2.out 1))
    refine bodyPost_ret (results_ct rfl _ _ g2 23 #[.int .i64 0, .int .i64 0] (0, 0) _ rfl (by refine blk_put (cs := #[.int .i64 0, .int .i64 0]) ?_ 1 _ rfl; refine blk_put (cs := #[.int .i64 0, .int .i64 0]) ?_ 0 _ rfl; exact Kg2.out) Try.underlying23 rfl (by kernel_rfl)) rfl ?_
    exact ⟨rfl, by repeat (first | (with_reducible exact HB.out) | refine below_set ?_ Gg1.out | refine below_set ?_ Gg2.out)⟩
def t45.T : Bool × List (List Nat × List Nat) := (true, [([], []), ([0], [0]), ([], []), ([2, 1], [2]), ([1, 3], [1, 3]), ([4, 3], [4]), ([5, 5, 0, 1, 2, 3, 4, 5], [5]), ([6, 0, 1, 2, 3, 4, 5, 6], [])])
def t45.B : List Nat := [0, 1, 0, 7, 15, 31, 63, 127]
theorem t45.tab : rtab .any (opsOf Try.f45 3) = t45.T := by kernel_rfl
theorem t45.bits : waitsOk t45.T.2 t45.B = true := by kernel_rfl
set_option maxHeartbeats 4000000 in
set_option maxRecDepth 100000 in
theorem times_ext (a b c d r1 r2 r3 : Int) (w : World) (h : (if M.right a b = true then if M.right c d = true then some ((M.mul (a, b) (c, d)).1, (M.mul (a, b) (c, d)).2, (0 : Int)) else some (0, 0, 20) else some (0, 0, 20)) = some (r1, r2, r3)) :
    Calls Try.prog 45 #[.agg #[.int .i64 a, .int .i64 b], .agg #[.int .i64 c, .int .i64 d]] w fun e w' => e = .returned (.tuple #[.agg #[.int .i64 r1, .int .i64 r2], .int .i64 r3]) ∧ Below w.heap.size w w' := by
  have hu23 := Try.underlying23
  have HB := Lib.hid (Below.refl w.heap.size w)
  by_cases hr : M.right a b = true
  · rw [if_pos hr] at h
    have cr := fun w => right_yes a b hr w
    by_cases hq : M.right c d = true
    · rw [if_pos hq] at h
      have cq := fun w => right_yes c d hq w
      obtain ⟨p, q, hm, hp, hq2⟩ := cmul_run (number_fi (a, b) hr) (number_fi (c, d) hq) hr hq
      have bb := bounds (x := (a, b)) (y := (c, d)) hr hq
      have cs := fun w => seal_calls p q _ _ hp hq2 bb.1 bb.2 w
      obtain ⟨rfl, rfl, rfl⟩ : (M.mul (a, b) (c, d)).1 = r1 ∧ (M.mul (a, b) (c, d)).2 = r2 ∧ 0 = r3 := by simpa using h
      change ∀ w, Calls Try.prog 70 #[.complex .f64 p q] w fun e w' => e = .returned (.agg #[.int .i64 (M.mul (a, b) (c, d)).1, .int .i64 (M.mul (a, b) (c, d)).2]) ∧ Below w.heap.size w w' at cs
      generalize (M.mul (a, b) (c, d)).1 = z1 at cs ⊢
      generalize (M.mul (a, b) (c, d)).2 = z2 at cs ⊢
      simp only at hm
      clear h hr hq hp hq2 bb
      go_enter Try.func45, Try.ntmps45
      go_wp2_with (first | ((with_reducible refine gate_dst (N := 2) rfl ?_); refine box_event ?hg (N := 2) ?hd (cs := #[.int .i64 a, .int .i64 b]) (t := 23) ?hr ?_; (case hd => rfl); (case hg => rfl); (case hr => first | (go_simp; done) | (go_simp; rfl)); intro g1 hg w1 hbox hb; have Gg1 := Lib.hid ((by rw [hg]; exact below_size HB.out) : w.heap.size ≤ g1); have nB := Lib.hid (below_step HB.out hb); clear HB; have HB := nB; clear nB; have Kg1 := Lib.hid hbox; clear hb hbox hg) | ((with_reducible refine gate_dst (N := 3) rfl ?_); refine box_event ?hg (N := 3) ?hd (cs := #[.int .i64 c, .int .i64 d]) (t := 23) ?hr ?_; (case hd => rfl); (case hg => rfl); (case hr => first | (go_simp; done) | (go_simp; rfl)); intro g2 hg w2 hbox hb; have Gg2 := Lib.hid ((by rw [hg]; exact below_size HB.out) : w.heap.size ≤ g2); have Ng1_g2 : Hid (g1 ≠ g2) := Lib.hid (by rw [hg]; exact Nat.ne_of_lt (blk_lt (g := g1) (o := .cells #[.int .i64 a, .int .i64 b] 23 (0, 0)) Kg1.out)); have Ng2_g1 : Hid (g2 ≠ g1) := Lib.hid (by rw [hg]; exact Nat.ne_of_gt (blk_lt (g := g1) (o := .cells #[.int .i64 a, .int .i64 b] 23 (0, 0)) Kg1.out)); have ng1 := Lib.hid (blk_below (g := g1) (o := .cells #[.int .i64 a, .int .i64 b] 23 (0, 0)) Kg1.out hb); clear Kg1; have Kg1 := ng1; clear ng1; have nB := Lib.hid (below_step HB.out hb); clear HB; have HB := nB; clear nB; have Kg2 := Lib.hid hbox; clear hb hbox hg) | ((with_reducible refine gate_dst (N := 4) rfl ?_); refine box_event ?hg (N := 4) ?hd (cs := #[.int .i64 0, .int .i64 0]) (t := 23) ?hr ?_; (case hd => rfl); (case hg => rfl); (case hr => first | (go_simp; done) | (go_simp; rfl)); intro g3 hg w3 hbox hb; have Gg3 := Lib.hid ((by rw [hg]; exact below_size HB.out) : w.heap.size ≤ g3); have Ng1_g3 : Hid (g1 ≠ g3) := Lib.hid (by rw [hg]; exact Nat.ne_of_lt (blk_lt (g := g1) (o := .cells #[.int .i64 a, .int .i64 b] 23 (0, 0)) Kg1.out)); have Ng3_g1 : Hid (g3 ≠ g1) := Lib.hid (by rw [hg]; exact Nat.ne_of_gt (blk_lt (g := g1) (o := .cells #[.int .i64 a, .int .i64 b] 23 (0, 0)) Kg1.out)); have Ng2_g3 : Hid (g2 ≠ g3) := Lib.hid (by rw [hg]; exact Nat.ne_of_lt (blk_lt (g := g2) (o := .cells #[.int .i64 c, .int .i64 d] 23 (0, 0)) Kg2.out)); have Ng3_g2 : Hid (g3 ≠ g2) := Lib.hid (by rw [hg]; exact Nat.ne_of_gt (blk_lt (g := g2) (o := .cells #[.int .i64 c, .int .i64 d] 23 (0, 0)) Kg2.out)); have ng1 := Lib.hid (blk_below (g := g1) (o := .cells #[.int .i64 a, .int .i64 b] 23 (0, 0)) Kg1.out hb); have ng2 := Lib.hid (blk_below (g := g2) (o := .cells #[.int .i64 c, .int .i64 d] 23 (0, 0)) Kg2.out hb); clear Kg1; have Kg1 := ng1; clear ng1; clear Kg2; have Kg2 := ng2; clear ng2; have nB := Lib.hid (below_step HB.out hb); clear HB; have HB := nB; clear nB; have Kg3 := Lib.hid hbox; clear hb hbox hg; have ka_g1_0 : w3.cell? ⟨g1, 0, none⟩ = some (.int .i64 a) := (blk_cell Kg1.out 0).trans rfl; have fa_g1_0 := blk_frozen Kg1.out 0; have ka_g1_1 : w3.cell? ⟨g1, 1, none⟩ = some (.int .i64 b) := (blk_cell Kg1.out 1).trans rfl; have fa_g1_1 := blk_frozen Kg1.out 1; have ka_g2_0 : w3.cell? ⟨g2, 0, none⟩ = some (.int .i64 c) := (blk_cell Kg2.out 0).trans rfl; have fa_g2_0 := blk_frozen Kg2.out 0; have ka_g2_1 : w3.cell? ⟨g2, 1, none⟩ = some (.int .i64 d) := (blk_cell Kg2.out 1).trans rfl; have fa_g2_1 := blk_frozen Kg2.out 1; have ka_g3_0 : w3.cell? ⟨g3, 0, none⟩ = some (.int .i64 0) := (blk_cell Kg3.out 0).trans rfl; have fa_g3_0 := blk_frozen Kg3.out 0; have ka_g3_1 : w3.cell? ⟨g3, 1, none⟩ = some (.int .i64 0) := (blk_cell Kg3.out 1).trans rfl; have fa_g3_1 := blk_frozen Kg3.out 1) | ((with_reducible refine (cr _).mono ?_); rintro e w4 ⟨rfl, hb⟩; have ng1 := Lib.hid (blk_below (g := g1) (o := .cells #[.int .i64 a, .int .i64 b] 23 (0, 0)) Kg1.out hb); clear Kg1; have Kg1 := ng1; clear ng1; have ng2 := Lib.hid (blk_below (g := g2) (o := .cells #[.int .i64 c, .int .i64 d] 23 (0, 0)) Kg2.out hb); clear Kg2; have Kg2 := ng2; clear ng2; have ng3 := Lib.hid (blk_below (g := g3) (o := .cells #[.int .i64 0, .int .i64 0] 23 (0, 0)) Kg3.out hb); clear Kg3; have Kg3 := ng3; clear ng3; have nB := Lib.hid (below_step HB.out hb); clear HB; have HB := nB; clear nB hb; have kb_g1_0 : w4.cell? ⟨g1, 0, none⟩ = some (.int .i64 a) := (blk_cell Kg1.out 0).trans rfl; have fb_g1_0 := blk_frozen Kg1.out 0; have kb_g1_1 : w4.cell? ⟨g1, 1, none⟩ = some (.int .i64 b) := (blk_cell Kg1.out 1).trans rfl; have fb_g1_1 := blk_frozen Kg1.out 1; have kb_g2_0 : w4.cell? ⟨g2, 0, none⟩ = some (.int .i64 c) := (blk_cell Kg2.out 0).trans rfl; have fb_g2_0 := blk_frozen Kg2.out 0; have kb_g2_1 : w4.cell? ⟨g2, 1, none⟩ = some (.int .i64 d) := (blk_cell Kg2.out 1).trans rfl; have fb_g2_1 := blk_frozen Kg2.out 1; have kb_g3_0 : w4.cell? ⟨g3, 0, none⟩ = some (.int .i64 0) := (blk_cell Kg3.out 0).trans rfl; have fb_g3_0 := blk_frozen Kg3.out 0; have kb_g3_1 : w4.cell? ⟨g3, 1, none⟩ = some (.int .i64 0) := (blk_cell Kg3.out 1).trans rfl; have fb_g3_1 := blk_frozen Kg3.out 1) | ((with_reducible refine (cq _).mono ?_); rintro e w5 ⟨rfl, hb⟩; have ng1 := Lib.hid (blk_below (g := g1) (o := .cells #[.int .i64 a, .int .i64 b] 23 (0, 0)) Kg1.out hb); clear Kg1; have Kg1 := ng1; clear ng1; have ng2 := Lib.hid (blk_below (g := g2) (o := .cells #[.int .i64 c, .int .i64 d] 23 (0, 0)) Kg2.out hb); clear Kg2; have Kg2 := ng2; clear ng2; have ng3 := Lib.hid (blk_below (g := g3) (o := .cells #[.int .i64 0, .int .i64 0] 23 (0, 0)) Kg3.out hb); clear Kg3; have Kg3 := ng3; clear ng3; have nB := Lib.hid (below_step HB.out hb); clear HB; have HB := nB; clear nB hb; have kc_g1_0 : w5.cell? ⟨g1, 0, none⟩ = some (.int .i64 a) := (blk_cell Kg1.out 0).trans rfl; have fc_g1_0 := blk_frozen Kg1.out 0; have kc_g1_1 : w5.cell? ⟨g1, 1, none⟩ = some (.int .i64 b) := (blk_cell Kg1.out 1).trans rfl; have fc_g1_1 := blk_frozen Kg1.out 1; have kc_g2_0 : w5.cell? ⟨g2, 0, none⟩ = some (.int .i64 c) := (blk_cell Kg2.out 0).trans rfl; have fc_g2_0 := blk_frozen Kg2.out 0; have kc_g2_1 : w5.cell? ⟨g2, 1, none⟩ = some (.int .i64 d) := (blk_cell Kg2.out 1).trans rfl; have fc_g2_1 := blk_frozen Kg2.out 1; have kc_g3_0 : w5.cell? ⟨g3, 0, none⟩ = some (.int .i64 0) := (blk_cell Kg3.out 0).trans rfl; have fc_g3_0 := blk_frozen Kg3.out 0; have kc_g3_1 : w5.cell? ⟨g3, 1, none⟩ = some (.int .i64 0) := (blk_cell Kg3.out 1).trans rfl; have fc_g3_1 := blk_frozen Kg3.out 1))
      have ng1 := Lib.hid (blk_drew Kg1.out)
      clear Kg1
      have Kg1 := ng1
      clear ng1
      have ng2 := Lib.hid (blk_drew Kg2.out)
      clear Kg2
      have Kg2 := ng2
      clear ng2
      have ng3 := Lib.hid (blk_drew Kg3.out)
      clear Kg3
      have Kg3 := ng3
      clear ng3
      have nB := Lib.hid (below_drew1 HB.out)
      clear HB
      have HB := nB
      clear nB
      refine start_ (n := 8) (S := fun w' => w'.cell? ⟨g1, 0, none⟩ = some (.int .i64 a) ∧ w'.cell? ⟨g1, 1, none⟩ = some (.int .i64 b) ∧ w'.cell? ⟨g2, 0, none⟩ = some (.int .i64 c) ∧ w'.cell? ⟨g2, 1, none⟩ = some (.int .i64 d)) (ds := []) #[false, false, false, false, false, false, false, false] (by kernel_rfl) rfl rfl ⟨(blk_cell Kg1.out 0).trans rfl, (blk_cell Kg1.out 1).trans rfl, (blk_cell Kg2.out 0).trans rfl, (blk_cell Kg2.out 1).trans rfl⟩ (fun hHeld => ?_); refine with_tabW t45.tab t45.bits (fun HT_ HW_ => ?_)
      generalize w5.drew = w8 at Kg1 Kg2 Kg3 HB hHeld ⊢
      refine take_ (i := 0) (N := some 15) (v := ?_) (a' := ?_) #[true, false, false, false, false, false, false, false] rfl rfl (take_ofW HT_.out HW_.out (by kernel_rfl)) (fun _ _ _ h => h) (Or.inl ⟨by rfl, ?_⟩) hHeld ?_ ?_
      rotate_left
      · rintro w' ⟨s0, s1, s2, s3⟩
        go_simp
        with_reducible rfl
      rotate_left
      · simp only [Act.put, List.setIfInBounds_toArray, List.set_cons_zero, List.set_cons_succ, i64_w, i32_w]
        rfl
      refine take_ (i := 2) (N := some 17) (v := ?_) (a' := ?_) #[true, false, true, false, false, false, false, false] rfl rfl (take_ofW HT_.out HW_.out (by kernel_rfl)) (fun _ _ _ h => h) (Or.inl ⟨by rfl, ?_⟩) hHeld ?_ ?_
      rotate_left
      · rintro w' ⟨s0, s1, s2, s3⟩
        go_simp
        with_reducible rfl
      rotate_left
      · simp only [Act.put, List.setIfInBounds_toArray, List.set_cons_zero, List.set_cons_succ, i64_w, i32_w]
        rfl
      refine one_ (i := 1) (N := some 16) #[true, true, true, false, false, false, false, false] rfl rfl (one_of HT_.out (by kernel_rfl)) (by decide) (fun K hK => ?_)
      refine goes_ Try.func69 (by kernel_rfl) rfl #[.agg #[.int .i64 a, .int .i64 b]] (by rfl) rfl rfl (by (try simp only [List.map_toArray, List.map_cons, List.map_nil]); first | done | rfl) ?_
      with_reducible refine (number_calls a b _).mono ?_
      rintro e w21 ⟨rfl, hb⟩
      refine ⟨_, rfl, ?_⟩
      have ng1 := Lib.hid (blk_below (g := g1) (o := .cells #[.int .i64 a, .int .i64 b] 23 (0, 0)) Kg1.out hb)
      clear Kg1
      have Kg1 := ng1
      clear ng1
      have ng2 := Lib.hid (blk_below (g := g2) (o := .cells #[.int .i64 c, .int .i64 d] 23 (0, 0)) Kg2.out hb)
      clear Kg2
      have Kg2 := ng2
      clear ng2
      have ng3 := Lib.hid (blk_below (g := g3) (o := .cells #[.int .i64 0, .int .i64 0] 23 (0, 0)) Kg3.out hb)
      clear Kg3
      have Kg3 := ng3
      clear ng3
      have nB := Lib.hid (below_step HB.out hb)
      clear HB
      have HB := nB
      clear nB hb
      refine hK.out _ _ ⟨(blk_cell Kg1.out 0).trans rfl, (blk_cell Kg1.out 1).trans rfl, (blk_cell Kg2.out 0).trans rfl, (blk_cell Kg2.out 1).trans rfl⟩ (fun hHeld => ?_)
      clear hK K
      refine norm_ (a' := ?_) ?_ ?_
      rotate_left
      · show Act.put _ (some 16) _ = _
        simp only [Act.put, List.setIfInBounds_toArray, List.set_cons_zero, List.set_cons_succ, i64_w, i32_w]
        rfl
      refine one_ (i := 3) (N := some 18) #[true, true, true, true, false, false, false, false] rfl rfl (one_of HT_.out (by kernel_rfl)) (by decide) (fun K hK => ?_)
      refine goes_ Try.func69 (by kernel_rfl) rfl #[.agg #[.int .i64 c, .int .i64 d]] (by rfl) rfl rfl (by (try simp only [List.map_toArray, List.map_cons, List.map_nil]); first | done | rfl) ?_
      with_reducible refine (number_calls c d _).mono ?_
      rintro e w22 ⟨rfl, hb⟩
      refine ⟨_, rfl, ?_⟩
      have ng1 := Lib.hid (blk_below (g := g1) (o := .cells #[.int .i64 a, .int .i64 b] 23 (0, 0)) Kg1.out hb)
      clear Kg1
      have Kg1 := ng1
      clear ng1
      have ng2 := Lib.hid (blk_below (g := g2) (o := .cells #[.int .i64 c, .int .i64 d] 23 (0, 0)) Kg2.out hb)
      clear Kg2
      have Kg2 := ng2
      clear ng2
      have ng3 := Lib.hid (blk_below (g := g3) (o := .cells #[.int .i64 0, .int .i64 0] 23 (0, 0)) Kg3.out hb)
      clear Kg3
      have Kg3 := ng3
      clear ng3
      have nB := Lib.hid (below_step HB.out hb)
      clear HB
      have HB := nB
      clear nB hb
      refine hK.out _ _ ⟨(blk_cell Kg1.out 0).trans rfl, (blk_cell Kg1.out 1).trans rfl, (blk_cell Kg2.out 0).trans rfl, (blk_cell Kg2.out 1).trans rfl⟩ (fun hHeld => ?_)
      clear hK K
      refine norm_ (a' := ?_) ?_ ?_
      rotate_left
      · show Act.put _ (some 18) _ = _
        simp only [Act.put, List.setIfInBounds_toArray, List.set_cons_zero, List.set_cons_succ, i64_w, i32_w]
        rfl
      refine pure_ (i := 4) (N := some 19) (v := ?_) (a' := ?_) #[true, true, true, true, true, false, false, false] rfl rfl (any_of HT_.out (by kernel_rfl)) (fun _ _ _ h => h) (Or.inl ⟨by rfl, ?_⟩) ?_ ?_
      rotate_left
      · intro w'
        go_simp
        with_reducible rfl
      rotate_left
      · simp only [Act.put, List.setIfInBounds_toArray, List.set_cons_zero, List.set_cons_succ, i64_w, i32_w]
        rfl
      refine one_ (i := 5) (N := some 20) #[true, true, true, true, true, true, false, false] rfl rfl (one_of HT_.out (by kernel_rfl)) (by decide) (fun K hK => ?_)
      refine goes_ Try.func70 (by kernel_rfl) rfl #[.complex .f64 p q] (by rfl) rfl rfl (by (try simp only [List.map_toArray, List.map_cons, List.map_nil]); first | done | rfl) ?_
      with_reducible refine (cs _).mono ?_
      rintro e w23 ⟨rfl, hb⟩
      refine ⟨_, rfl, ?_⟩
      have ng1 := Lib.hid (blk_below (g := g1) (o := .cells #[.int .i64 a, .int .i64 b] 23 (0, 0)) Kg1.out hb)
      clear Kg1
      have Kg1 := ng1
      clear ng1
      have ng2 := Lib.hid (blk_below (g := g2) (o := .cells #[.int .i64 c, .int .i64 d] 23 (0, 0)) Kg2.out hb)
      clear Kg2
      have Kg2 := ng2
      clear ng2
      have ng3 := Lib.hid (blk_below (g := g3) (o := .cells #[.int .i64 0, .int .i64 0] 23 (0, 0)) Kg3.out hb)
      clear Kg3
      have Kg3 := ng3
      clear ng3
      have nB := Lib.hid (below_step HB.out hb)
      clear HB
      have HB := nB
      clear nB hb
      refine hK.out _ _ ⟨(blk_cell Kg1.out 0).trans rfl, (blk_cell Kg1.out 1).trans rfl, (blk_cell Kg2.out 0).trans rfl, (blk_cell Kg2.out 1).trans rfl⟩ (fun hHeld => ?_)
      clear hK K
      refine norm_ (a' := ?_) ?_ ?_
      rotate_left
      · show Act.put _ (some 20) _ = _
        simp only [Act.put, List.setIfInBounds_toArray, List.set_cons_zero, List.set_cons_succ, i64_w, i32_w]
        rfl
      refine one_ (i := 6) (N := none) #[true, true, true, true, true, true, true, false] rfl rfl (one_of HT_.out (by kernel_rfl)) (by decide) (fun K hK => ?_)
      have hs0 : w23.cell? ⟨g3, 0, none⟩ = some (.int .i64 0) := (blk_cell Kg3.out 0).trans rfl
      have hfs0 := blk_frozen Kg3.out 0
      have hs1 : w23.cell? ⟨g3, 1, none⟩ = some (.int .i64 0) := (blk_cell Kg3.out 1).trans rfl
      have hfs1 := blk_frozen Kg3.out 1
      have hn_g1 := Ng1_g3.out
      have hm_g1 := Ng3_g1.out
      have hn_g2 := Ng2_g3.out
      have hm_g2 := Ng3_g2.out
      refine skip_ (w1 := ?_) (by rfl) rfl ?_ ?_
      rotate_left
      · go_simp
        rfl
      refine hK.out _ _ ⟨((cell_far (p := ⟨g3, _, none⟩) Ng1_g3.out _).trans ((cell_far (p := ⟨g3, _, none⟩) Ng1_g3.out _).trans hHeld.1)), ((cell_far (p := ⟨g3, _, none⟩) Ng1_g3.out _).trans ((cell_far (p := ⟨g3, _, none⟩) Ng1_g3.out _).trans hHeld.2.1)), ((cell_far (p := ⟨g3, _, none⟩) Ng2_g3.out _).trans ((cell_far (p := ⟨g3, _, none⟩) Ng2_g3.out _).trans hHeld.2.2.1)), ((cell_far (p := ⟨g3, _, none⟩) Ng2_g3.out _).trans ((cell_far (p := ⟨g3, _, none⟩) Ng2_g3.out _).trans hHeld.2.2.2))⟩ (fun hHeld => ?_)
      clear hK K
      refine pure_ (i := 7) (N := some 5) (v := ?_) (a' := ?_) #[true, true, true, true, true, true, true, true] rfl rfl (any_of HT_.out (by kernel_rfl)) (fun _ _ _ h => h) (Or.inl ⟨by rfl, ?_⟩) ?_ ?_
      rotate_left
      · intro w'
        go_simp
        with_reducible rfl
      rotate_left
      · simp only [Act.put, List.setIfInBounds_toArray, List.set_cons_zero, List.set_cons_succ, i64_w, i32_w]
        rfl
      refine done_ (done_of HT_.out (by kernel_rfl)) ?_
      try go_wp2
      refine bodyPost_ret (results_ct rfl _ _ g3 23 #[.int .i64 z1, .int .i64 z2] (0, 0) _ rfl (by refine blk_put (cs := #[.int .i64 z1, .int .i64 0]) ?_ 1 _ rfl; refine blk_put (cs := #[.int .i64 0, .int .i64 0]) ?_ 0 _ rfl; exact Kg3.out) Try.underlying23 rfl (by kernel_rfl)) rfl ?_
      exact ⟨rfl, by repeat (first | (with_reducible exact HB.out) | refine below_set ?_ Gg1.out | refine below_set ?_ Gg2.out | refine below_set ?_ Gg3.out)⟩
    · rw [if_neg hq] at h
      have hq2 := Bool.eq_false_iff.2 hq
      have cq := fun w => right_no c d hq2 w
      obtain ⟨rfl, rfl, rfl⟩ : 0 = r1 ∧ 0 = r2 ∧ 20 = r3 := by simpa using h
      clear h hr hq hq2
      go_enter Try.func45, Try.ntmps45
      go_wp2_with (first | ((with_reducible refine gate_dst (N := 2) rfl ?_); refine box_event ?hg (N := 2) ?hd (cs := #[.int .i64 a, .int .i64 b]) (t := 23) ?hr ?_; (case hd => rfl); (case hg => rfl); (case hr => first | (go_simp; done) | (go_simp; rfl)); intro g1 hg w1 hbox hb; have Gg1 := Lib.hid ((by rw [hg]; exact below_size HB.out) : w.heap.size ≤ g1); have nB := Lib.hid (below_step HB.out hb); clear HB; have HB := nB; clear nB; have Kg1 := Lib.hid hbox; clear hb hbox hg) | ((with_reducible refine gate_dst (N := 3) rfl ?_); refine box_event ?hg (N := 3) ?hd (cs := #[.int .i64 c, .int .i64 d]) (t := 23) ?hr ?_; (case hd => rfl); (case hg => rfl); (case hr => first | (go_simp; done) | (go_simp; rfl)); intro g2 hg w2 hbox hb; have Gg2 := Lib.hid ((by rw [hg]; exact below_size HB.out) : w.heap.size ≤ g2); have Ng1_g2 : Hid (g1 ≠ g2) := Lib.hid (by rw [hg]; exact Nat.ne_of_lt (blk_lt (g := g1) (o := .cells #[.int .i64 a, .int .i64 b] 23 (0, 0)) Kg1.out)); have Ng2_g1 : Hid (g2 ≠ g1) := Lib.hid (by rw [hg]; exact Nat.ne_of_gt (blk_lt (g := g1) (o := .cells #[.int .i64 a, .int .i64 b] 23 (0, 0)) Kg1.out)); have ng1 := Lib.hid (blk_below (g := g1) (o := .cells #[.int .i64 a, .int .i64 b] 23 (0, 0)) Kg1.out hb); clear Kg1; have Kg1 := ng1; clear ng1; have nB := Lib.hid (below_step HB.out hb); clear HB; have HB := nB; clear nB; have Kg2 := Lib.hid hbox; clear hb hbox hg) | ((with_reducible refine gate_dst (N := 4) rfl ?_); refine box_event ?hg (N := 4) ?hd (cs := #[.int .i64 0, .int .i64 0]) (t := 23) ?hr ?_; (case hd => rfl); (case hg => rfl); (case hr => first | (go_simp; done) | (go_simp; rfl)); intro g3 hg w3 hbox hb; have Gg3 := Lib.hid ((by rw [hg]; exact below_size HB.out) : w.heap.size ≤ g3); have Ng1_g3 : Hid (g1 ≠ g3) := Lib.hid (by rw [hg]; exact Nat.ne_of_lt (blk_lt (g := g1) (o := .cells #[.int .i64 a, .int .i64 b] 23 (0, 0)) Kg1.out)); have Ng3_g1 : Hid (g3 ≠ g1) := Lib.hid (by rw [hg]; exact Nat.ne_of_gt (blk_lt (g := g1) (o := .cells #[.int .i64 a, .int .i64 b] 23 (0, 0)) Kg1.out)); have Ng2_g3 : Hid (g2 ≠ g3) := Lib.hid (by rw [hg]; exact Nat.ne_of_lt (blk_lt (g := g2) (o := .cells #[.int .i64 c, .int .i64 d] 23 (0, 0)) Kg2.out)); have Ng3_g2 : Hid (g3 ≠ g2) := Lib.hid (by rw [hg]; exact Nat.ne_of_gt (blk_lt (g := g2) (o := .cells #[.int .i64 c, .int .i64 d] 23 (0, 0)) Kg2.out)); have ng1 := Lib.hid (blk_below (g := g1) (o := .cells #[.int .i64 a, .int .i64 b] 23 (0, 0)) Kg1.out hb); have ng2 := Lib.hid (blk_below (g := g2) (o := .cells #[.int .i64 c, .int .i64 d] 23 (0, 0)) Kg2.out hb); clear Kg1; have Kg1 := ng1; clear ng1; clear Kg2; have Kg2 := ng2; clear ng2; have nB := Lib.hid (below_step HB.out hb); clear HB; have HB := nB; clear nB; have Kg3 := Lib.hid hbox; clear hb hbox hg; have ka_g1_0 : w3.cell? ⟨g1, 0, none⟩ = some (.int .i64 a) := (blk_cell Kg1.out 0).trans rfl; have fa_g1_0 := blk_frozen Kg1.out 0; have ka_g1_1 : w3.cell? ⟨g1, 1, none⟩ = some (.int .i64 b) := (blk_cell Kg1.out 1).trans rfl; have fa_g1_1 := blk_frozen Kg1.out 1; have ka_g2_0 : w3.cell? ⟨g2, 0, none⟩ = some (.int .i64 c) := (blk_cell Kg2.out 0).trans rfl; have fa_g2_0 := blk_frozen Kg2.out 0; have ka_g2_1 : w3.cell? ⟨g2, 1, none⟩ = some (.int .i64 d) := (blk_cell Kg2.out 1).trans rfl; have fa_g2_1 := blk_frozen Kg2.out 1; have ka_g3_0 : w3.cell? ⟨g3, 0, none⟩ = some (.int .i64 0) := (blk_cell Kg3.out 0).trans rfl; have fa_g3_0 := blk_frozen Kg3.out 0; have ka_g3_1 : w3.cell? ⟨g3, 1, none⟩ = some (.int .i64 0) := (blk_cell Kg3.out 1).trans rfl; have fa_g3_1 := blk_frozen Kg3.out 1) | ((with_reducible refine (cr _).mono ?_); rintro e w4 ⟨rfl, hb⟩; have ng1 := Lib.hid (blk_below (g := g1) (o := .cells #[.int .i64 a, .int .i64 b] 23 (0, 0)) Kg1.out hb); clear Kg1; have Kg1 := ng1; clear ng1; have ng2 := Lib.hid (blk_below (g := g2) (o := .cells #[.int .i64 c, .int .i64 d] 23 (0, 0)) Kg2.out hb); clear Kg2; have Kg2 := ng2; clear ng2; have ng3 := Lib.hid (blk_below (g := g3) (o := .cells #[.int .i64 0, .int .i64 0] 23 (0, 0)) Kg3.out hb); clear Kg3; have Kg3 := ng3; clear ng3; have nB := Lib.hid (below_step HB.out hb); clear HB; have HB := nB; clear nB hb; have kb_g1_0 : w4.cell? ⟨g1, 0, none⟩ = some (.int .i64 a) := (blk_cell Kg1.out 0).trans rfl; have fb_g1_0 := blk_frozen Kg1.out 0; have kb_g1_1 : w4.cell? ⟨g1, 1, none⟩ = some (.int .i64 b) := (blk_cell Kg1.out 1).trans rfl; have fb_g1_1 := blk_frozen Kg1.out 1; have kb_g2_0 : w4.cell? ⟨g2, 0, none⟩ = some (.int .i64 c) := (blk_cell Kg2.out 0).trans rfl; have fb_g2_0 := blk_frozen Kg2.out 0; have kb_g2_1 : w4.cell? ⟨g2, 1, none⟩ = some (.int .i64 d) := (blk_cell Kg2.out 1).trans rfl; have fb_g2_1 := blk_frozen Kg2.out 1; have kb_g3_0 : w4.cell? ⟨g3, 0, none⟩ = some (.int .i64 0) := (blk_cell Kg3.out 0).trans rfl; have fb_g3_0 := blk_frozen Kg3.out 0; have kb_g3_1 : w4.cell? ⟨g3, 1, none⟩ = some (.int .i64 0) := (blk_cell Kg3.out 1).trans rfl; have fb_g3_1 := blk_frozen Kg3.out 1) | ((with_reducible refine (cq _).mono ?_); rintro e w5 ⟨rfl, hb⟩; have ng1 := Lib.hid (blk_below (g := g1) (o := .cells #[.int .i64 a, .int .i64 b] 23 (0, 0)) Kg1.out hb); clear Kg1; have Kg1 := ng1; clear ng1; have ng2 := Lib.hid (blk_below (g := g2) (o := .cells #[.int .i64 c, .int .i64 d] 23 (0, 0)) Kg2.out hb); clear Kg2; have Kg2 := ng2; clear ng2; have ng3 := Lib.hid (blk_below (g := g3) (o := .cells #[.int .i64 0, .int .i64 0] 23 (0, 0)) Kg3.out hb); clear Kg3; have Kg3 := ng3; clear ng3; have nB := Lib.hid (below_step HB.out hb); clear HB; have HB := nB; clear nB hb; have kc_g1_0 : w5.cell? ⟨g1, 0, none⟩ = some (.int .i64 a) := (blk_cell Kg1.out 0).trans rfl; have fc_g1_0 := blk_frozen Kg1.out 0; have kc_g1_1 : w5.cell? ⟨g1, 1, none⟩ = some (.int .i64 b) := (blk_cell Kg1.out 1).trans rfl; have fc_g1_1 := blk_frozen Kg1.out 1; have kc_g2_0 : w5.cell? ⟨g2, 0, none⟩ = some (.int .i64 c) := (blk_cell Kg2.out 0).trans rfl; have fc_g2_0 := blk_frozen Kg2.out 0; have kc_g2_1 : w5.cell? ⟨g2, 1, none⟩ = some (.int .i64 d) := (blk_cell Kg2.out 1).trans rfl; have fc_g2_1 := blk_frozen Kg2.out 1; have kc_g3_0 : w5.cell? ⟨g3, 0, none⟩ = some (.int .i64 0) := (blk_cell Kg3.out 0).trans rfl; have fc_g3_0 := blk_frozen Kg3.out 0; have kc_g3_1 : w5.cell? ⟨g3, 1, none⟩ = some (.int .i64 0) := (blk_cell Kg3.out 1).trans rfl; have fc_g3_1 := blk_frozen Kg3.out 1))
      refine bodyPost_ret (results_ct rfl _ _ g3 23 #[.int .i64 0, .int .i64 0] (0, 0) _ rfl (by refine blk_put (cs := #[.int .i64 0, .int .i64 0]) ?_ 1 _ rfl; refine blk_put (cs := #[.int .i64 0, .int .i64 0]) ?_ 0 _ rfl; exact Kg3.out) Try.underlying23 rfl (by kernel_rfl)) rfl ?_
      exact ⟨rfl, by repeat (first | (with_reducible exact HB.out) | refine below_set ?_ Gg1.out | refine below_set ?_ Gg2.out | refine below_set ?_ Gg3.out)⟩
  · have hr2 := Bool.eq_false_iff.2 hr
    rw [if_neg hr] at h
    have cr := fun w => right_no a b hr2 w
    obtain ⟨rfl, rfl, rfl⟩ : 0 = r1 ∧ 0 = r2 ∧ 20 = r3 := by simpa using h
    clear h hr hr2
    go_enter Try.func45, Try.ntmps45
    go_wp2_with (first | ((with_reducible refine gate_dst (N := 2) rfl ?_); refine box_event ?hg (N := 2) ?hd (cs := #[.int .i64 a, .int .i64 b]) (t := 23) ?hr ?_; (case hd => rfl); (case hg => rfl); (case hr => first | (go_simp; done) | (go_simp; rfl)); intro g1 hg w1 hbox hb; have Gg1 := Lib.hid ((by rw [hg]; exact below_size HB.out) : w.heap.size ≤ g1); have nB := Lib.hid (below_step HB.out hb); clear HB; have HB := nB; clear nB; have Kg1 := Lib.hid hbox; clear hb hbox hg) | ((with_reducible refine gate_dst (N := 3) rfl ?_); refine box_event ?hg (N := 3) ?hd (cs := #[.int .i64 c, .int .i64 d]) (t := 23) ?hr ?_; (case hd => rfl); (case hg => rfl); (case hr => first | (go_simp; done) | (go_simp; rfl)); intro g2 hg w2 hbox hb; have Gg2 := Lib.hid ((by rw [hg]; exact below_size HB.out) : w.heap.size ≤ g2); have Ng1_g2 : Hid (g1 ≠ g2) := Lib.hid (by rw [hg]; exact Nat.ne_of_lt (blk_lt (g := g1) (o := .cells #[.int .i64 a, .int .i64 b] 23 (0, 0)) Kg1.out)); have Ng2_g1 : Hid (g2 ≠ g1) := Lib.hid (by rw [hg]; exact Nat.ne_of_gt (blk_lt (g := g1) (o := .cells #[.int .i64 a, .int .i64 b] 23 (0, 0)) Kg1.out)); have ng1 := Lib.hid (blk_below (g := g1) (o := .cells #[.int .i64 a, .int .i64 b] 23 (0, 0)) Kg1.out hb); clear Kg1; have Kg1 := ng1; clear ng1; have nB := Lib.hid (below_step HB.out hb); clear HB; have HB := nB; clear nB; have Kg2 := Lib.hid hbox; clear hb hbox hg) | ((with_reducible refine gate_dst (N := 4) rfl ?_); refine box_event ?hg (N := 4) ?hd (cs := #[.int .i64 0, .int .i64 0]) (t := 23) ?hr ?_; (case hd => rfl); (case hg => rfl); (case hr => first | (go_simp; done) | (go_simp; rfl)); intro g3 hg w3 hbox hb; have Gg3 := Lib.hid ((by rw [hg]; exact below_size HB.out) : w.heap.size ≤ g3); have Ng1_g3 : Hid (g1 ≠ g3) := Lib.hid (by rw [hg]; exact Nat.ne_of_lt (blk_lt (g := g1) (o := .cells #[.int .i64 a, .int .i64 b] 23 (0, 0)) Kg1.out)); have Ng3_g1 : Hid (g3 ≠ g1) := Lib.hid (by rw [hg]; exact Nat.ne_of_gt (blk_lt (g := g1) (o := .cells #[.int .i64 a, .int .i64 b] 23 (0, 0)) Kg1.out)); have Ng2_g3 : Hid (g2 ≠ g3) := Lib.hid (by rw [hg]; exact Nat.ne_of_lt (blk_lt (g := g2) (o := .cells #[.int .i64 c, .int .i64 d] 23 (0, 0)) Kg2.out)); have Ng3_g2 : Hid (g3 ≠ g2) := Lib.hid (by rw [hg]; exact Nat.ne_of_gt (blk_lt (g := g2) (o := .cells #[.int .i64 c, .int .i64 d] 23 (0, 0)) Kg2.out)); have ng1 := Lib.hid (blk_below (g := g1) (o := .cells #[.int .i64 a, .int .i64 b] 23 (0, 0)) Kg1.out hb); have ng2 := Lib.hid (blk_below (g := g2) (o := .cells #[.int .i64 c, .int .i64 d] 23 (0, 0)) Kg2.out hb); clear Kg1; have Kg1 := ng1; clear ng1; clear Kg2; have Kg2 := ng2; clear ng2; have nB := Lib.hid (below_step HB.out hb); clear HB; have HB := nB; clear nB; have Kg3 := Lib.hid hbox; clear hb hbox hg; have ka_g1_0 : w3.cell? ⟨g1, 0, none⟩ = some (.int .i64 a) := (blk_cell Kg1.out 0).trans rfl; have fa_g1_0 := blk_frozen Kg1.out 0; have ka_g1_1 : w3.cell? ⟨g1, 1, none⟩ = some (.int .i64 b) := (blk_cell Kg1.out 1).trans rfl; have fa_g1_1 := blk_frozen Kg1.out 1; have ka_g2_0 : w3.cell? ⟨g2, 0, none⟩ = some (.int .i64 c) := (blk_cell Kg2.out 0).trans rfl; have fa_g2_0 := blk_frozen Kg2.out 0; have ka_g2_1 : w3.cell? ⟨g2, 1, none⟩ = some (.int .i64 d) := (blk_cell Kg2.out 1).trans rfl; have fa_g2_1 := blk_frozen Kg2.out 1; have ka_g3_0 : w3.cell? ⟨g3, 0, none⟩ = some (.int .i64 0) := (blk_cell Kg3.out 0).trans rfl; have fa_g3_0 := blk_frozen Kg3.out 0; have ka_g3_1 : w3.cell? ⟨g3, 1, none⟩ = some (.int .i64 0) := (blk_cell Kg3.out 1).trans rfl; have fa_g3_1 := blk_frozen Kg3.out 1) | ((with_reducible refine (cr _).mono ?_); rintro e w4 ⟨rfl, hb⟩; have ng1 := Lib.hid (blk_below (g := g1) (o := .cells #[.int .i64 a, .int .i64 b] 23 (0, 0)) Kg1.out hb); clear Kg1; have Kg1 := ng1; clear ng1; have ng2 := Lib.hid (blk_below (g := g2) (o := .cells #[.int .i64 c, .int .i64 d] 23 (0, 0)) Kg2.out hb); clear Kg2; have Kg2 := ng2; clear ng2; have ng3 := Lib.hid (blk_below (g := g3) (o := .cells #[.int .i64 0, .int .i64 0] 23 (0, 0)) Kg3.out hb); clear Kg3; have Kg3 := ng3; clear ng3; have nB := Lib.hid (below_step HB.out hb); clear HB; have HB := nB; clear nB hb; have kb_g1_0 : w4.cell? ⟨g1, 0, none⟩ = some (.int .i64 a) := (blk_cell Kg1.out 0).trans rfl; have fb_g1_0 := blk_frozen Kg1.out 0; have kb_g1_1 : w4.cell? ⟨g1, 1, none⟩ = some (.int .i64 b) := (blk_cell Kg1.out 1).trans rfl; have fb_g1_1 := blk_frozen Kg1.out 1; have kb_g2_0 : w4.cell? ⟨g2, 0, none⟩ = some (.int .i64 c) := (blk_cell Kg2.out 0).trans rfl; have fb_g2_0 := blk_frozen Kg2.out 0; have kb_g2_1 : w4.cell? ⟨g2, 1, none⟩ = some (.int .i64 d) := (blk_cell Kg2.out 1).trans rfl; have fb_g2_1 := blk_frozen Kg2.out 1; have kb_g3_0 : w4.cell? ⟨g3, 0, none⟩ = some (.int .i64 0) := (blk_cell Kg3.out 0).trans rfl; have fb_g3_0 := blk_frozen Kg3.out 0; have kb_g3_1 : w4.cell? ⟨g3, 1, none⟩ = some (.int .i64 0) := (blk_cell Kg3.out 1).trans rfl; have fb_g3_1 := blk_frozen Kg3.out 1))
    refine bodyPost_ret (results_ct rfl _ _ g3 23 #[.int .i64 0, .int .i64 0] (0, 0) _ rfl (by refine blk_put (cs := #[.int .i64 0, .int .i64 0]) ?_ 1 _ rfl; refine blk_put (cs := #[.int .i64 0, .int .i64 0]) ?_ 0 _ rfl; exact Kg3.out) Try.underlying23 rfl (by kernel_rfl)) rfl ?_
    exact ⟨rfl, by repeat (first | (with_reducible exact HB.out) | refine below_set ?_ Gg1.out | refine below_set ?_ Gg2.out | refine below_set ?_ Gg3.out)⟩
def t40.T : Bool × List (List Nat × List Nat) := (true, [([], []), ([0], [0]), ([1], []), ([2, 2], [2]), ([1, 3], [1, 3]), ([], []), ([4, 5], [4, 5]), ([], []), ([7, 3], [7]), ([6, 8], [6, 8]), ([9, 8], [9]), ([10, 10, 0, 1, 2, 3, 4, 5, 6, 7, 8, 9, 10], [10]), ([11, 0, 1, 2, 3, 4, 5, 6, 7, 8, 9, 10, 11], [])])
def t40.B : List Nat := [0, 1, 3, 7, 15, 0, 63, 0, 143, 511, 1023, 2047, 4095]
theorem t40.tab : rtab .any (opsOf Try.f40 6) = t40.T := by kernel_rfl
theorem t40.bits : waitsOk t40.T.2 t40.B = true := by kernel_rfl
theorem add_run {v : Value} {x : Int × Int} {c : Int} (hv : CI v x) (hx : M.right x.1 x.2 = true) (h0 : 0 ≤ c) (h1 : c < 256) :
    ∃ r p q p2 q2, (∀ w t, (binOp .add t (.float .f64 (floatOfInt .f64 c)) (.float .f64 4607182418800017408)).run Try.prog w = .ok (.float .f64 r) w) ∧ (∀ w t, (binOp .mul t v (.complex .f64 4679482798749253632 4689970232712757248)).run Try.prog w = .ok (.complex .f64 p q) w) ∧
      (∀ w t, (binOp .add t (.complex .f64 p q) (.complex .f64 r 0)).run Try.prog w = .ok (.complex .f64 p2 q2) w) ∧ (∀ w, Calls Try.prog 70 #[.complex .f64 p2 q2] w fun e w' => e = .returned (.agg #[.int .i64 (M.step x c).1, .int .i64 (M.step x c).2]) ∧ Below w.heap.size w w') := by
  obtain ⟨p0, q0, rfl, f1, f2⟩ := hv
  obtain ⟨a1, a2, a3, a4⟩ := M.right_iff.1 hx
  obtain ⟨r, e1, g1⟩ := M.add_int (M.fl_int c (by omega)) M.fi_one (by omega)
  obtain ⟨p, q, e2, g2, g3⟩ := M.cmul_int f1 f2 M.fi_wre M.fi_wim (by omega) (by omega) (by omega) (by omega)
  obtain ⟨p2, q2, e3, g4, g5⟩ := M.cadd_int g2 g3 g1 M.fi_zero (by omega) (by omega)
  refine ⟨r, p, q, p2, q2, fun w t => run_float_arith w .add t .f64 _ _ _ e1, fun w t => run_complex_mul w t _ _ _ _ _ _ e2, fun w t => run_complex_sum w .add (.inl rfl) t _ _ _ _ _ _ _ e3, fun w => ?_⟩
  have := seal_calls p2 q2 _ _ g4 g5 (by omega) (by omega) w
  rw [Int.add_zero] at this
  exact this
theorem seal_right {v : Value} {x : Int × Int} (hv : CI v x) (hx : M.right x.1 x.2 = true) (w : World) : Calls Try.prog 70 #[v] w fun e w' => e = .returned (.agg #[.int .i64 x.1, .int .i64 x.2]) ∧ Below w.heap.size w w' := by
  obtain ⟨p, q, rfl, hp, hq⟩ := hv
  obtain ⟨a1, a2, a3, a4⟩ := M.right_iff.1 hx
  have := seal_calls p q _ _ hp hq (by omega) (by omega) w
  rw [show x.1 % 16777199 = x.1 by omega, show x.2 % 16777199 = x.2 by omega] at this
  exact this
set_option maxHeartbeats 4000000 in
set_option maxRecDepth 100000 in
theorem add_ext (a b : Int) (A : Option Addr) (cap : Nat) (l : List Int) (r1 r2 r3 : Int) (w : World) (hr : Kd.C (Kd.int .u8) w A l.length l) (hc : l.length ≤ cap) (h : (if M.right a b = true then if M.bytes l = true then if (l.length : Int) ≤ 9223372036854775807 then some ((M.add (a, b) l).1, (M.add (a, b) l).2, (0 : Int)) else none else none else some (0, 0, 20)) = some (r1, r2, r3)) :
    Calls Try.prog 27 #[.agg #[.int .i64 a, .int .i64 b], .slice A l.length cap] w fun e w' => e = .returned (.tuple #[.agg #[.int .i64 r1, .int .i64 r2], .int .i64 r3]) ∧ Below w.heap.size w w' := by
  have hu23 := Try.underlying23
  have HB := Lib.hid (Below.refl w.heap.size w)
  have HR := Lib.hid hr
  clear hr hc
  by_cases hy : M.right a b = true
  · rw [if_pos hy] at h
    have cr := fun w => right_yes a b hy w
    by_cases hby : M.bytes l = true
    · rw [if_pos hby] at h
      by_cases hlen : (l.length : Int) ≤ 9223372036854775807
      · rw [if_pos hlen] at h
        obtain ⟨rfl, rfl, rfl⟩ : (M.add (a, b) l).1 = r1 ∧ (M.add (a, b) l).2 = r2 ∧ 0 = r3 := by simpa using h
        generalize hz : M.add (a, b) l = zz
        obtain ⟨z1, z2⟩ := zz
        have Hzz := Lib.hid hz
        have Hy := Lib.hid hy
        have Hby := Lib.hid hby
        clear h hy hby hz
        simp only
        go_enter Try.func27, Try.ntmps27
        go_wp2_with (first | ((with_reducible refine gate_dst (N := 2) rfl ?_); refine box_event ?hg (N := 2) ?hd (cs := #[.int .i64 a, .int .i64 b]) (t := 23) ?hr ?_; (case hd => rfl); (case hg => rfl); (case hr => first | (go_simp; done) | (go_simp; rfl)); intro g1 hg w1 hbox hb; have Gg1 := Lib.hid ((by rw [hg]; exact below_size HB.out) : w.heap.size ≤ g1); have nB := Lib.hid (below_step HB.out hb); clear HB; have HB := nB; clear nB; have Kg1 := Lib.hid hbox; clear hb hbox hg) | ((with_reducible refine gate_dst (N := 4) rfl ?_); refine box_event ?hg (N := 4) ?hd (cs := #[.int .i64 0, .int .i64 0]) (t := 23) ?hr ?_; (case hd => rfl); (case hg => rfl); (case hr => first | (go_simp; done) | (go_simp; rfl)); intro g2 hg w2 hbox hb; have Gg2 := Lib.hid ((by rw [hg]; exact below_size HB.out) : w.heap.size ≤ g2); have Ng1_g2 : Hid (g1 ≠ g2) := Lib.hid (by rw [hg]; exact Nat.ne_of_lt (blk_lt (g := g1) (o := .cells #[.int .i64 a, .int .i64 b] 23 (0, 0)) Kg1.out)); have Ng2_g1 : Hid (g2 ≠ g1) := Lib.hid (by rw [hg]; exact Nat.ne_of_gt (blk_lt (g := g1) (o := .cells #[.int .i64 a, .int .i64 b] 23 (0, 0)) Kg1.out)); have ng1 := Lib.hid (blk_below (g := g1) (o := .cells #[.int .i64 a, .int .i64 b] 23 (0, 0)) Kg1.out hb); clear Kg1; have Kg1 := ng1; clear ng1; have nB := Lib.hid (below_step HB.out hb); clear HB; have HB := nB; clear nB; have Kg2 := Lib.hid hbox; clear hb hbox hg; have ka_g1_0 : w2.cell? ⟨g1, 0, none⟩ = some (.int .i64 a) := (blk_cell Kg1.out 0).trans rfl; have fa_g1_0 := blk_frozen Kg1.out 0; have ka_g1_1 : w2.cell? ⟨g1, 1, none⟩ = some (.int .i64 b) := (blk_cell Kg1.out 1).trans rfl; have fa_g1_1 := blk_frozen Kg1.out 1; have ka_g2_0 : w2.cell? ⟨g2, 0, none⟩ = some (.int .i64 0) := (blk_cell Kg2.out 0).trans rfl; have fa_g2_0 := blk_frozen Kg2.out 0; have ka_g2_1 : w2.cell? ⟨g2, 1, none⟩ = some (.int .i64 0) := (blk_cell Kg2.out 1).trans rfl; have fa_g2_1 := blk_frozen Kg2.out 1) | ((with_reducible refine (cr _).mono ?_); rintro e w3 ⟨rfl, hb⟩; have ng1 := Lib.hid (blk_below (g := g1) (o := .cells #[.int .i64 a, .int .i64 b] 23 (0, 0)) Kg1.out hb); clear Kg1; have Kg1 := ng1; clear ng1; have ng2 := Lib.hid (blk_below (g := g2) (o := .cells #[.int .i64 0, .int .i64 0] 23 (0, 0)) Kg2.out hb); clear Kg2; have Kg2 := ng2; clear ng2; have nB := Lib.hid (below_step HB.out hb); clear HB; have HB := nB; clear nB hb; have kb_g1_0 : w3.cell? ⟨g1, 0, none⟩ = some (.int .i64 a) := (blk_cell Kg1.out 0).trans rfl; have fb_g1_0 := blk_frozen Kg1.out 0; have kb_g1_1 : w3.cell? ⟨g1, 1, none⟩ = some (.int .i64 b) := (blk_cell Kg1.out 1).trans rfl; have fb_g1_1 := blk_frozen Kg1.out 1; have kb_g2_0 : w3.cell? ⟨g2, 0, none⟩ = some (.int .i64 0) := (blk_cell Kg2.out 0).trans rfl; have fb_g2_0 := blk_frozen Kg2.out 0; have kb_g2_1 : w3.cell? ⟨g2, 1, none⟩ = some (.int .i64 0) := (blk_cell Kg2.out 1).trans rfl; have fb_g2_1 := blk_frozen Kg2.out 1) | ((with_reducible refine (number_calls a b _).mono ?_); rintro e w4 ⟨rfl, hb⟩; have ng1 := Lib.hid (blk_below (g := g1) (o := .cells #[.int .i64 a, .int .i64 b] 23 (0, 0)) Kg1.out hb); clear Kg1; have Kg1 := ng1; clear ng1; have ng2 := Lib.hid (blk_below (g := g2) (o := .cells #[.int .i64 0, .int .i64 0] 23 (0, 0)) Kg2.out hb); clear Kg2; have Kg2 := ng2; clear ng2; have nB := Lib.hid (below_step HB.out hb); clear HB; have HB := nB; clear nB hb; have kc_g1_0 : w4.cell? ⟨g1, 0, none⟩ = some (.int .i64 a) := (blk_cell Kg1.out 0).trans rfl; have fc_g1_0 := blk_frozen Kg1.out 0; have kc_g1_1 : w4.cell? ⟨g1, 1, none⟩ = some (.int .i64 b) := (blk_cell Kg1.out 1).trans rfl; have fc_g1_1 := blk_frozen Kg1.out 1; have kc_g2_0 : w4.cell? ⟨g2, 0, none⟩ = some (.int .i64 0) := (blk_cell Kg2.out 0).trans rfl; have fc_g2_0 := blk_frozen Kg2.out 0; have kc_g2_1 : w4.cell? ⟨g2, 1, none⟩ = some (.int .i64 0) := (blk_cell Kg2.out 1).trans rfl; have fc_g2_1 := blk_frozen Kg2.out 1))
        go_loopg [6, 17] (l.length + 1) (fun kq v6 v17 w' => ∃ i : Int, v17 = .int .i64 i ∧ Hid (0 ≤ i ∧ i ≤ l.length ∧ l.length - i.toNat < kq) ∧ Hid (CI v6 (M.add (a, b) (l.take i.toNat))) ∧ Hid (w'.heap[g1]? = some (.cells #[.int .i64 a, .int .i64 b] 23 (0, 0))) ∧ Hid (w'.heap[g2]? = some (.cells #[.int .i64 0, .int .i64 0] 23 (0, 0))) ∧ Hid (Below w.heap.size w w'))
        case atStart => exact ⟨0, rfl, ⟨by omega, by omega, by omega⟩, number_fi (a, b) Hy.out, Kg1, Kg2, HB⟩
        case round =>
          clear HB Kg1 Kg2
          obtain ⟨i, rfl, hi, hci, Kg1, Kg2, HB⟩ := hrel
          obtain ⟨i0, i1, i2⟩ := hi.out
          clear hi
          obtain ⟨k1, rfl⟩ : ∃ k1, gk = k1 + 1 := ⟨gk - 1, by omega⟩
          have hzr := M.add_right (l.take i.toNat) (a, b) Hy.out
          by_cases hlt : i < (l.length : Int)
          · have hcb := M.bytes_getD Hby.out i.toNat
            obtain ⟨r, p, q, p2, q2, j1, j2, j3, cs⟩ := add_run hci.out hzr hcb.1 hcb.2
            obtain ⟨ad, hA, hx⟩ := Kd.at_int (Kd.C_below HR.out HB.out) i i0 hlt
            cases hA
            have hx' : wr.cell? (ad.add i.toNat) = some (.int .u8 (l.getD i.toNat 0)) := hx
            clear hx
            have hst := M.add_take (a, b) l i.toNat (by omega)
            generalize hcv : l.getD i.toNat 0 = cv at *
            generalize M.add (a, b) (l.take i.toNat) = z at *
            have hfp := fl_pair ((z.1 * 69069 - z.2 * 362437 + (cv + 1))) (z.1 * 362437 + z.2 * 69069)
            change CI (.complex .f64 (M.fl (M.step z cv).1) (M.fl (M.step z cv).2)) (M.step z cv) at hfp
            generalize M.step z cv = sz at *
            obtain ⟨y1, y2⟩ := sz
            simp only at hfp cs
            have Hfp := Lib.hid hfp
            have Hst := Lib.hid hst
            clear hst hcv hzr hci hcb hfp
            go_wp2_with (first | ((with_reducible refine (w_calls _).mono ?_); rintro e wx ⟨rfl, rfl⟩) | ((with_reducible refine (cs _).mono ?_); rintro e w5 ⟨rfl, hb⟩; have ng1 := Lib.hid (blk_below (g := g1) (o := .cells #[.int .i64 a, .int .i64 b] 23 (0, 0)) Kg1.out hb); clear Kg1; have Kg1 := ng1; clear ng1; have ng2 := Lib.hid (blk_below (g := g2) (o := .cells #[.int .i64 0, .int .i64 0] 23 (0, 0)) Kg2.out hb); clear Kg2; have Kg2 := ng2; clear ng2; have nB := Lib.hid (below_step HB.out hb); clear HB; have HB := nB; clear nB hb; have kd_g1_0 : w5.cell? ⟨g1, 0, none⟩ = some (.int .i64 a) := (blk_cell Kg1.out 0).trans rfl; have fd_g1_0 := blk_frozen Kg1.out 0; have kd_g1_1 : w5.cell? ⟨g1, 1, none⟩ = some (.int .i64 b) := (blk_cell Kg1.out 1).trans rfl; have fd_g1_1 := blk_frozen Kg1.out 1; have kd_g2_0 : w5.cell? ⟨g2, 0, none⟩ = some (.int .i64 0) := (blk_cell Kg2.out 0).trans rfl; have fd_g2_0 := blk_frozen Kg2.out 0; have kd_g2_1 : w5.cell? ⟨g2, 1, none⟩ = some (.int .i64 0) := (blk_cell Kg2.out 1).trans rfl; have fd_g2_1 := blk_frozen Kg2.out 1) | ((with_reducible refine (number_calls y1 y2 _).mono ?_); rintro e w6 ⟨rfl, hb⟩; have ng1 := Lib.hid (blk_below (g := g1) (o := .cells #[.int .i64 a, .int .i64 b] 23 (0, 0)) Kg1.out hb); clear Kg1; have Kg1 := ng1; clear ng1; have ng2 := Lib.hid (blk_below (g := g2) (o := .cells #[.int .i64 0, .int .i64 0] 23 (0, 0)) Kg2.out hb); clear Kg2; have Kg2 := ng2; clear ng2; have nB := Lib.hid (below_step HB.out hb); clear HB; have HB := nB; clear nB hb; have ke_g1_0 : w6.cell? ⟨g1, 0, none⟩ = some (.int .i64 a) := (blk_cell Kg1.out 0).trans rfl; have fe_g1_0 := blk_frozen Kg1.out 0; have ke_g1_1 : w6.cell? ⟨g1, 1, none⟩ = some (.int .i64 b) := (blk_cell Kg1.out 1).trans rfl; have fe_g1_1 := blk_frozen Kg1.out 1; have ke_g2_0 : w6.cell? ⟨g2, 0, none⟩ = some (.int .i64 0) := (blk_cell Kg2.out 0).trans rfl; have fe_g2_0 := blk_frozen Kg2.out 0; have ke_g2_1 : w6.cell? ⟨g2, 1, none⟩ = some (.int .i64 0) := (blk_cell Kg2.out 1).trans rfl; have fe_g2_1 := blk_frozen Kg2.out 1))
            go_roundg k1
            case measure => omega
            case rel =>
              exact ⟨i + 1, by go_num, ⟨by omega, by omega, by omega⟩, by rw [show (i + 1).toNat = i.toNat + 1 by omega, Hst.out]; exact Hfp, Kg1, Kg2, HB⟩
          · obtain rfl : i = (l.length : Int) := by omega
            rw [show ((l.length : Int)).toNat = l.length by omega, List.take_length] at hci hzr
            rw [Hzz.out] at hci hzr
            have Hz := Lib.hid hzr
            clear Hzz
            have cs := fun w => seal_right hci.out Hz.out w
            simp only at cs
            clear Hz hci hzr
            have hlt2 : decide (l.length < l.length) = false := by simp
            have kf_g2_0 : wr.cell? ⟨g2, 0, none⟩ = some (.int .i64 0) := (blk_cell Kg2.out 0).trans rfl
            have ff_g2_0 := blk_frozen Kg2.out 0
            have kf_g2_1 : wr.cell? ⟨g2, 1, none⟩ = some (.int .i64 0) := (blk_cell Kg2.out 1).trans rfl
            have ff_g2_1 := blk_frozen Kg2.out 1
            go_wp2_with (first | ((with_reducible refine (cs _).mono ?_); rintro e w7 ⟨rfl, hb⟩; have ng1 := Lib.hid (blk_below (g := g1) (o := .cells #[.int .i64 a, .int .i64 b] 23 (0, 0)) Kg1.out hb); clear Kg1; have Kg1 := ng1; clear ng1; have ng2 := Lib.hid (blk_below (g := g2) (o := .cells #[.int .i64 0, .int .i64 0] 23 (0, 0)) Kg2.out hb); clear Kg2; have Kg2 := ng2; clear ng2; have nB := Lib.hid (below_step HB.out hb); clear HB; have HB := nB; clear nB hb; have kg_g1_0 : w7.cell? ⟨g1, 0, none⟩ = some (.int .i64 a) := (blk_cell Kg1.out 0).trans rfl; have fg_g1_0 := blk_frozen Kg1.out 0; have kg_g1_1 : w7.cell? ⟨g1, 1, none⟩ = some (.int .i64 b) := (blk_cell Kg1.out 1).trans rfl; have fg_g1_1 := blk_frozen Kg1.out 1; have kg_g2_0 : w7.cell? ⟨g2, 0, none⟩ = some (.int .i64 0) := (blk_cell Kg2.out 0).trans rfl; have fg_g2_0 := blk_frozen Kg2.out 0; have kg_g2_1 : w7.cell? ⟨g2, 1, none⟩ = some (.int .i64 0) := (blk_cell Kg2.out 1).trans rfl; have fg_g2_1 := blk_frozen Kg2.out 1))
            refine bodyPost_ret (results_ct rfl _ _ g2 23 #[.int .i64 z1, .int .i64 z2] (0, 0) _ rfl (by refine blk_put (cs := #[.int .i64 z1, .int .i64 0]) ?_ 1 _ rfl; refine blk_put (cs := #[.int .i64 0, .int .i64 0]) ?_ 0 _ rfl; exact Kg2.out) Try.underlying23 rfl (by kernel_rfl)) rfl ?_
            exact ⟨rfl, by repeat (first | (with_reducible exact HB.out) | refine below_set ?_ Gg1.out | refine below_set ?_ Gg2.out)⟩
      · rw [if_neg hlen] at h
        exact absurd h (by simp)
    · rw [if_neg hby] at h
      exact absurd h (by simp)
  · have hr2 := Bool.eq_false_iff.2 hy
    rw [if_neg hy] at h
    have cr := fun w => right_no a b hr2 w
    obtain ⟨rfl, rfl, rfl⟩ : 0 = r1 ∧ 0 = r2 ∧ 20 = r3 := by simpa using h
    clear h hy hr2
    go_enter Try.func27, Try.ntmps27
    go_wp2_with (first | ((with_reducible refine gate_dst (N := 2) rfl ?_); refine box_event ?hg (N := 2) ?hd (cs := #[.int .i64 a, .int .i64 b]) (t := 23) ?hr ?_; (case hd => rfl); (case hg => rfl); (case hr => first | (go_simp; done) | (go_simp; rfl)); intro g1 hg w1 hbox hb; have Gg1 := Lib.hid ((by rw [hg]; exact below_size HB.out) : w.heap.size ≤ g1); have nB := Lib.hid (below_step HB.out hb); clear HB; have HB := nB; clear nB; have Kg1 := Lib.hid hbox; clear hb hbox hg) | ((with_reducible refine gate_dst (N := 4) rfl ?_); refine box_event ?hg (N := 4) ?hd (cs := #[.int .i64 0, .int .i64 0]) (t := 23) ?hr ?_; (case hd => rfl); (case hg => rfl); (case hr => first | (go_simp; done) | (go_simp; rfl)); intro g2 hg w2 hbox hb; have Gg2 := Lib.hid ((by rw [hg]; exact below_size HB.out) : w.heap.size ≤ g2); have Ng1_g2 : Hid (g1 ≠ g2) := Lib.hid (by rw [hg]; exact Nat.ne_of_lt (blk_lt (g := g1) (o := .cells #[.int .i64 a, .int .i64 b] 23 (0, 0)) Kg1.out)); have Ng2_g1 : Hid (g2 ≠ g1) := Lib.hid (by rw [hg]; exact Nat.ne_of_gt (blk_lt (g := g1) (o := .cells #[.int .i64 a, .int .i64 b] 23 (0, 0)) Kg1.out)); have ng1 := Lib.hid (blk_below (g := g1) (o := .cells #[.int .i64 a, .int .i64 b] 23 (0, 0)) Kg1.out hb); clear Kg1; have Kg1 := ng1; clear ng1; have nB := Lib.hid (below_step HB.out hb); clear HB; have HB := nB; clear nB; have Kg2 := Lib.hid hbox; clear hb hbox hg; have ka_g1_0 : w2.cell? ⟨g1, 0, none⟩ = some (.int .i64 a) := (blk_cell Kg1.out 0).trans rfl; have fa_g1_0 := blk_frozen Kg1.out 0; have ka_g1_1 : w2.cell? ⟨g1, 1, none⟩ = some (.int .i64 b) := (blk_cell Kg1.out 1).trans rfl; have fa_g1_1 := blk_frozen Kg1.out 1; have ka_g2_0 : w2.cell? ⟨g2, 0, none⟩ = some (.int .i64 0) := (blk_cell Kg2.out 0).trans rfl; have fa_g2_0 := blk_frozen Kg2.out 0; have ka_g2_1 : w2.cell? ⟨g2, 1, none⟩ = some (.int .i64 0) := (blk_cell Kg2.out 1).trans rfl; have fa_g2_1 := blk_frozen Kg2.out 1) | ((with_reducible refine (cr _).mono ?_); rintro e w3 ⟨rfl, hb⟩; have ng1 := Lib.hid (blk_below (g := g1) (o := .cells #[.int .i64 a, .int .i64 b] 23 (0, 0)) Kg1.out hb); clear Kg1; have Kg1 := ng1; clear ng1; have ng2 := Lib.hid (blk_below (g := g2) (o := .cells #[.int .i64 0, .int .i64 0] 23 (0, 0)) Kg2.out hb); clear Kg2; have Kg2 := ng2; clear ng2; have nB := Lib.hid (below_step HB.out hb); clear HB; have HB := nB; clear nB hb; have kb_g1_0 : w3.cell? ⟨g1, 0, none⟩ = some (.int .i64 a) := (blk_cell Kg1.out 0).trans rfl; have fb_g1_0 := blk_frozen Kg1.out 0; have kb_g1_1 : w3.cell? ⟨g1, 1, none⟩ = some (.int .i64 b) := (blk_cell Kg1.out 1).trans rfl; have fb_g1_1 := blk_frozen Kg1.out 1; have kb_g2_0 : w3.cell? ⟨g2, 0, none⟩ = some (.int .i64 0) := (blk_cell Kg2.out 0).trans rfl; have fb_g2_0 := blk_frozen Kg2.out 0; have kb_g2_1 : w3.cell? ⟨g2, 1, none⟩ = some (.int .i64 0) := (blk_cell Kg2.out 1).trans rfl; have fb_g2_1 := blk_frozen Kg2.out 1))
    refine bodyPost_ret (results_ct rfl _ _ g2 23 #[.int .i64 0, .int .i64 0] (0, 0) _ rfl (by refine blk_put (cs := #[.int .i64 0, .int .i64 0]) ?_ 1 _ rfl; refine blk_put (cs := #[.int .i64 0, .int .i64 0]) ?_ 0 _ rfl; exact Kg2.out) Try.underlying23 rfl (by kernel_rfl)) rfl ?_
    exact ⟨rfl, by repeat (first | (with_reducible exact HB.out) | refine below_set ?_ Gg1.out | refine below_set ?_ Gg2.out)⟩
end Go.Proofs.Ytbiijcehgiibeaa.S

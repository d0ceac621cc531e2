/- Proved here, in whole numbers: a seal's six bytes and what is read of six bytes: one the way back of the other. No program in sight. · Proved here: what seal.Read, seal.Bytes and Same come to. · A text that a program of this session wrote (wip/qprint.py, over the kit's printer): Lean functions with the same answers as Go functions of the program, and proofs that the calls come to these answers; where a function is named in wip/ext, its definition and proof were written by hand. Laid tighter for a claim's bound by wip/shake.py (SQ=1). · Proved here: what bits.Number and bits.Read and the document's answers of layer 1 come to: one plain function each. · Definitions, in whole numbers, of what the package policy's functions answer: may a policy be, its header's bytes, what is read of bytes. No program in sight. · Steps of a walk, used in the texts of chain and policy: a slice is made; within a region that draws its order a block is made, a value is stored. Laid tighter for a claim's bound by wip/shake.py (SQ=1). -/
import Derived.Test.YtbiijcehgiibeaaKPReadsJFloat
import Derived.Test.YtbiijcehgiibeaaKPReadsQf37
import Derived.Test.YtbiijcehgiibeaaKPReadsWMore
import Derived.Deep.MidRow
namespace Go.Proofs.Ytbiijcehgiibeaa.M
def six (l : List Int) (i : Nat) : Int × Int := (l.getD i 0 + 256 * l.getD (i + 1) 0 + 65536 * l.getD (i + 2) 0, l.getD (i + 3) 0 + 256 * l.getD (i + 4) 0 + 65536 * l.getD (i + 5) 0)
def wr6 (x : Int × Int) : List Int := [x.1 % 256, x.1 / 256 % 256, x.1 / 65536 % 256, x.2 % 256, x.2 / 256 % 256, x.2 / 65536 % 256]
def rd6 (l : List Int) (i : Int) : Int × Int × Int × Int :=
  if i < 0 ∨ i > (l.length : Int) then (0, 0, 0, 1) else if (l.length : Int) - i < 6 then (0, 0, 0, 10) else
    if right (six l i.toNat).1 (six l i.toNat).2 = true then ((six l i.toNat).1, (six l i.toNat).2, i + 6, 0) else (0, 0, 0, 20)
end Go.Proofs.Ytbiijcehgiibeaa.M
namespace Go.Proofs.Ytbiijcehgiibeaa.Pure
open Go.RowKit Go.Proofs.Ytbiijcehgiibeaa.Q Go.Proofs.YtbiijcehgiibeaaW.PrintWords
set_option linter.unusedVariables false
set_option linter.unusedSimpArgs false
theorem or_comm (k : IntKind) (x y : Int) : Go.bits .or k x y = Go.bits .or k y x := by
  simp only [Go.bits, BitVec.or_comm]
theorem or_sum (i : Nat) {x y : Int} (h0 : 0 ≤ x) (h1 : x < 2 ^ i) (h2 : 0 ≤ y) (h3 : y < 2 ^ 62) (hi : i ≤ 62) (h4 : y % 2 ^ i = 0) : Go.bits .or .i64 x y = x + y := by
  rw [or_comm, Int.add_comm]
  have hp : (2 : Int) ^ i ≤ 2 ^ 62 := by exact_mod_cast Nat.pow_le_pow_right (n := 2) (by decide) hi
  exact Go.bits_join .i64 62 (by decide) (fun n a b => by rw [Go.IntKind.wrap_i64]; omega) i y x h2 h4 h3 h0 h1 (by omega)
theorem w64b {n : Int} (h1 : -9223372036854775808 ≤ n) (h2 : n ≤ 9223372036854775807) : wrap64 n = n := by unfold wrap64; omega
theorem three {a b c : Int} (h0 : 0 ≤ a) (h1 : a < 256) (h2 : 0 ≤ b) (h3 : b < 256) (h4 : 0 ≤ c) (h5 : c < 256) :
    Go.bits .or .i64 (Go.bits .or .i64 (wrap64 a) (wrap64 ((wrap64 b) * 256))) (wrap64 ((wrap64 c) * 65536)) = a + 256 * b + 65536 * c := by
  rw [w64b (n := a) (by omega) (by omega), w64b (n := b) (by omega) (by omega), w64b (n := c) (by omega) (by omega), w64b (n := b * 256) (by omega) (by omega), w64b (n := c * 65536) (by omega) (by omega)]
  rw [or_sum 8 h0 (by omega) (by omega) (by omega) (by decide) (by omega), or_sum 16 (by omega) (by omega) (by omega) (by omega) (by decide) (by omega)]
  omega
theorem sright (a b : Int) : seal_Right.f a b = some (M.right a b) := by
  unfold seal_Right.f M.right
  by_cases h1 : 0 ≤ a
  · rw [if_pos h1]
    by_cases h2 : a < 16777199
    · rw [if_pos h2]
      by_cases h3 : 0 ≤ b
      · rw [if_pos h3]; congr 1; simp [h1, h2, h3]
      · rw [if_neg h3]; congr 1; simp [h3]
    · rw [if_neg h2]; congr 1; simp [h2]
  · rw [if_neg h1]; congr 1; simp [h1]
theorem rd_cut {l : List Int} {i : Nat} (j : Nat) (hj : j < 6) : rd ((l.take (i + 6)).drop i) (j : Int) = l.getD (i + j) 0 := by
  unfold rd
  rw [Int.toNat_natCast, List.getD_eq_getElem?_getD, List.getD_eq_getElem?_getD, List.getElem?_drop, List.getElem?_take_of_lt (by omega)]
theorem read6 {l : List Int} {i : Int} (k : Nat) (hl : M.bytes l = true) (hn : (l.length : Int) ≤ 4611686018427387904) (h1 : -9223372036854775808 ≤ i) (h2 : i ≤ 9223372036854775807) : seal_Read.f (k + 1) l i = some (M.rd6 l i) := by
  unfold seal_Read.f M.rd6
  simp only [seal_Read.j0]
  by_cases c1 : i < 0
  · rw [if_pos c1, if_pos trivial, if_pos (.inl c1)]
  · rw [if_neg c1]
    by_cases c2 : i > (l.length : Int)
    · rw [if_pos (by simpa using c2), if_pos (.inr c2)]
    · rw [if_neg (by simpa using c2), w64b (n := (l.length : Int) - i) (by omega) (by omega), if_neg (show ¬ (i < 0 ∨ i > (l.length : Int)) by omega)]
      by_cases c3 : (l.length : Int) - i < 6
      · rw [if_pos c3, if_pos c3]
      · rw [if_neg c3, if_neg c3, w64b (n := i + 6) (by omega) (by omega), if_pos (by omega), if_pos (by omega), if_pos (by omega)]
        obtain ⟨m, rfl⟩ := Int.eq_ofNat_of_zero_le (show 0 ≤ i by omega)
        rw [show ((m : Int) + 6).toNat = m + 6 by omega, Int.toNat_natCast]
        have hlen : ((l.take (m + 6)).drop m).length = 6 := by simp; omega
        rw [hlen]
        rw [if_pos (by decide), if_pos (by decide), if_pos (by decide), if_pos (by decide), if_pos (by decide), if_pos (by decide)]
        have r0 : rd ((l.take (m + 6)).drop m) 0 = l.getD m 0 := rd_cut 0 (by decide)
        have r1 : rd ((l.take (m + 6)).drop m) 1 = l.getD (m + 1) 0 := rd_cut 1 (by decide)
        have r2 : rd ((l.take (m + 6)).drop m) 2 = l.getD (m + 2) 0 := rd_cut 2 (by decide)
        have r3 : rd ((l.take (m + 6)).drop m) 3 = l.getD (m + 3) 0 := rd_cut 3 (by decide)
        have r4 : rd ((l.take (m + 6)).drop m) 4 = l.getD (m + 4) 0 := rd_cut 4 (by decide)
        have r5 : rd ((l.take (m + 6)).drop m) 5 = l.getD (m + 5) 0 := rd_cut 5 (by decide)
        have b := fun j => M.bytes_getD hl j
        rw [r0, r1, r2, r3, r4, r5, three (b _).1 (b _).2 (b _).1 (b _).2 (b _).1 (b _).2, three (b _).1 (b _).2 (b _).1 (b _).2 (b _).1 (b _).2, sright]
        simp only [Option.bind_some]
        rw [show (l.getD m 0 + 256 * l.getD (m + 1) 0 + 65536 * l.getD (m + 2) 0) = (M.six l m).1 from rfl, show (l.getD (m + 3) 0 + 256 * l.getD (m + 4) 0 + 65536 * l.getD (m + 5) 0) = (M.six l m).2 from rfl]
        by_cases c4 : M.right (M.six l m).1 (M.six l m).2 = true
        · rw [if_pos c4, if_pos c4]
        · rw [if_neg c4, if_neg c4]
theorem bytes6 {x : Int × Int} (h : M.right x.1 x.2 = true) : seal_Bytes.f x.1 x.2 = some (M.wr6 x, 0) := by
  unfold seal_Bytes.f
  rw [sright, h]
  rfl
theorem same0 : ∀ (k : Nat) (a b : List Int) (i : Nat), a.length = b.length → (a.length : Int) ≤ 9223372036854775806 → i ≤ a.length → a.length - i < k → reevelaw02_Same.l0 k a b (i : Int) = some (decide (a.drop i = b.drop i)) := by
  intro k
  induction k with
  | zero => intro a b i _ _ _ h; omega
  | succ k ih =>
    intro a b i hab hm hi hk
    simp only [reevelaw02_Same.l0]
    by_cases h : i < a.length
    · rw [if_pos (by omega), if_pos (by omega), if_pos (by omega)]
      have ea : a.drop i = a.getD i 0 :: a.drop (i + 1) := by
        rw [List.getD_eq_getElem?_getD, List.getElem?_eq_getElem h, List.drop_eq_getElem_cons h]; rfl
      have eb : b.drop i = b.getD i 0 :: b.drop (i + 1) := by
        rw [List.getD_eq_getElem?_getD, List.getElem?_eq_getElem (by omega), List.drop_eq_getElem_cons (by omega)]; rfl
      have ra : rd a (i : Int) = a.getD i 0 := by unfold rd; rw [Int.toNat_natCast]
      have rb : rd b (i : Int) = b.getD i 0 := by unfold rd; rw [Int.toNat_natCast]
      rw [ra, rb]
      by_cases c : a.getD i 0 = b.getD i 0
      · rw [if_pos c, w64b (n := (i : Int) + 1) (by omega) (by omega), show ((i : Int) + 1) = ((i + 1 : Nat) : Int) by omega, ih a b (i + 1) hab hm (by omega) (by omega)]
        congr 1
        rw [ea, eb, c]
        simp
      · rw [if_neg c]
        congr 1
        symm
        rw [decide_eq_false_iff_not, ea, eb]
        intro e
        exact c (List.cons.inj e).1
    · rw [if_neg (by omega), List.drop_of_length_le (by omega), List.drop_of_length_le (by omega)]
      simp
theorem same_ok {a b : List Int} {k : Nat} (hm : (a.length : Int) ≤ 9223372036854775806) (hk : a.length < k) : reevelaw02_Same.f k a b = some (decide (a = b)) := by
  unfold reevelaw02_Same.f
  by_cases h : a.length = b.length
  · rw [if_pos (by omega)]
    have := same0 k a b 0 h hm (by omega) (by omega)
    simpa using this
  · rw [if_neg (by omega)]
    congr 1
    have : a ≠ b := fun e => h (by rw [e])
    simp [this]
end Go.Proofs.Ytbiijcehgiibeaa.Pure
namespace Go.Proofs.Ytbiijcehgiibeaa.Q
open Go.RowKit Go.Proofs.YtbiijcehgiibeaaW.PrintWords Go.Proofs.YtbiijcehgiibeaaW.PrintLast Go.Proofs.YtbiijcehgiibeaaW.PrintMore
attribute [local go_sem] max2_int min2_int max_two min_two max_three min_three max_four min_four   -- for this text's walks alone
set_option linter.unusedVariables false
set_option linter.unusedSimpArgs false
def bits_may.f (a0 : Int) : Option (Bool):=if a0 ≥ 0 then (some (decide (a0 ≤ 4611686018427387903))) else (some false)
set_option maxHeartbeats 8000000 in
set_option maxRecDepth 100000 in
theorem bits_may.calls (a0 : Int) (r : Bool) (w : World) (h : bits_may.f a0 = some r) :
  Calls Try.prog 86 #[.int .i64 a0] w fun e w' => e = .returned (.bool r) ∧ Drawn0 w w':=by
 have H : (if a0 ≥ 0 then (some (decide (a0 ≤ 4611686018427387903))) else (some false)) = some r:=h
 clear h
 by_cases c2 : a0 ≥ 0
 ·rw [if_pos c2] at H
  have c2b0 : decide (0 ≤ a0) = true:=decide_eq_true c2
  clear c2
  obtain rfl:=Option.some.inj H
  go_enter Try.func86,Try.ntmps86
  go_wp2
  go_ret
  exact ⟨by first | rfl | (simp;done) | (simp [*];done),by repeat (first | exact Drawn0.refl _ | apply Drawn0.step)⟩
 ·rw [if_neg c2] at H
  have c2b0 : decide (0 ≤ a0) = false:=decide_eq_false c2
  clear c2
  obtain rfl:=Option.some.inj H
  go_enter Try.func86,Try.ntmps86
  go_wp2
  go_ret
  exact ⟨by first | rfl | (simp;done) | (simp [*];done),by repeat (first | exact Drawn0.refl _ | apply Drawn0.step)⟩
def bits_Number.l0 : Nat → Int → List Int → Option (List Int × Int)
 | 0,_,_ => none
 | k + 1,x0,x4 => if x0 ≥ 128 then (if x4.length < 140737488355328 then (bits_Number.l0 k (x0 / 128) (x4 ++ [Go.bits .or .u8 ((Int.tmod x0 128) % 256) 128])) else (none)) else (if x4.length < 140737488355328 then (some ((x4 ++ [(x0) % 256]),0)) else (none))
def bits_Number.f (k : Nat) (a0 : Int) : Option (List Int × Int):=(bits_may.f a0).bind fun t346 => (if t346 = true then (bits_Number.l0 k a0 (List.replicate 0 0)) else (some (([] : List Int),1)))
set_option maxHeartbeats 8000000 in
set_option maxRecDepth 100000 in
theorem bits_Number.calls (k : Nat) (a0 : Int) (r1 : List Int) (r2 : Int) (w : World) (h : bits_Number.f k a0 = some (r1,r2)) :
  Calls Try.prog 75 #[.int .i64 a0] w fun e w' => ∃ v0_ : Value,e = .returned (.tuple #[v0_,.int .i64 r2]) ∧ Kd.R (Kd.int .u8) 5 w' w.heap.size (fun _ => True) v0_ r1 ∧ Below w.heap.size w w':=by
 have HB:=Aside0.mk (Below.refl w.heap.size w)
 have H : ((bits_may.f a0).bind fun t346 => (if t346 = true then (bits_Number.l0 k a0 (List.replicate 0 0)) else (some (([] : List Int),1)))) = some (r1,r2):=h
 clear h
 replace H:=Option.bind_eq_some_iff.mp H
 obtain ⟨t346,A20,H⟩:=H
 replace H : (if t346 = true then (bits_Number.l0 k a0 (List.replicate 0 0)) else (some (([] : List Int),1))) = some (r1,r2):=H
 have A2:=Aside0.mk A20
 clear A20
 by_cases c3 : t346 = true
 ·subst c3
  have H1 : (bits_Number.l0 k a0 (List.replicate 0 0)) = some (r1,r2):=by rw [if_pos rfl] at H;exact H
  clear H
  have H:=H1
  clear H1
  obtain ⟨y347,hy347⟩ : ∃ y_ : List Int,y_ = (List.replicate 0 0):=⟨_,rfl⟩
  replace H : (bits_Number.l0 k a0 y347) = some (r1,r2):=by first | (rw [hy347];with_reducible exact H) | (have H2_:=(Option.bind_some _ _).symm.trans H;rw [hy347];with_reducible exact H2_) | (have H2_:=(Option.bind_some _ _).symm.trans H;with_reducible exact H2_) | with_reducible exact H | (rw [hy347];exact H) | exact H
  have Ny347:=Aside0.mk hy347
  clear hy347
  have H':=Aside0.mk H
  clear H
  go_enter Try.func75,Try.ntmps75
  go_wp2_with (first | ((with_reducible refine gate_callee (f:=86) rfl ?_);refine goesL_ (some 6) rfl rfl Try.func86 (by kernel_rfl) rfl #[.int .i64 a0] rfl (by (try simp only [List.map_toArray,List.map_cons,List.map_nil]);first | done | rfl | (simp only [List.length_drop,List.length_take];rfl)) ?_;(with_reducible refine (bits_may.calls a0 true _ A2.out).mono ?_);rintro e w' ⟨rfl,⟨nd,rfl⟩⟩;refine ⟨_,rfl,?_⟩) | ((with_reducible refine gate_dst (N:=8) rfl ?_);refine O.R_makec (Kd.int .u8) _ 5 rfl (N:=8) rfl 24 _ _ rfl 9 rfl rfl Try.underlying24 (.int .u8 0) 1 info5 rfl (by decide) (by omega) 0 (ok:=fun _ => True) (okp:=fun _ => True) rfl (fun _ hk => hk) trivial (by omega) (by omega) (Below.refl _ _) (Nat.le_refl _) ?_;intro v348 w4 ho5 hb hg_ hnew_;clear hg_ hnew_;(first | rw [← Ny347.out] at ho5 | (simp only [Int.reduceToNat] at ho5;rw [← Ny347.out] at ho5));have n0_:=Aside0.mk (Kd.R_lower ho5 (below_size (by repeat (first | (with_reducible first | exact HB.out | apply below_alloc | apply pw_below_drewN | apply below_drew1) | exact HB.out))));have n1_:=Aside0.mk (below_step (by repeat (first | (with_reducible first | exact HB.out | apply below_alloc | apply pw_below_drewN | apply below_drew1) | exact HB.out)) hb);clear HB;have HO349:=n0_;have HB:=n1_;clear n0_ n1_;clear hb ho5))
  go_loopg [0,4] k (fun kq v0 v4 w' => ∃ (x0_1 : Int) (x4_1 : List Int),v0 = .int .i64 x0_1 ∧ Aside0 (bits_Number.l0 kq x0_1 x4_1 = some (r1,r2)) ∧ Aside0 (kq ≤ k) ∧ Aside0 (Kd.R (Kd.int .u8) 5 w' w.heap.size (fun _ => True) v4 x4_1) ∧ Aside0 (Below w.heap.size w w'))
  case atStart => exact ⟨(a0),(y347),(by first | rfl | (simp;done) | (simp [*];done)),H',⟨Nat.le_refl _⟩,⟨by (with_reducible repeat (first | apply Kd.R_alloc | apply Kd.R_drewN | apply Kd.R_drew));exact HO349.out⟩,⟨by repeat (first | (with_reducible first | exact HB.out | apply below_alloc | apply pw_below_drewN | apply below_drew1) | exact HB.out)⟩⟩
  case round =>
   clear H'
   try clear p2
   try clear c3
   obtain ⟨x0_1,x4_1,rfl,HA,HK1,HO_4,HB⟩:=hrel
   cases gk with
   | zero => exact absurd HA.out (by simp [bits_Number.l0])
   | succ k1 =>
    have H:=HA.out
    clear HA
    simp only [bits_Number.l0] at H
    by_cases c6 : x0_1 ≥ 128
    ·rw [if_pos c6] at H
     have c6b0 : decide (128 ≤ x0_1) = true:=decide_eq_true c6
     clear c6
     by_cases c7 : x4_1.length < 140737488355328
     ·rw [if_pos c7] at H
      have LMc7:=Aside0.mk c7
      clear c7
      obtain ⟨y350,hy350⟩ : ∃ y_ : List Int,y_ = (x4_1 ++ [Go.bits .or .u8 ((Int.tmod x0_1 128) % 256) 128]):=⟨_,rfl⟩
      replace H : (bits_Number.l0 k1 (x0_1 / 128) y350) = some (r1,r2):=by first | (rw [hy350];with_reducible exact H) | (have H2_:=(Option.bind_some _ _).symm.trans H;rw [hy350];with_reducible exact H2_) | (have H2_:=(Option.bind_some _ _).symm.trans H;with_reducible exact H2_) | with_reducible exact H | (rw [hy350];exact H) | exact H
      have Ny350:=Aside0.mk hy350
      clear hy350
      have H':=Aside0.mk H
      clear H
      go_wp2_with (first | ((with_reducible refine gate_builtin (b:=.append) (xs:=#[.tmp 13,.tmp 18]) rfl ?_);at_builtin;refine Kd.R_append (Kd.int .u8) (w0:=w) w.heap.size rfl (.tmp 13) (.tmp 18) 24 5 (.int .u8 0) 1 rfl Try.underlying24 info5 rfl (by decide) (by omega) u4 x4_1 (Go.bits .or .u8 ((Int.tmod x0_1 128) % 256) 128) [.int .u8 (Go.bits .or .u8 ((Int.tmod x0_1 128) % 256) 128)] (fun _ => True) (fun _ => False) rfl rfl ?aP (fun _ hk => hk.elim) ?aF ?aO ?aB ?aS ?aL ?_;(case aP => exact rfl);(case aB => exact (by repeat (first | (with_reducible first | exact HB.out | apply below_alloc | apply pw_below_drewN | apply below_drew1) | exact HB.out)));(case aF => exact (fun _ _ => trivial));(case aO => exact (by (with_reducible repeat (first | apply Kd.R_alloc | apply Kd.R_drewN | apply Kd.R_drew));exact HO_4.out));(case aS => exact (below_size (by repeat (first | (with_reducible first | exact HB.out | apply below_alloc | apply pw_below_drewN | apply below_drew1) | exact HB.out))));(case aL => have:=LMc7.out;omega);intro v351 w8 ho hb hg hat;rw [← Ny350.out] at ho;have n0_:=Aside0.mk (hb);have n1_:=Aside0.mk (ho);clear HB;clear HO_4;have HB:=n0_;have HO352:=n1_;clear n0_ n1_;clear ho hb hg hat))
      go_roundg k1
      case measure => have:=HK1.out;omega
      case rel => exact ⟨(x0_1 / 128),(y350),(by first | rfl | (simp;done) | (simp [*];done)),H',⟨by have:=HK1.out;omega⟩,⟨by (with_reducible repeat (first | apply Kd.R_alloc | apply Kd.R_drewN | apply Kd.R_drew));exact HO352.out⟩,⟨by repeat (first | (with_reducible first | exact HB.out | apply below_alloc | apply pw_below_drewN | apply below_drew1) | exact HB.out)⟩⟩
     ·rw [if_neg c7] at H
      exact absurd H (by simp)
    ·rw [if_neg c6] at H
     have c6b0 : decide (128 ≤ x0_1) = false:=decide_eq_false c6
     clear c6
     by_cases c9 : x4_1.length < 140737488355328
     ·rw [if_pos c9] at H
      have LMc9:=Aside0.mk c9
      clear c9
      obtain ⟨y353,hy353⟩ : ∃ y_ : List Int,y_ = (x4_1 ++ [(x0_1) % 256]):=⟨_,rfl⟩
      replace H : (some (y353,0)) = some (r1,r2):=by first | (rw [hy353];with_reducible exact H) | (have H2_:=(Option.bind_some _ _).symm.trans H;rw [hy353];with_reducible exact H2_) | (have H2_:=(Option.bind_some _ _).symm.trans H;with_reducible exact H2_) | with_reducible exact H | (rw [hy353];exact H) | exact H
      have Ny353:=Aside0.mk hy353
      clear hy353
      simp only [Option.some.injEq,Prod.mk.injEq] at H
      obtain ⟨rfl,rfl⟩:=H
      go_wp2_with (first | ((with_reducible refine gate_builtin (b:=.append) (xs:=#[.tmp 20,.tmp 23]) rfl ?_);at_builtin;refine Kd.R_append (Kd.int .u8) (w0:=w) w.heap.size rfl (.tmp 20) (.tmp 23) 24 5 (.int .u8 0) 1 rfl Try.underlying24 info5 rfl (by decide) (by omega) u4 x4_1 ((x0_1) % 256) [.int .u8 ((x0_1) % 256)] (fun _ => True) (fun _ => False) rfl rfl ?aP (fun _ hk => hk.elim) ?aF ?aO ?aB ?aS ?aL ?_;(case aP => exact rfl);(case aB => exact (by repeat (first | (with_reducible first | exact HB.out | apply below_alloc | apply pw_below_drewN | apply below_drew1) | exact HB.out)));(case aF => exact (fun _ _ => trivial));(case aO => exact (by (with_reducible repeat (first | apply Kd.R_alloc | apply Kd.R_drewN | apply Kd.R_drew));exact HO_4.out));(case aS => exact (below_size (by repeat (first | (with_reducible first | exact HB.out | apply below_alloc | apply pw_below_drewN | apply below_drew1) | exact HB.out))));(case aL => have:=LMc9.out;omega);intro v354 w10 ho hb hg hat;rw [← Ny353.out] at ho;have n0_:=Aside0.mk (hb);have n1_:=Aside0.mk (ho);clear HB;clear HO_4;have HB:=n0_;have HO355:=n1_;clear n0_ n1_;clear ho hb hg hat))
      go_ret2
      exact ⟨_,by first | rfl | (simp [errW_none,errW_some] <;> rfl) | (simp [*,errW_none,errW_some] <;> rfl),by (with_reducible repeat (first | apply Kd.R_alloc | apply Kd.R_drewN | apply Kd.R_drew));exact HO355.out,by repeat (first | (with_reducible first | exact HB.out | apply below_alloc | apply pw_below_drewN | apply below_drew1) | exact HB.out)⟩
     ·rw [if_neg c9] at H
      exact absurd H (by simp)
 ·replace c3:=Bool.eq_false_iff.mpr c3
  subst c3
  have H1 : (some (([] : List Int),1)) = some (r1,r2):=by rw [if_neg (show ¬ (false = true) by decide)] at H;exact H
  clear H
  have H:=H1
  clear H1
  simp only [Option.some.injEq,Prod.mk.injEq] at H
  obtain ⟨rfl,rfl⟩:=H
  go_enter Try.func75,Try.ntmps75
  go_wp2_with (first | ((with_reducible refine gate_callee (f:=86) rfl ?_);refine goesL_ (some 6) rfl rfl Try.func86 (by kernel_rfl) rfl #[.int .i64 a0] rfl (by (try simp only [List.map_toArray,List.map_cons,List.map_nil]);first | done | rfl | (simp only [List.length_drop,List.length_take];rfl)) ?_;(with_reducible refine (bits_may.calls a0 false _ A2.out).mono ?_);rintro e w' ⟨rfl,⟨nd,rfl⟩⟩;refine ⟨_,rfl,?_⟩))
  go_ret2
  exact ⟨_,by first | rfl | (simp [errW_none,errW_some] <;> rfl) | (simp [*,errW_none,errW_some] <;> rfl),by first | exact Kd.R_nil _ _ _ _ _ | exact Kd.N_nil _ _ _ _ _ | exact Kd.V_nil _ _ _ _ _ | exact Kd.Q_nil _ _ _ _ _ | exact Kd.S_nil _ _ _ _ _,by repeat (first | (with_reducible first | exact HB.out | apply below_alloc | apply pw_below_drewN | apply below_drew1) | exact HB.out)⟩
mutual
def bits_Read.j0 : Nat → List Int → Int → Bool → Option (Int × Int × Int)
 | 0,_,_,_ => none
 | k + 1,x0,x1,x17 => if x17 = true then (some (0,0,1)) else (bits_Read.l0 k x0 x1 0 0)
def bits_Read.l0 : Nat → List Int → Int → Int → Int → Option (Int × Int × Int)
 | 0,_,_,_,_ => none
 | k + 1,x0,x1,x7,x8 => if (wrap64 (x1 + x8)) = (x0.length : Int) then (some (0,0,10)) else (if 0 ≤ (wrap64 (x1 + x8)) then (if (wrap64 (x1 + x8)) < (x0.length : Int) then (if 0 ≤ (wrap64 (7 * x8)) then (if (rd x0 (wrap64 (x1 + x8))) = 0 then (bits_Read.j2 k x0 x1 (Go.bits .or .u64 x7 (shl .u64 (IntKind.u64.wrap (Int.tmod (rd x0 (wrap64 (x1 + x8))) 128)) (wrap64 (7 * x8)))) (wrap64 (x8 + 1)) (rd x0 (wrap64 (x1 + x8))) (decide ((wrap64 (x8 + 1)) > 1))) else (bits_Read.j2 k x0 x1 (Go.bits .or .u64 x7 (shl .u64 (IntKind.u64.wrap (Int.tmod (rd x0 (wrap64 (x1 + x8))) 128)) (wrap64 (7 * x8)))) (wrap64 (x8 + 1)) (rd x0 (wrap64 (x1 + x8))) false)) else (none)) else (none)) else (none))
def bits_Read.j2 : Nat → List Int → Int → Int → Int → Int → Bool → Option (Int × Int × Int)
 | 0,_,_,_,_,_,_ => none
 | k + 1,x0,x1,x7,x8,x9,x40 => if x40 = true then (bits_Read.j3 k x0 x1 x7 x8 x9 x40) else (if x8 = 9 then (if x9 ≥ 128 then (bits_Read.j3 k x0 x1 x7 x8 x9 true) else (bits_Read.j3 k x0 x1 x7 x8 x9 (decide (x7 > 4611686018427387903)))) else (bits_Read.j3 k x0 x1 x7 x8 x9 false))
def bits_Read.j3 : Nat → List Int → Int → Int → Int → Int → Bool → Option (Int × Int × Int)
 | 0,_,_,_,_,_,_ => none
 | k + 1,x0,x1,x7,x8,x9,x40 => if x40 = true then (some (0,0,11)) else (if x9 < 128 then (some (wrap64 (x7),wrap64 (x1 + x8),0)) else (bits_Read.l0 k x0 x1 x7 x8))
end
def bits_Read.f (k : Nat) (l0 : List Int) (a1 : Int) : Option (Int × Int × Int):=if a1 < 0 then (bits_Read.j0 k l0 a1 true) else (bits_Read.j0 k l0 a1 (decide (a1 > (l0.length : Int))))
set_option maxHeartbeats 8000000 in
set_option maxRecDepth 100000 in
theorem bits_Read.calls (k : Nat) (A0 : Option Addr) (c0 : Nat) (l0 : List Int) (a1 : Int) (r1 : Int) (r2 : Int) (r3 : Int) (w : World) (hr0 : Kd.C (Kd.int .u8) w A0 l0.length l0) (hc0 : l0.length ≤ c0) (h : bits_Read.f k l0 a1 = some (r1,r2,r3)) :
  Calls Try.prog 76 #[.slice A0 l0.length c0,.int .i64 a1] w fun e w' => e = .returned (.tuple #[.int .i64 r1,.int .i64 r2,.int .i64 r3]) ∧ Drawn0 w w':=by
 have HR0:=Aside0.mk hr0
 have HC0:=Aside0.mk hc0
 clear hr0 hc0
 have H : (if a1 < 0 then (bits_Read.j0 k l0 a1 true) else (bits_Read.j0 k l0 a1 (decide (a1 > (l0.length : Int))))) = some (r1,r2,r3):=h
 clear h
 have HC3:=Aside0.mk H
 clear H
 go_enter Try.func76,Try.ntmps76
 (try go_wp2);(try go_step3)
 go_upto_region 1 with (fail)
 go_cut [17] (fun v17 wc => ∃ (kq : Nat) (x17_2 : Bool),v17 = .bool x17_2 ∧ Aside0 (bits_Read.j0 kq l0 a1 x17_2 = some (r1,r2,r3)) ∧ Aside0 (kq ≤ k) ∧ Drawn0 w wc)
 case first =>
  have H:=HC3.out
  clear HC3
  by_cases c4 : a1 < 0
  ·rw [if_pos c4] at H
   have c4b0 : decide (a1 < 0) = true:=decide_eq_true c4
   clear c4
   (first | rw [c4b0] | (simp only [i64_w,i32_w];rw [c4b0]) | skip)
   have H':=Aside0.mk H
   clear H
   go_wp2
   go_meet
   case rel => exact ⟨_,(true),(by first | rfl | (simp;done) | (simp [*];done)),H',⟨by first | omega | exact Nat.le_refl _⟩,by repeat (first | exact Drawn0.refl _ | apply Drawn0.step)⟩
  ·rw [if_neg c4] at H
   have c4b0 : decide (a1 < 0) = false:=decide_eq_false c4
   clear c4
   (first | rw [c4b0] | (simp only [i64_w,i32_w];rw [c4b0]) | skip)
   have H':=Aside0.mk H
   clear H
   go_wp2
   go_meet
   case rel => exact ⟨_,(decide (a1 > (l0.length : Int))),(by first | rfl | (simp;done) | (simp [*];done)),H',⟨by first | omega | exact Nat.le_refl _⟩,by repeat (first | exact Drawn0.refl _ | apply Drawn0.step)⟩
 case rest =>
  clear HC3
  try clear p2
  try clear c4
  try clear c4b0
  obtain ⟨kq,x17_2,rfl,HA,HJ2,⟨mc2,rfl⟩⟩:=hcut
  cases kq with
  | zero => exact absurd HA.out (by simp [bits_Read.j0])
  | succ kj2 =>
   have H:=HA.out
   clear HA
   simp only [bits_Read.j0] at H
   by_cases c5 : x17_2 = true
   ·subst c5
    have H1 : (some (0,0,1)) = some (r1,r2,r3):=by rw [if_pos rfl] at H;exact H
    clear H
    have H:=H1
    clear H1
    simp only [Option.some.injEq,Prod.mk.injEq] at H
    obtain ⟨rfl,rfl,rfl⟩:=H
    go_wp2
    (try rw [Exit.noGoto_ret])
    go_ret3
    exact ⟨by first | rfl | (simp;done) | (simp [*];done),by repeat (first | exact Drawn0.refl _ | apply Drawn0.step)⟩
   ·replace c5:=Bool.eq_false_iff.mpr c5
    subst c5
    have H1 : (bits_Read.l0 kj2 l0 a1 0 0) = some (r1,r2,r3):=by rw [if_neg (show ¬ (false = true) by decide)] at H;exact H
    clear H
    have H:=H1
    clear H1
    have H':=Aside0.mk H
    clear H
    go_wp2
    (try go_step3);(try go_wp2)
    go_loopg [7,8] kj2 (fun kq v7 v8 w' => ∃ (x7_2 : Int) (x8_2 : Int),v7 = .int .u64 x7_2 ∧ v8 = .int .i64 x8_2 ∧ Aside0 (bits_Read.l0 kq l0 a1 x7_2 x8_2 = some (r1,r2,r3)) ∧ Aside0 (kq ≤ kj2) ∧ Drawn0 w w')
    case atStart => exact ⟨(0),(0),(by first | rfl | (simp;done) | (simp [*];done)),(by first | rfl | (simp;done) | (simp [*];done)),H',⟨Nat.le_refl _⟩,by repeat (first | exact Drawn0.refl _ | apply Drawn0.step)⟩
    case round =>
     clear H'
     try clear c2
     try clear p2
     try clear c4
     try clear c4b0
     try clear c5
     try clear p2
     obtain ⟨x7_2,x8_2,rfl,rfl,HA,HK2,⟨m2,rfl⟩⟩:=hrel
     cases gk with
     | zero => exact absurd HA.out (by simp [bits_Read.l0])
     | succ k2 =>
      have H:=HA.out
      clear HA
      simp only [bits_Read.l0] at H
      by_cases c6 : (wrap64 (a1 + x8_2)) = (l0.length : Int)
      ·rw [if_pos c6] at H
       have c6b0 : ((wrap64 (a1 + x8_2)) == (l0.length : Int)) = true:=beq_iff_eq.mpr c6
       have c6b1 : ((wrap64 (a1 + x8_2)) != (l0.length : Int)) = false:=bne_eq_false_iff_eq.mpr c6
       clear c6
       simp only [Option.some.injEq,Prod.mk.injEq] at H
       obtain ⟨rfl,rfl,rfl⟩:=H
       go_wp2
       (try rw [Exit.noGoto_ret])
       go_ret3
       exact ⟨by first | rfl | (simp;done) | (simp [*];done),by repeat (first | exact Drawn0.refl _ | apply Drawn0.step)⟩
      ·rw [if_neg c6] at H
       have c6b0 : ((wrap64 (a1 + x8_2)) == (l0.length : Int)) = false:=beq_eq_false_iff_ne.mpr c6
       have c6b1 : ((wrap64 (a1 + x8_2)) != (l0.length : Int)) = true:=bne_iff_ne.mpr c6
       obtain ⟨ji7,hji7⟩ : ∃ j_ : Int,(wrap64 (a1 + x8_2)) = j_:=⟨_,rfl⟩
       replace H : (if 0 ≤ (ji7) then (if (ji7) < (l0.length : Int) then (if 0 ≤ (wrap64 (7 * x8_2)) then (if (rd l0 (ji7)) = 0 then (bits_Read.j2 k2 l0 a1 (Go.bits .or .u64 x7_2 (shl .u64 (IntKind.u64.wrap (Int.tmod (rd l0 (ji7)) 128)) (wrap64 (7 * x8_2)))) (wrap64 (x8_2 + 1)) (rd l0 (ji7)) (decide ((wrap64 (x8_2 + 1)) > 1))) else (bits_Read.j2 k2 l0 a1 (Go.bits .or .u64 x7_2 (shl .u64 (IntKind.u64.wrap (Int.tmod (rd l0 (ji7)) 128)) (wrap64 (7 * x8_2)))) (wrap64 (x8_2 + 1)) (rd l0 (ji7)) false)) else (none)) else (none)) else (none)) = some (r1,r2,r3):=by first | (rw [hji7] at H;exact H) | (simp only [hji7] at H ⊢;exact H)
       (try rw [hji7] at c6b0)
       (try rw [hji7] at c6b1)
       have hji7w : (IntKind.i64.wrap (a1 + x8_2)) = ji7:=(i64_w _).trans hji7
       by_cases c8 : 0 ≤ (ji7)
       ·rw [if_pos c8] at H
        have c8b0 : decide (0 ≤ (ji7)) = true:=decide_eq_true c8
        clear c8
        by_cases c9 : (ji7) < (l0.length : Int)
        ·rw [if_pos c9] at H
         have c9b0 : decide ((ji7) < (l0.length : Int)) = true:=decide_eq_true c9
         clear c9
         obtain ⟨ji10,hji10⟩ : ∃ j_ : Int,(wrap64 (7 * x8_2)) = j_:=⟨_,rfl⟩
         replace H : (if 0 ≤ (ji10) then (if (rd l0 (ji7)) = 0 then (bits_Read.j2 k2 l0 a1 (Go.bits .or .u64 x7_2 (shl .u64 (IntKind.u64.wrap (Int.tmod (rd l0 (ji7)) 128)) (ji10))) (wrap64 (x8_2 + 1)) (rd l0 (ji7)) (decide ((wrap64 (x8_2 + 1)) > 1))) else (bits_Read.j2 k2 l0 a1 (Go.bits .or .u64 x7_2 (shl .u64 (IntKind.u64.wrap (Int.tmod (rd l0 (ji7)) 128)) (ji10))) (wrap64 (x8_2 + 1)) (rd l0 (ji7)) false)) else (none)) = some (r1,r2,r3):=by first | (rw [hji10] at H;exact H) | (simp only [hji10] at H ⊢;exact H)
         have hji10w : (IntKind.i64.wrap (7 * x8_2)) = ji10:=(i64_w _).trans hji10
         by_cases c11 : 0 ≤ (ji10)
         ·rw [if_pos c11] at H
          have c11b0:=eq_true c11
          have c11b1 : decide (0 ≤ (ji10)) = true:=decide_eq_true c11
          clear c11
          obtain ⟨ji12,hji12⟩ : ∃ j_ : Int,(shl .u64 (IntKind.u64.wrap (Int.tmod (rd l0 (ji7)) 128)) (ji10)) = j_:=⟨_,rfl⟩
          replace H : (if (rd l0 (ji7)) = 0 then (bits_Read.j2 k2 l0 a1 (Go.bits .or .u64 x7_2 (ji12)) (wrap64 (x8_2 + 1)) (rd l0 (ji7)) (decide ((wrap64 (x8_2 + 1)) > 1))) else (bits_Read.j2 k2 l0 a1 (Go.bits .or .u64 x7_2 (ji12)) (wrap64 (x8_2 + 1)) (rd l0 (ji7)) false)) = some (r1,r2,r3):=by first | (rw [hji12] at H;exact H) | (simp only [hji12] at H ⊢;exact H)
          have hji12_ : (IntKind.u64.wrap ((IntKind.u64.wrap (Int.tmod (rd l0 (ji7)) 128)) * 2 ^ min (ji10).toNat 64)) = ji12:=hji12
          have hji12z : (ji10) ≤ 64 → (IntKind.u64.wrap ((IntKind.u64.wrap (Int.tmod (rd l0 (ji7)) 128)) * 2 ^ (ji10).toNat)) = ji12:=shl_small hji12
          have HC13:=Aside0.mk H
          clear H
          have p356 : 0 ≤ ((ji7) : Int):=of_decide_eq_true (by first | (with_reducible assumption) | assumption)
          have q356 : (ji7) < (l0.length : Int):=of_decide_eq_true (by first | (with_reducible assumption) | assumption)
          obtain ⟨ad356,e356,hx356_0⟩:=Kd.at_int HR0.out (ji7) p356 q356
          cases e356
          replace p356:=eq_true p356
          replace q356:=eq_true q356
          go_upto_region 10 with (fail)
          go_cut [40] (fun v40 wc => ∃ (kq : Nat) (x40_12 : Bool),v40 = .bool x40_12 ∧ Aside0 (bits_Read.j2 kq l0 a1 (Go.bits .or .u64 x7_2 (ji12)) (wrap64 (x8_2 + 1)) (rd l0 (ji7)) x40_12 = some (r1,r2,r3)) ∧ Aside0 (kq ≤ k2) ∧ Drawn0 w wc)
          case first =>
           have H:=HC13.out
           clear HC13
           by_cases c14 : (rd l0 (ji7)) = 0
           ·rw [if_pos c14] at H
            have c14b0 : ((rd l0 (ji7)) == 0) = true:=beq_iff_eq.mpr c14
            have c14b1 : ((rd l0 (ji7)) != 0) = false:=bne_eq_false_iff_eq.mpr c14
            clear c14
            (first | rw [c14b0] | (simp only [i64_w,i32_w];rw [c14b0]) | skip)
            have H':=Aside0.mk H
            clear H
            go_wp2
            go_meet
            case rel => exact ⟨_,(decide ((wrap64 (x8_2 + 1)) > 1)),(by first | rfl | (simp;done) | (simp [*];done)),H',⟨by have:=HJ2.out;have:=HK2.out;first | omega | exact Nat.le_refl _⟩,by repeat (first | exact Drawn0.refl _ | apply Drawn0.step)⟩
           ·rw [if_neg c14] at H
            have c14b0 : ((rd l0 (ji7)) == 0) = false:=beq_eq_false_iff_ne.mpr c14
            have c14b1 : ((rd l0 (ji7)) != 0) = true:=bne_iff_ne.mpr c14
            (first | rw [c14b0] | (simp only [i64_w,i32_w];rw [c14b0]) | skip)
            have H':=Aside0.mk H
            clear H
            go_wp2
            go_meet
            case rel => exact ⟨_,(false),(by first | rfl | (simp;done) | (simp [*];done)),H',⟨by have:=HJ2.out;have:=HK2.out;first | omega | exact Nat.le_refl _⟩,by repeat (first | exact Drawn0.refl _ | apply Drawn0.step)⟩
          case rest =>
           clear HC13
           try clear c1
           try clear c2
           try clear p2
           try clear p3
           try clear q3
           try clear hx3
           try clear c4
           try clear c4b0
           try clear c5
           try clear c6
           try clear c6b0
           try clear c6b1
           try clear p6
           try clear c7
           try clear c8
           try clear c8b0
           try clear c9
           try clear c9b0
           try clear c11
           try clear c11b0
           try clear c11b1
           try clear c14
           try clear c14b0
           try clear c14b1
           try clear hx356_0
           try clear p2
           try clear p356
           try clear q356
           obtain ⟨kq,x40_12,rfl,HA,HJ12,⟨mc12,rfl⟩⟩:=hcut
           cases kq with
           | zero => exact absurd HA.out (by simp [bits_Read.j2])
           | succ kj12 =>
            have H:=HA.out
            clear HA
            simp only [bits_Read.j2] at H
            have HC15:=Aside0.mk H
            clear H
            go_upto_if 40 with (fail)
            go_cut [40] (fun v40 wc => ∃ (kq : Nat) (x40_14 : Bool),v40 = .bool x40_14 ∧ Aside0 (bits_Read.j3 kq l0 a1 (Go.bits .or .u64 x7_2 (ji12)) (wrap64 (x8_2 + 1)) (rd l0 (ji7)) x40_14 = some (r1,r2,r3)) ∧ Aside0 (kq ≤ kj12) ∧ Drawn0 w wc)
            case first =>
             have H:=HC15.out
             clear HC15
             by_cases c16 : x40_12 = true
             ·subst c16
              have H1 : (bits_Read.j3 kj12 l0 a1 (Go.bits .or .u64 x7_2 (ji12)) (wrap64 (x8_2 + 1)) (rd l0 (ji7)) true) = some (r1,r2,r3):=by rw [if_pos rfl] at H;exact H
              clear H
              have H:=H1
              clear H1
              have H':=Aside0.mk H
              clear H
              go_wp2
              go_meet
              case rel => exact ⟨_,(true),(by first | rfl | (simp;done) | (simp [*];done)),H',⟨by have:=HJ2.out;have:=HK2.out;have:=HJ12.out;first | omega | exact Nat.le_refl _⟩,by repeat (first | exact Drawn0.refl _ | apply Drawn0.step)⟩
             ·replace c16:=Bool.eq_false_iff.mpr c16
              subst c16
              have H1 : (if (wrap64 (x8_2 + 1)) = 9 then (if (rd l0 (ji7)) ≥ 128 then (bits_Read.j3 kj12 l0 a1 (Go.bits .or .u64 x7_2 (ji12)) (wrap64 (x8_2 + 1)) (rd l0 (ji7)) true) else (bits_Read.j3 kj12 l0 a1 (Go.bits .or .u64 x7_2 (ji12)) (wrap64 (x8_2 + 1)) (rd l0 (ji7)) (decide ((Go.bits .or .u64 x7_2 (ji12)) > 4611686018427387903)))) else (bits_Read.j3 kj12 l0 a1 (Go.bits .or .u64 x7_2 (ji12)) (wrap64 (x8_2 + 1)) (rd l0 (ji7)) false)) = some (r1,r2,r3):=by rw [if_neg (show ¬ (false = true) by decide)] at H;exact H
              clear H
              have H:=H1
              clear H1
              by_cases c17 : (wrap64 (x8_2 + 1)) = 9
              ·rw [if_pos c17] at H
               have c17b0 : ((wrap64 (x8_2 + 1)) == 9) = true:=beq_iff_eq.mpr c17
               have c17b1 : ((wrap64 (x8_2 + 1)) != 9) = false:=bne_eq_false_iff_eq.mpr c17
               clear c17
               (first | rw [c17b0] | (simp only [i64_w,i32_w];rw [c17b0]) | skip)
               by_cases c18 : (rd l0 (ji7)) ≥ 128
               ·rw [if_pos c18] at H
                have c18b0 : decide (128 ≤ (rd l0 (ji7))) = true:=decide_eq_true c18
                clear c18
                have H':=Aside0.mk H
                clear H
                go_wp2
                go_meet
                case rel => exact ⟨_,(true),(by first | rfl | (simp;done) | (simp [*];done)),H',⟨by have:=HJ2.out;have:=HK2.out;have:=HJ12.out;first | omega | exact Nat.le_refl _⟩,by repeat (first | exact Drawn0.refl _ | apply Drawn0.step)⟩
               ·rw [if_neg c18] at H
                have c18b0 : decide (128 ≤ (rd l0 (ji7))) = false:=decide_eq_false c18
                clear c18
                have H':=Aside0.mk H
                clear H
                go_wp2
                go_meet
                case rel => exact ⟨_,(decide ((Go.bits .or .u64 x7_2 (ji12)) > 4611686018427387903)),(by first | rfl | (simp;done) | (simp only [← hji12] <;> (first | rfl | simp)) | (simp [*];done)),H',⟨by have:=HJ2.out;have:=HK2.out;have:=HJ12.out;first | omega | exact Nat.le_refl _⟩,by repeat (first | exact Drawn0.refl _ | apply Drawn0.step)⟩
              ·rw [if_neg c17] at H
               have c17b0 : ((wrap64 (x8_2 + 1)) == 9) = false:=beq_eq_false_iff_ne.mpr c17
               have c17b1 : ((wrap64 (x8_2 + 1)) != 9) = true:=bne_iff_ne.mpr c17
               (first | rw [c17b0] | (simp only [i64_w,i32_w];rw [c17b0]) | skip)
               have H':=Aside0.mk H
               clear H
               go_wp2
               go_meet
               case rel => exact ⟨_,(false),(by first | rfl | (simp;done) | (simp [*];done)),H',⟨by have:=HJ2.out;have:=HK2.out;have:=HJ12.out;first | omega | exact Nat.le_refl _⟩,by repeat (first | exact Drawn0.refl _ | apply Drawn0.step)⟩
            case rest =>
             clear HC15
             try clear c1
             try clear c2
             try clear p2
             try clear p3
             try clear q3
             try clear hx3
             try clear c4
             try clear c4b0
             try clear c5
             try clear c6
             try clear c6b0
             try clear c6b1
             try clear p6
             try clear c7
             try clear c8
             try clear c8b0
             try clear c9
             try clear c9b0
             try clear c11
             try clear c11b0
             try clear c11b1
             try clear c12
             try clear c14
             try clear c14b0
             try clear c14b1
             try clear c16
             try clear c17
             try clear c17b0
             try clear c17b1
             try clear c18
             try clear c18b0
             try clear hx356_0
             try clear p2
             try clear p3
             try clear p356
             try clear p6
             try clear q3
             try clear q356
             obtain ⟨kq,x40_14,rfl,HA,HJ14,⟨mc14,rfl⟩⟩:=hcut
             cases kq with
             | zero => exact absurd HA.out (by simp [bits_Read.j3])
             | succ kj14 =>
              have H:=HA.out
              clear HA
              simp only [bits_Read.j3] at H
              by_cases c19 : x40_14 = true
              ·subst c19
               have H1 : (some (0,0,11)) = some (r1,r2,r3):=by rw [if_pos rfl] at H;exact H
               clear H
               have H:=H1
               clear H1
               simp only [Option.some.injEq,Prod.mk.injEq] at H
               obtain ⟨rfl,rfl,rfl⟩:=H
               go_wp2
               (try rw [Exit.noGoto_ret])
               go_ret3
               exact ⟨by first | rfl | (simp;done) | (simp only [← hji7,← hji10,← hji12] <;> (first | rfl | simp)) | (simp [*];done),by repeat (first | exact Drawn0.refl _ | apply Drawn0.step)⟩
              ·replace c19:=Bool.eq_false_iff.mpr c19
               subst c19
               have H1 : (if (rd l0 (ji7)) < 128 then (some (wrap64 ((Go.bits .or .u64 x7_2 (ji12))),wrap64 (a1 + (wrap64 (x8_2 + 1))),0)) else (bits_Read.l0 kj14 l0 a1 (Go.bits .or .u64 x7_2 (ji12)) (wrap64 (x8_2 + 1)))) = some (r1,r2,r3):=by rw [if_neg (show ¬ (false = true) by decide)] at H;exact H
               clear H
               have H:=H1
               clear H1
               by_cases c20 : (rd l0 (ji7)) < 128
               ·rw [if_pos c20] at H
                have c20b0 : decide ((rd l0 (ji7)) < 128) = true:=decide_eq_true c20
                clear c20
                simp only [Option.some.injEq,Prod.mk.injEq] at H
                obtain ⟨rfl,rfl,rfl⟩:=H
                go_wp2
                (try rw [Exit.noGoto_ret])
                go_ret3
                exact ⟨by first | rfl | (simp;done) | (simp only [← hji7,← hji10,← hji12] <;> (first | rfl | simp)) | (simp [*];done),by repeat (first | exact Drawn0.refl _ | apply Drawn0.step)⟩
               ·rw [if_neg c20] at H
                have c20b0 : decide ((rd l0 (ji7)) < 128) = false:=decide_eq_false c20
                clear c20
                have H':=Aside0.mk H
                clear H
                go_wp2
                go_roundg kj14
                case measure => have:=HJ2.out;have:=HK2.out;have:=HJ12.out;have:=HJ14.out;omega
                case rel => exact ⟨((Go.bits .or .u64 x7_2 (ji12))),((wrap64 (x8_2 + 1))),(by first | rfl | (simp;done) | (simp only [← hji12] <;> (first | rfl | simp)) | (simp [*];done)),(by first | rfl | (simp;done) | (simp [*];done)),H',⟨by have:=HJ2.out;have:=HK2.out;have:=HJ12.out;have:=HJ14.out;omega⟩,by repeat (first | exact Drawn0.refl _ | apply Drawn0.step)⟩
         ·rw [if_neg c11] at H
          exact absurd H (by simp)
        ·rw [if_neg c9] at H
         exact absurd H (by simp)
       ·rw [if_neg c8] at H
        exact absurd H (by simp)
end Go.Proofs.Ytbiijcehgiibeaa.Q
namespace Go.Proofs.Ytbiijcehgiibeaa.Q
open Go.RowKit Go.Proofs.YtbiijcehgiibeaaW.PrintWords Go.Proofs.YtbiijcehgiibeaaW.PrintLast Go.Proofs.YtbiijcehgiibeaaW.PrintMore
attribute [local go_sem] max2_int min2_int max_two min_two max_three min_three max_four min_four   -- for this text's walks alone
set_option linter.unusedVariables false
set_option linter.unusedSimpArgs false
mutual
def reeveref01_Read.j0 : Nat → List Int → Int → Bool → Option (Int × Int × Int)
 | 0,_,_,_ => none
 | k + 1,x0,x1,x18 => if x18 = true then (some (0,0,1)) else (reeveref01_Read.l0 k x0 x1 0 1 0)
def reeveref01_Read.l0 : Nat → List Int → Int → Int → Int → Int → Option (Int × Int × Int)
 | 0,_,_,_,_,_ => none
 | k + 1,x0,x1,x7,x8,x9 => if x9 < 9 then (if x9 = (wrap64 ((x0.length : Int) - x1)) then (some (0,0,10)) else (if 0 ≤ (wrap64 (x1 + x9)) then (if (wrap64 (x1 + x9)) < (x0.length : Int) then (if (wrap64 (rd x0 (wrap64 (x1 + x9)))) = 0 then (reeveref01_Read.j2 k x0 x1 x7 x8 x9 (wrap64 (rd x0 (wrap64 (x1 + x9)))) (decide (x9 > 0))) else (reeveref01_Read.j2 k x0 x1 x7 x8 x9 (wrap64 (rd x0 (wrap64 (x1 + x9)))) false)) else (none)) else (none))) else (some (0,0,11))
def reeveref01_Read.j2 : Nat → List Int → Int → Int → Int → Int → Int → Bool → Option (Int × Int × Int)
 | 0,_,_,_,_,_,_,_ => none
 | k + 1,x0,x1,x7,x8,x9,x10,x41 => if x41 = true then (some (0,0,11)) else (if x9 = 8 then (reeveref01_Read.j3 k x0 x1 x7 x8 x9 x10 (decide (x10 ≥ 64))) else (reeveref01_Read.j3 k x0 x1 x7 x8 x9 x10 false))
def reeveref01_Read.j3 : Nat → List Int → Int → Int → Int → Int → Int → Bool → Option (Int × Int × Int)
 | 0,_,_,_,_,_,_,_ => none
 | k + 1,x0,x1,x7,x8,x9,x10,x47 => if x47 = true then (some (0,0,11)) else (if x10 < 128 then (some (wrap64 (x7 + (wrap64 ((Int.tmod x10 128) * x8))),wrap64 ((wrap64 (x1 + x9)) + 1),0)) else (reeveref01_Read.l0 k x0 x1 (wrap64 (x7 + (wrap64 ((Int.tmod x10 128) * x8)))) (wrap64 (128 * x8)) (wrap64 (x9 + 1))))
end
def reeveref01_Read.f (k : Nat) (l0 : List Int) (a1 : Int) : Option (Int × Int × Int):=if a1 < 0 then (reeveref01_Read.j0 k l0 a1 true) else (reeveref01_Read.j0 k l0 a1 (decide (a1 > (l0.length : Int))))
set_option maxHeartbeats 8000000 in
set_option maxRecDepth 100000 in
theorem reeveref01_Read.calls (k : Nat) (A0 : Option Addr) (c0 : Nat) (l0 : List Int) (a1 : Int) (r1 : Int) (r2 : Int) (r3 : Int) (w : World) (hr0 : Kd.C (Kd.int .u8) w A0 l0.length l0) (hc0 : l0.length ≤ c0) (h : reeveref01_Read.f k l0 a1 = some (r1,r2,r3)) :
  Calls Try.prog 83 #[.slice A0 l0.length c0,.int .i64 a1] w fun e w' => e = .returned (.tuple #[.int .i64 r1,.int .i64 r2,.int .i64 r3]) ∧ Drawn0 w w':=by
 have HR0:=Aside0.mk hr0
 have HC0:=Aside0.mk hc0
 clear hr0 hc0
 have H : (if a1 < 0 then (reeveref01_Read.j0 k l0 a1 true) else (reeveref01_Read.j0 k l0 a1 (decide (a1 > (l0.length : Int))))) = some (r1,r2,r3):=h
 clear h
 have HC3:=Aside0.mk H
 clear H
 go_enter Try.func83,Try.ntmps83
 go_upto_region 1 with (fail)
 go_cut [18] (fun v18 wc => ∃ (kq : Nat) (x18_2 : Bool),v18 = .bool x18_2 ∧ Aside0 (reeveref01_Read.j0 kq l0 a1 x18_2 = some (r1,r2,r3)) ∧ Aside0 (kq ≤ k) ∧ Drawn0 w wc)
 case first =>
  have H:=HC3.out
  clear HC3
  by_cases c4 : a1 < 0
  ·rw [if_pos c4] at H
   have c4b0 : decide (a1 < 0) = true:=decide_eq_true c4
   clear c4
   (first | rw [c4b0] | (simp only [i64_w,i32_w];rw [c4b0]) | skip)
   have H':=Aside0.mk H
   clear H
   go_wp2
   go_meet
   case rel => exact ⟨_,(true),(by first | rfl | (simp;done) | (simp [*];done)),H',⟨by first | omega | exact Nat.le_refl _⟩,by repeat (first | exact Drawn0.refl _ | apply Drawn0.step)⟩
  ·rw [if_neg c4] at H
   have c4b0 : decide (a1 < 0) = false:=decide_eq_false c4
   clear c4
   (first | rw [c4b0] | (simp only [i64_w,i32_w];rw [c4b0]) | skip)
   have H':=Aside0.mk H
   clear H
   go_wp2
   go_meet
   case rel => exact ⟨_,(decide (a1 > (l0.length : Int))),(by first | rfl | (simp;done) | (simp [*];done)),H',⟨by first | omega | exact Nat.le_refl _⟩,by repeat (first | exact Drawn0.refl _ | apply Drawn0.step)⟩
 case rest =>
  clear HC3
  try clear p2
  try clear c4
  try clear c4b0
  obtain ⟨kq,x18_2,rfl,HA,HJ2,⟨mc2,rfl⟩⟩:=hcut
  cases kq with
  | zero => exact absurd HA.out (by simp [reeveref01_Read.j0])
  | succ kj2 =>
   have H:=HA.out
   clear HA
   simp only [reeveref01_Read.j0] at H
   by_cases c5 : x18_2 = true
   ·subst c5
    have H1 : (some (0,0,1)) = some (r1,r2,r3):=by rw [if_pos rfl] at H;exact H
    clear H
    have H:=H1
    clear H1
    simp only [Option.some.injEq,Prod.mk.injEq] at H
    obtain ⟨rfl,rfl,rfl⟩:=H
    go_wp2
    go_ret3
    exact ⟨by first | rfl | (simp;done) | (simp [*];done),by repeat (first | exact Drawn0.refl _ | apply Drawn0.step)⟩
   ·replace c5:=Bool.eq_false_iff.mpr c5
    subst c5
    have H1 : (reeveref01_Read.l0 kj2 l0 a1 0 1 0) = some (r1,r2,r3):=by rw [if_neg (show ¬ (false = true) by decide)] at H;exact H
    clear H
    have H:=H1
    clear H1
    have H':=Aside0.mk H
    clear H
    go_wp2
    go_loopg [7,8,9] kj2 (fun kq v7 v8 v9 w' => ∃ (x7_2 : Int) (x8_2 : Int) (x9_2 : Int),v7 = .int .i64 x7_2 ∧ v8 = .int .i64 x8_2 ∧ v9 = .int .i64 x9_2 ∧ Aside0 (reeveref01_Read.l0 kq l0 a1 x7_2 x8_2 x9_2 = some (r1,r2,r3)) ∧ Aside0 (kq ≤ kj2) ∧ Drawn0 w w')
    case atStart => exact ⟨(0),(1),(0),(by first | rfl | (simp;done) | (simp [*];done)),(by first | rfl | (simp;done) | (simp [*];done)),(by first | rfl | (simp;done) | (simp [*];done)),H',⟨Nat.le_refl _⟩,by repeat (first | exact Drawn0.refl _ | apply Drawn0.step)⟩
    case round =>
     clear H'
     try clear c2
     try clear p2
     try clear c4
     try clear c4b0
     try clear c5
     try clear p2
     obtain ⟨x7_2,x8_2,x9_2,rfl,rfl,rfl,HA,HK2,⟨m2,rfl⟩⟩:=hrel
     cases gk with
     | zero => exact absurd HA.out (by simp [reeveref01_Read.l0])
     | succ k2 =>
      have H:=HA.out
      clear HA
      simp only [reeveref01_Read.l0] at H
      by_cases c6 : x9_2 < 9
      ·rw [if_pos c6] at H
       have c6b0 : decide (x9_2 < 9) = true:=decide_eq_true c6
       clear c6
       by_cases c7 : x9_2 = (wrap64 ((l0.length : Int) - a1))
       ·rw [if_pos c7] at H
        have c7b0 : (x9_2 == (wrap64 ((l0.length : Int) - a1))) = true:=beq_iff_eq.mpr c7
        have c7b1 : (x9_2 != (wrap64 ((l0.length : Int) - a1))) = false:=bne_eq_false_iff_eq.mpr c7
        clear c7
        simp only [Option.some.injEq,Prod.mk.injEq] at H
        obtain ⟨rfl,rfl,rfl⟩:=H
        go_wp2
        go_ret3
        exact ⟨by first | rfl | (simp;done) | (simp [*];done),by repeat (first | exact Drawn0.refl _ | apply Drawn0.step)⟩
       ·rw [if_neg c7] at H
        have c7b0 : (x9_2 == (wrap64 ((l0.length : Int) - a1))) = false:=beq_eq_false_iff_ne.mpr c7
        have c7b1 : (x9_2 != (wrap64 ((l0.length : Int) - a1))) = true:=bne_iff_ne.mpr c7
        obtain ⟨ji8,hji8⟩ : ∃ j_ : Int,(wrap64 (a1 + x9_2)) = j_:=⟨_,rfl⟩
        replace H : (if 0 ≤ (ji8) then (if (ji8) < (l0.length : Int) then (if (wrap64 (rd l0 (ji8))) = 0 then (reeveref01_Read.j2 k2 l0 a1 x7_2 x8_2 x9_2 (wrap64 (rd l0 (ji8))) (decide (x9_2 > 0))) else (reeveref01_Read.j2 k2 l0 a1 x7_2 x8_2 x9_2 (wrap64 (rd l0 (ji8))) false)) else (none)) else (none)) = some (r1,r2,r3):=by first | (rw [hji8] at H;exact H) | (simp only [hji8] at H ⊢;exact H)
        have hji8w : (IntKind.i64.wrap (a1 + x9_2)) = ji8:=(i64_w _).trans hji8
        by_cases c9 : 0 ≤ (ji8)
        ·rw [if_pos c9] at H
         have c9b0 : decide (0 ≤ (ji8)) = true:=decide_eq_true c9
         clear c9
         by_cases c10 : (ji8) < (l0.length : Int)
         ·rw [if_pos c10] at H
          have c10b0 : decide ((ji8) < (l0.length : Int)) = true:=decide_eq_true c10
          clear c10
          have HC11:=Aside0.mk H
          clear H
          have p876 : 0 ≤ ((ji8) : Int):=of_decide_eq_true (by first | (with_reducible assumption) | assumption)
          have q876 : (ji8) < (l0.length : Int):=of_decide_eq_true (by first | (with_reducible assumption) | assumption)
          obtain ⟨ad876,e876,hx876_0⟩:=Kd.at_int HR0.out (ji8) p876 q876
          cases e876
          replace p876:=eq_true p876
          replace q876:=eq_true q876
          go_upto_region 11 with (fail)
          go_cut [41] (fun v41 wc => ∃ (kq : Nat) (x41_10 : Bool),v41 = .bool x41_10 ∧ Aside0 (reeveref01_Read.j2 kq l0 a1 x7_2 x8_2 x9_2 (wrap64 (rd l0 (ji8))) x41_10 = some (r1,r2,r3)) ∧ Aside0 (kq ≤ k2) ∧ Drawn0 w wc)
          case first =>
           have H:=HC11.out
           clear HC11
           by_cases c12 : (wrap64 (rd l0 (ji8))) = 0
           ·rw [if_pos c12] at H
            have c12b0 : ((wrap64 (rd l0 (ji8))) == 0) = true:=beq_iff_eq.mpr c12
            have c12b1 : ((wrap64 (rd l0 (ji8))) != 0) = false:=bne_eq_false_iff_eq.mpr c12
            clear c12
            (first | rw [c12b0] | (simp only [i64_w,i32_w];rw [c12b0]) | skip)
            have H':=Aside0.mk H
            clear H
            go_wp2
            go_meet
            case rel => exact ⟨_,(decide (x9_2 > 0)),(by first | rfl | (simp;done) | (simp [*];done)),H',⟨by have:=HJ2.out;have:=HK2.out;first | omega | exact Nat.le_refl _⟩,by repeat (first | exact Drawn0.refl _ | apply Drawn0.step)⟩
           ·rw [if_neg c12] at H
            have c12b0 : ((wrap64 (rd l0 (ji8))) == 0) = false:=beq_eq_false_iff_ne.mpr c12
            have c12b1 : ((wrap64 (rd l0 (ji8))) != 0) = true:=bne_iff_ne.mpr c12
            (first | rw [c12b0] | (simp only [i64_w,i32_w];rw [c12b0]) | skip)
            have H':=Aside0.mk H
            clear H
            go_wp2
            go_meet
            case rel => exact ⟨_,(false),(by first | rfl | (simp;done) | (simp [*];done)),H',⟨by have:=HJ2.out;have:=HK2.out;first | omega | exact Nat.le_refl _⟩,by repeat (first | exact Drawn0.refl _ | apply Drawn0.step)⟩
          case rest =>
           clear HC11
           try clear c1
           try clear c2
           try clear p2
           try clear c4
           try clear c4b0
           try clear c5
           try clear c6
           try clear c6b0
           try clear p6
           try clear c7
           try clear c7b0
           try clear c7b1
           try clear c8
           try clear p8
           try clear q8
           try clear hx8
           try clear c9
           try clear c9b0
           try clear c10
           try clear c10b0
           try clear c12
           try clear c12b0
           try clear c12b1
           try clear hx876_0
           try clear p2
           try clear p876
           try clear q876
           obtain ⟨kq,x41_10,rfl,HA,HJ10,⟨mc10,rfl⟩⟩:=hcut
           cases kq with
           | zero => exact absurd HA.out (by simp [reeveref01_Read.j2])
           | succ kj10 =>
            have H:=HA.out
            clear HA
            simp only [reeveref01_Read.j2] at H
            by_cases c13 : x41_10 = true
            ·subst c13
             have H1 : (some (0,0,11)) = some (r1,r2,r3):=by rw [if_pos rfl] at H;exact H
             clear H
             have H:=H1
             clear H1
             simp only [Option.some.injEq,Prod.mk.injEq] at H
             obtain ⟨rfl,rfl,rfl⟩:=H
             go_wp2
             go_ret3
             exact ⟨by first | rfl | (simp;done) | (simp only [← hji8] <;> (first | rfl | simp)) | (simp [*];done),by repeat (first | exact Drawn0.refl _ | apply Drawn0.step)⟩
            ·replace c13:=Bool.eq_false_iff.mpr c13
             subst c13
             have H1 : (if x9_2 = 8 then (reeveref01_Read.j3 kj10 l0 a1 x7_2 x8_2 x9_2 (wrap64 (rd l0 (ji8))) (decide ((wrap64 (rd l0 (ji8))) ≥ 64))) else (reeveref01_Read.j3 kj10 l0 a1 x7_2 x8_2 x9_2 (wrap64 (rd l0 (ji8))) false)) = some (r1,r2,r3):=by rw [if_neg (show ¬ (false = true) by decide)] at H;exact H
             clear H
             have H:=H1
             clear H1
             have HC14:=Aside0.mk H
             clear H
             go_upto_region 13 with (fail)
             go_cut [47] (fun v47 wc => ∃ (kq : Nat) (x47_13 : Bool),v47 = .bool x47_13 ∧ Aside0 (reeveref01_Read.j3 kq l0 a1 x7_2 x8_2 x9_2 (wrap64 (rd l0 (ji8))) x47_13 = some (r1,r2,r3)) ∧ Aside0 (kq ≤ kj10) ∧ Drawn0 w wc)
             case first =>
              have H:=HC14.out
              clear HC14
              by_cases c15 : x9_2 = 8
              ·rw [if_pos c15] at H
               have c15b0 : (x9_2 == 8) = true:=beq_iff_eq.mpr c15
               have c15b1 : (x9_2 != 8) = false:=bne_eq_false_iff_eq.mpr c15
               clear c15
               (first | rw [c15b0] | (simp only [i64_w,i32_w];rw [c15b0]) | skip)
               have H':=Aside0.mk H
               clear H
               go_wp2
               go_meet
               case rel => exact ⟨_,(decide ((wrap64 (rd l0 (ji8))) ≥ 64)),(by first | rfl | (simp;done) | (simp only [← hji8] <;> (first | rfl | simp)) | (simp [*];done)),H',⟨by have:=HJ2.out;have:=HK2.out;have:=HJ10.out;first | omega | exact Nat.le_refl _⟩,by repeat (first | exact Drawn0.refl _ | apply Drawn0.step)⟩
              ·rw [if_neg c15] at H
               have c15b0 : (x9_2 == 8) = false:=beq_eq_false_iff_ne.mpr c15
               have c15b1 : (x9_2 != 8) = true:=bne_iff_ne.mpr c15
               (first | rw [c15b0] | (simp only [i64_w,i32_w];rw [c15b0]) | skip)
               have H':=Aside0.mk H
               clear H
               go_wp2
               go_meet
               case rel => exact ⟨_,(false),(by first | rfl | (simp;done) | (simp [*];done)),H',⟨by have:=HJ2.out;have:=HK2.out;have:=HJ10.out;first | omega | exact Nat.le_refl _⟩,by repeat (first | exact Drawn0.refl _ | apply Drawn0.step)⟩
             case rest =>
              clear HC14
              try clear c1
              try clear c2
              try clear p2
              try clear c4
              try clear c4b0
              try clear c5
              try clear c6
              try clear c6b0
              try clear p6
              try clear c7
              try clear c7b0
              try clear c7b1
              try clear c8
              try clear p8
              try clear q8
              try clear hx8
              try clear c9
              try clear c9b0
              try clear c10
              try clear c10b0
              try clear c12
              try clear c12b0
              try clear c12b1
              try clear c13
              try clear c15
              try clear c15b0
              try clear c15b1
              try clear hx876_0
              try clear p2
              try clear p6
              try clear p8
              try clear p876
              try clear q8
              try clear q876
              obtain ⟨kq,x47_13,rfl,HA,HJ13,⟨mc13,rfl⟩⟩:=hcut
              cases kq with
              | zero => exact absurd HA.out (by simp [reeveref01_Read.j3])
              | succ kj13 =>
               have H:=HA.out
               clear HA
               simp only [reeveref01_Read.j3] at H
               by_cases c16 : x47_13 = true
               ·subst c16
                have H1 : (some (0,0,11)) = some (r1,r2,r3):=by rw [if_pos rfl] at H;exact H
                clear H
                have H:=H1
                clear H1
                simp only [Option.some.injEq,Prod.mk.injEq] at H
                obtain ⟨rfl,rfl,rfl⟩:=H
                go_wp2
                go_ret3
                exact ⟨by first | rfl | (simp;done) | (simp only [← hji8] <;> (first | rfl | simp)) | (simp [*];done),by repeat (first | exact Drawn0.refl _ | apply Drawn0.step)⟩
               ·replace c16:=Bool.eq_false_iff.mpr c16
                subst c16
                have H1 : (if (wrap64 (rd l0 (ji8))) < 128 then (some (wrap64 (x7_2 + (wrap64 ((Int.tmod (wrap64 (rd l0 (ji8))) 128) * x8_2))),wrap64 ((wrap64 (a1 + x9_2)) + 1),0)) else (reeveref01_Read.l0 kj13 l0 a1 (wrap64 (x7_2 + (wrap64 ((Int.tmod (wrap64 (rd l0 (ji8))) 128) * x8_2)))) (wrap64 (128 * x8_2)) (wrap64 (x9_2 + 1)))) = some (r1,r2,r3):=by rw [if_neg (show ¬ (false = true) by decide)] at H;exact H
                clear H
                have H:=H1
                clear H1
                by_cases c17 : (wrap64 (rd l0 (ji8))) < 128
                ·rw [if_pos c17] at H
                 have c17b0 : decide ((wrap64 (rd l0 (ji8))) < 128) = true:=decide_eq_true c17
                 clear c17
                 simp only [Option.some.injEq,Prod.mk.injEq] at H
                 obtain ⟨rfl,rfl,rfl⟩:=H
                 go_wp2
                 go_ret3
                 exact ⟨by first | rfl | (simp;done) | (simp only [← hji8] <;> (first | rfl | simp)) | (simp [*];done),by repeat (first | exact Drawn0.refl _ | apply Drawn0.step)⟩
                ·rw [if_neg c17] at H
                 have c17b0 : decide ((wrap64 (rd l0 (ji8))) < 128) = false:=decide_eq_false c17
                 clear c17
                 have H':=Aside0.mk H
                 clear H
                 go_wp2
                 go_roundg kj13
                 case measure => have:=HJ2.out;have:=HK2.out;have:=HJ10.out;have:=HJ13.out;omega
                 case rel => exact ⟨(wrap64 (x7_2 + (wrap64 ((Int.tmod (wrap64 (rd l0 (ji8))) 128) * x8_2)))),(wrap64 (128 * x8_2)),(wrap64 (x9_2 + 1)),(by first | rfl | (simp;done) | (simp only [← hji8] <;> (first | rfl | simp)) | (simp [*];done)),(by first | rfl | (simp;done) | (simp [*];done)),(by first | rfl | (simp;done) | (simp [*];done)),H',⟨by have:=HJ2.out;have:=HK2.out;have:=HJ10.out;have:=HJ13.out;omega⟩,by repeat (first | exact Drawn0.refl _ | apply Drawn0.step)⟩
         ·rw [if_neg c10] at H
          exact absurd H (by simp)
        ·rw [if_neg c9] at H
         exact absurd H (by simp)
      ·rw [if_neg c6] at H
       have c6b0 : decide (x9_2 < 9) = false:=decide_eq_false c6
       clear c6
       simp only [Option.some.injEq,Prod.mk.injEq] at H
       obtain ⟨rfl,rfl,rfl⟩:=H
       go_wp2
       go_ret3
       exact ⟨by first | rfl | (simp;done) | (simp [*];done),by repeat (first | exact Drawn0.refl _ | apply Drawn0.step)⟩
end Go.Proofs.Ytbiijcehgiibeaa.Q
namespace Go.Proofs.Ytbiijcehgiibeaa.Pure
open Go.RowKit Go.Proofs.Ytbiijcehgiibeaa.Q Go.Proofs.YtbiijcehgiibeaaW.PrintWords
set_option linter.unusedVariables false
set_option linter.unusedSimpArgs false
def wr : Nat → Int → List Int
  | 0, n => [n]
  | d + 1, n => if n ≥ 128 then (n % 128 + 128) :: wr d (n / 128) else [n]
def number (n : Int) : List Int × Int := if 0 ≤ n ∧ n ≤ 4611686018427387903 then (wr 8 n, 0) else ([], 1)
theorem or128 : ∀ x : Fin 128, Go.bits .or .u8 (x.val : Int) 128 = (x.val : Int) + 128 := by decide +kernel
theorem or128' {x : Int} (h0 : 0 ≤ x) (h1 : x < 128) : Go.bits .or .u8 x 128 = x + 128 := by
  obtain ⟨m, rfl⟩ := Int.eq_ofNat_of_zero_le h0
  exact or128 ⟨m, by omega⟩
theorem num0 : ∀ (d k : Nat) (n : Int) (acc : List Int), 0 ≤ n → n < 128 ^ (d + 1) → d < k → acc.length + d < 1000 → bits_Number.l0 k n acc = some (acc ++ wr d n, 0) := by
  intro d
  induction d with
  | zero =>
    intro k n acc h0 h1 hk ha
    obtain ⟨k, rfl⟩ : ∃ j, k = j + 1 := ⟨k - 1, by omega⟩
    have h1' : n < 128 := by simpa using h1
    simp only [bits_Number.l0]
    rw [if_neg (by omega), if_pos (by omega), show n % 256 = n by omega]
    rfl
  | succ d ih =>
    intro k n acc h0 h1 hk ha
    obtain ⟨k, rfl⟩ : ∃ j, k = j + 1 := ⟨k - 1, by omega⟩
    simp only [bits_Number.l0]
    unfold wr
    by_cases c : n ≥ 128
    · rw [if_pos c, if_pos c, if_pos (by omega), Int.tmod_eq_emod_of_nonneg h0, show n % 128 % 256 = n % 128 by omega, or128' (by omega) (by omega), ih k (n / 128) _ (by omega) (by
        rw [Int.pow_succ] at h1
        omega) (by omega) (by simp; omega)]
      simp
    · rw [if_neg c, if_neg c, if_pos (by omega), show n % 256 = n by omega]
theorem bnumber (n : Int) {k : Nat} (hk : 9 < k) : bits_Number.f k n = some (number n) := by
  unfold bits_Number.f bits_may.f number
  by_cases h0 : n ≥ 0
  · rw [if_pos h0]
    simp only [Option.bind_some]
    by_cases h1 : n ≤ 4611686018427387903
    · rw [if_pos (by simpa using h1), if_pos ⟨h0, h1⟩]
      have := num0 8 k n [] h0 (by omega) (by omega) (by simp)
      simpa using this
    · rw [if_neg (by simpa using h1), if_neg (fun e => h1 e.2)]
  · rw [if_neg h0, if_neg (fun e => h0 e.1)]
    rfl
def rd9 (l : List Int) (a : Nat) : Nat → Nat → Int → Int × Int × Int
  | 0, _, _ => (0, 0, 11)
  | d + 1, i, n => if a + i = l.length then (0, 0, 10) else if l.getD (a + i) 0 = 0 ∧ 0 < i then (0, 0, 11) else if i = 8 ∧ 64 ≤ l.getD (a + i) 0 then (0, 0, 11) else
      if l.getD (a + i) 0 < 128 then (n + l.getD (a + i) 0 % 128 * 128 ^ i, (a : Int) + i + 1, 0) else rd9 l a d (i + 1) (n + l.getD (a + i) 0 % 128 * 128 ^ i)
def readn (l : List Int) (a : Int) : Int × Int × Int := if a < 0 ∨ a > (l.length : Int) then (0, 0, 1) else rd9 l a.toNat 9 0 0
theorem or_sum64 (s : Nat) {x y : Int} (h0 : 0 ≤ x) (h1 : x < 2 ^ s) (h2 : 0 ≤ y) (h3 : y < 2 ^ 63) (hs : s ≤ 63) (h4 : y % 2 ^ s = 0) : Go.bits .or .u64 x y = x + y := by
  rw [or_comm, Int.add_comm]
  have hp : (2 : Int) ^ s ≤ 2 ^ 63 := by exact_mod_cast Nat.pow_le_pow_right (n := 2) (by decide) hs
  exact Go.bits_join .u64 63 (by decide) (fun n a b => by rw [Go.IntKind.wrap_u64]; omega) s y x h2 h4 h3 h0 h1 (by omega)
theorem dig {n c : Int} {s : Nat} (hs : s ≤ 56) (hn0 : 0 ≤ n) (hn : n < 2 ^ s) (hc0 : 0 ≤ c) (hc : c < 128) : Go.bits .or .u64 n (shl .u64 (IntKind.u64.wrap c) (s : Int)) = n + c * 2 ^ s := by
  have hp : (2 : Int) ^ s ≤ 2 ^ 56 := by exact_mod_cast Nat.pow_le_pow_right (n := 2) (by decide) hs
  have hp0 : (0 : Int) < 2 ^ s := Int.pow_pos (by decide)
  have h1 : c * 2 ^ s ≤ 127 * 2 ^ 56 := Int.mul_le_mul (by omega) hp (by omega) (by omega)
  have h2 : 0 ≤ c * 2 ^ s := Int.mul_nonneg hc0 (by omega)
  have e : shl .u64 (IntKind.u64.wrap c) (s : Int) = c * 2 ^ s := by
    unfold shl
    rw [Go.IntKind.wrap_u64, Go.IntKind.wrap_u64, Int.toNat_natCast, show min s IntKind.u64.bits = s from by show min s 64 = s; omega, show c % 18446744073709551616 = c by omega]
    omega
  rw [e]
  exact or_sum64 s hn0 hn h2 (by omega) (by omega) (Int.mul_emod_left _ _)
theorem pow7 (i : Nat) : (128 : Int) ^ i = 2 ^ (7 * i) := by rw [Int.pow_mul]; rfl
theorem bread0 {l : List Int} (hl : M.bytes l = true) (hn : (l.length : Int) ≤ 4611686018427387904) (a : Nat) : ∀ (d i k : Nat) (n : Int), d + i = 9 → 0 < d → a + i ≤ l.length → 0 ≤ n → n < 128 ^ i → 3 * d < k → bits_Read.l0 k l (a : Int) n (i : Int) = some (rd9 l a d i n) := by
  intro d
  induction d with
  | zero => intro i k n _ h; omega
  | succ d ih =>
    intro i k n hd _ hi h0 h1 hk
    obtain ⟨k, rfl⟩ : ∃ j, k = j + 3 := ⟨k - 3, by omega⟩
    simp only [bits_Read.l0, rd9]
    rw [w64b (n := (a : Int) + i) (by omega) (by omega)]
    by_cases c0 : a + i = l.length
    · rw [if_pos (by omega), if_pos c0]
    · have hb := M.bytes_getD hl (a + i)
      have er : rd l ((a : Int) + i) = l.getD (a + i) 0 := by unfold rd; rw [show ((a : Int) + i).toNat = a + i by omega]
      rw [if_neg (by omega), if_neg c0, if_pos (by omega), if_pos (by omega), er, w64b (n := 7 * (i : Int)) (by omega) (by omega), if_pos (by omega), w64b (n := (i : Int) + 1) (by omega) (by omega)]
      generalize l.getD (a + i) 0 = c at hb
      rw [Int.tmod_eq_emod_of_nonneg hb.1, show (7 : Int) * (i : Int) = ((7 * i : Nat) : Int) by omega, dig (s := 7 * i) (by omega) h0 (by rw [← pow7]; exact h1) (by omega) (by omega), ← pow7]
      have hp0 : (0 : Int) < 128 ^ i := Int.pow_pos (by decide)
      have hm0 : 0 ≤ c % 128 * 128 ^ i := Int.mul_nonneg (by omega) (by omega)
      have hm1 : c % 128 * 128 ^ i ≤ 127 * 128 ^ i := Int.mul_le_mul_of_nonneg_right (by omega) (by omega)
      have hs : n + c % 128 * 128 ^ i < 128 ^ (i + 1) := by rw [Int.pow_succ]; omega
      by_cases c1 : c = 0 ∧ 0 < i
      · rw [if_pos c1.1, if_pos c1]
        simp only [bits_Read.j2, bits_Read.j3]
        rw [decide_eq_true (by omega), if_pos rfl, if_pos rfl]
      · have hx : ∀ (B : Bool), (if c = 0 then bits_Read.j2 (k + 2) l (a : Int) (n + c % 128 * 128 ^ i) ((i : Int) + 1) c (decide ((i : Int) + 1 > 1)) else bits_Read.j2 (k + 2) l (a : Int) (n + c % 128 * 128 ^ i) ((i : Int) + 1) c false) = bits_Read.j2 (k + 2) l (a : Int) (n + c % 128 * 128 ^ i) ((i : Int) + 1) c false := by
          intro _
          by_cases c2 : c = 0
          · rw [if_pos c2, decide_eq_false (by omega)]
          · rw [if_neg c2]
        rw [hx true, if_neg c1]
        simp only [bits_Read.j2, bits_Read.j3]
        rw [if_neg (by decide)]
        have nx : bits_Read.l0 k l (a : Int) (n + c % 128 * 128 ^ i) ((i : Int) + 1) = some (rd9 l a d (i + 1) (n + c % 128 * 128 ^ i)) ∨ i = 8 := by
          by_cases c8 : i = 8
          · exact .inr c8
          · exact .inl (by
              rw [show (i : Int) + 1 = ((i + 1 : Nat) : Int) by omega]
              exact ih (i + 1) k _ (by omega) (by omega) (by omega) (by omega) hs (by omega))
        by_cases c8 : i = 8
        · subst c8
          have e8 : (128 : Int) ^ 8 = 72057594037927936 := by decide
          rw [e8] at h1 hm0 hm1 ⊢
          rw [if_pos (by omega)]
          by_cases c3 : 64 ≤ c
          · rw [if_pos (show 8 = 8 ∧ 64 ≤ c from ⟨rfl, c3⟩)]
            by_cases c4 : c ≥ 128
            · rw [if_pos c4, if_pos trivial]
            · rw [if_neg c4, decide_eq_true (by omega), if_pos rfl]
          · rw [if_neg (show ¬ (8 = 8 ∧ 64 ≤ c) from fun e => c3 e.2), if_neg (by omega), decide_eq_false (by omega), if_neg (by decide), if_pos (by omega), if_pos (by omega), w64b (n := n + c % 128 * 72057594037927936) (by omega) (by omega), w64b (n := (a : Int) + (((8 : Nat) : Int) + 1)) (by omega) (by omega), Int.add_assoc]
        · rw [if_neg (by omega), if_neg (by decide), if_neg (show ¬ (i = 8 ∧ 64 ≤ c) from fun e => c8 e.1)]
          by_cases c5 : c < 128
          · have hpi : (128 : Int) ^ (i + 1) ≤ 128 ^ 8 := by exact_mod_cast Nat.pow_le_pow_right (n := 128) (by decide) (by omega)
            rw [if_pos c5, if_pos c5, w64b (n := n + c % 128 * 128 ^ i) (by omega) (by omega), w64b (n := (a : Int) + ((i : Int) + 1)) (by omega) (by omega), Int.add_assoc]
          · rw [if_neg c5, if_neg c5]
            rcases nx with e | e
            · exact e
            · omega
theorem bread {l : List Int} (hl : M.bytes l = true) (hn : (l.length : Int) ≤ 4611686018427387904) (a : Int) {k : Nat} (hk : 30 < k) : bits_Read.f k l a = some (readn l a) := by
  obtain ⟨k, rfl⟩ : ∃ j, k = j + 1 := ⟨k - 1, by omega⟩
  unfold bits_Read.f readn
  simp only [bits_Read.j0]
  by_cases c1 : a < 0
  · rw [if_pos c1, if_pos trivial, if_pos (.inl c1)]
  · rw [if_neg c1]
    by_cases c2 : a > (l.length : Int)
    · rw [if_pos (by simpa using c2), if_pos (.inr c2)]
    · rw [if_neg (by simpa using c2), if_neg (show ¬ (a < 0 ∨ a > (l.length : Int)) by omega)]
      obtain ⟨m, rfl⟩ := Int.eq_ofNat_of_zero_le (show 0 ≤ a by omega)
      have := bread0 hl hn m 9 0 k 0 rfl (by decide) (by omega) (by decide) (by decide) (by omega)
      simpa using this
theorem rread0 {l : List Int} (hl : M.bytes l = true) (hn : (l.length : Int) ≤ 4611686018427387904) (a : Nat) : ∀ (d i k : Nat) (n : Int), d + i = 9 → a + i ≤ l.length → 0 ≤ n → n < 128 ^ i → 3 * d < k → reeveref01_Read.l0 k l (a : Int) n (128 ^ i) (i : Int) = some (rd9 l a d i n) := by
  intro d
  induction d with
  | zero =>
    intro i k n hd hi h0 h1 hk
    obtain ⟨k, rfl⟩ : ∃ j, k = j + 1 := ⟨k - 1, by omega⟩
    simp only [reeveref01_Read.l0, rd9]
    rw [if_neg (by omega)]
  | succ d ih =>
    intro i k n hd hi h0 h1 hk
    obtain ⟨k, rfl⟩ : ∃ j, k = j + 3 := ⟨k - 3, by omega⟩
    simp only [reeveref01_Read.l0, rd9]
    rw [if_pos (by omega), w64b (n := (l.length : Int) - a) (by omega) (by omega)]
    by_cases c0 : a + i = l.length
    · rw [if_pos (by omega), if_pos c0]
    · have hb := M.bytes_getD hl (a + i)
      have er : rd l ((a : Int) + i) = l.getD (a + i) 0 := by unfold rd; rw [show ((a : Int) + i).toNat = a + i by omega]
      rw [if_neg (by omega), if_neg c0, w64b (n := (a : Int) + i) (by omega) (by omega), if_pos (by omega), if_pos (by omega), er]
      generalize l.getD (a + i) 0 = c at hb
      rw [w64b (n := c) (by omega) (by omega)]
      have hp0 : (0 : Int) < 128 ^ i := Int.pow_pos (by decide)
      have hp1 : (128 : Int) ^ i ≤ 128 ^ 8 := by exact_mod_cast Nat.pow_le_pow_right (n := 128) (by decide) (by omega)
      have e8 : (128 : Int) ^ 8 = 72057594037927936 := by decide
      have hm0 : 0 ≤ c % 128 * 128 ^ i := Int.mul_nonneg (by omega) (by omega)
      have hm1 : c % 128 * 128 ^ i ≤ 127 * 128 ^ i := Int.mul_le_mul_of_nonneg_right (by omega) (by omega)
      have hs : n + c % 128 * 128 ^ i < 128 ^ (i + 1) := by rw [Int.pow_succ]; omega
      by_cases c1 : c = 0 ∧ 0 < i
      · rw [if_pos c1.1, if_pos c1]
        simp only [reeveref01_Read.j2]
        rw [decide_eq_true (by omega), if_pos rfl]
      · have hx : (if c = 0 then reeveref01_Read.j2 (k + 2) l (a : Int) n (128 ^ i) (i : Int) c (decide ((i : Int) > 0)) else reeveref01_Read.j2 (k + 2) l (a : Int) n (128 ^ i) (i : Int) c false) = reeveref01_Read.j2 (k + 2) l (a : Int) n (128 ^ i) (i : Int) c false := by
          by_cases c2 : c = 0
          · rw [if_pos c2, decide_eq_false (by omega)]
          · rw [if_neg c2]
        rw [hx, if_neg c1]
        have hj : ∀ B : Bool, (B = true ↔ i = 8 ∧ 64 ≤ c) → reeveref01_Read.j3 (k + 1) l (a : Int) n (128 ^ i) (i : Int) c B = some (if i = 8 ∧ 64 ≤ c then (0, 0, 11) else if c < 128 then (n + c % 128 * 128 ^ i, (a : Int) + i + 1, 0) else rd9 l a d (i + 1) (n + c % 128 * 128 ^ i)) := by
          intro B hB
          simp only [reeveref01_Read.j3]
          by_cases cb : B = true
          · rw [if_pos cb, if_pos (hB.1 cb)]
          · rw [if_neg cb, if_neg (fun e => cb (hB.2 e)), Int.tmod_eq_emod_of_nonneg hb.1, w64b (n := c % 128 * 128 ^ i) (by omega) (by omega), w64b (n := n + c % 128 * 128 ^ i) (by omega) (by omega), w64b (n := (a : Int) + i) (by omega) (by omega), w64b (n := (a : Int) + i + 1) (by omega) (by omega)]
            by_cases c5 : c < 128
            · rw [if_pos c5, if_pos c5]
            · have h8 : ¬ (i = 8 ∧ 64 ≤ c) := fun e => cb (hB.2 e)
              have hp2 : (128 : Int) ^ i ≤ 128 ^ 7 := by exact_mod_cast Nat.pow_le_pow_right (n := 128) (by decide) (by omega)
              have e7 : (128 : Int) ^ 7 = 562949953421312 := by decide
              rw [if_neg c5, if_neg c5, w64b (n := 128 * 128 ^ i) (by omega) (by omega), w64b (n := (i : Int) + 1) (by omega) (by omega), show (128 : Int) * 128 ^ i = 128 ^ (i + 1) by rw [Int.pow_succ]; omega, show (i : Int) + 1 = ((i + 1 : Nat) : Int) by omega]
              exact ih (i + 1) k _ (by omega) (by omega) (by omega) hs (by omega)
        simp only [reeveref01_Read.j2]
        rw [if_neg (by decide)]
        by_cases c8 : i = 8
        · rw [if_pos (by omega)]
          exact hj _ (by simp; omega)
        · rw [if_neg (by omega)]
          exact hj _ (by simp; omega)
theorem rread {l : List Int} (hl : M.bytes l = true) (hn : (l.length : Int) ≤ 4611686018427387904) (a : Int) {k : Nat} (hk : 30 < k) : reeveref01_Read.f k l a = some (readn l a) := by
  obtain ⟨k, rfl⟩ : ∃ j, k = j + 1 := ⟨k - 1, by omega⟩
  unfold reeveref01_Read.f readn
  simp only [reeveref01_Read.j0]
  by_cases c1 : a < 0
  · rw [if_pos c1, if_pos trivial, if_pos (.inl c1)]
  · rw [if_neg c1]
    by_cases c2 : a > (l.length : Int)
    · rw [if_pos (by simpa using c2), if_pos (.inr c2)]
    · rw [if_neg (by simpa using c2), if_neg (show ¬ (a < 0 ∨ a > (l.length : Int)) by omega)]
      obtain ⟨m, rfl⟩ := Int.eq_ofNat_of_zero_le (show 0 ≤ a by omega)
      have := rread0 hl hn m 9 0 k 0 rfl (by omega) (by decide) (by decide) (by omega)
      simpa using this
end Go.Proofs.Ytbiijcehgiibeaa.Pure
namespace Go.Proofs.Ytbiijcehgiibeaa.Pol
structure Py where
  (kind cap num den width count keys slots every seg : Int)
deriving DecidableEq
def zero : Py := ⟨0, 0, 0, 0, 0, 0, 0, 0, 0, 0⟩
def inB (n lo hi : Int) : Bool := decide (lo ≤ n ∧ n ≤ hi)
def all (p : Py) : Bool := inB p.cap 1 1048576 && inB p.keys 1 1000 && inB p.slots 1 64 && inB p.every 0 1000 && inB p.seg 1 1000
def bucket (p : Py) : Bool := decide (p.kind = 1) && inB p.num 1 65536 && inB p.den 1 65536 && decide (p.width = 0) && decide (p.count = 0)
def window (p : Py) : Bool := decide (p.kind = 2) && inB p.width 1 1048576 && inB p.count 1 32 && decide (p.num = 0) && decide (p.den = 0)
def ok (p : Py) : Bool := all p && (bucket p || window p)
def cells (p : Py) : List Int := [p.kind, p.cap, p.num, p.den, p.width, p.count, p.keys, p.slots, p.every, p.seg]
def flds1 : List (Nat × Int × Int) := [(0, 1, 2), (1, 1, 1048576), (2, 1, 65536), (3, 1, 65536), (6, 1, 1000), (7, 1, 64), (8, 0, 1000), (9, 1, 1000)]
def flds2 : List (Nat × Int × Int) := [(0, 1, 2), (1, 1, 1048576), (4, 1, 1048576), (5, 1, 32), (6, 1, 1000), (7, 1, 64), (8, 0, 1000), (9, 1, 1000)]
def chk (cs : List Int) (fs : List (Nat × Int × Int)) : Bool := fs.all fun f => inB (cs.getD f.1 0) f.2.1 f.2.2
theorem chk_at {cs : List Int} {fs : List (Nat × Int × Int)} {j : Nat} {f : Nat × Int × Int} (h : fs[j]? = some f) : chk cs (fs.drop j) = (inB (cs.getD f.1 0) f.2.1 f.2.2 && chk cs (fs.drop (j + 1))) := by
  obtain ⟨hj, rfl⟩ := List.getElem?_eq_some_iff.1 h
  unfold chk
  rw [List.drop_eq_getElem_cons hj, List.all_cons]
theorem ok1 {p : Py} (hk : p.kind = 1) (hw : p.width = 0) (hc : p.count = 0) : ok p = chk (cells p) flds1 := by
  rw [Bool.eq_iff_iff]
  simp [ok, all, bucket, window, chk, cells, flds1, hk, hw, hc, inB]
  omega
theorem ok2 {p : Py} (hk : p.kind = 2) (hw : p.num = 0) (hc : p.den = 0) : ok p = chk (cells p) flds2 := by
  rw [Bool.eq_iff_iff]
  simp [ok, all, bucket, window, chk, cells, flds2, hk, hw, hc, inB]
  omega
theorem ok_no {p : Py} (h1 : p.kind ≠ 1) (h2 : p.kind ≠ 2) : ok p = false := by simp [ok, bucket, window, h1, h2]
theorem ok_no1 {p : Py} (h1 : p.kind = 1) (h2 : p.width ≠ 0 ∨ p.count ≠ 0) : ok p = false := by
  rcases h2 with h2 | h2 <;> simp [ok, bucket, window, h1, h2]
theorem ok_no2 {p : Py} (h1 : p.kind = 2) (h2 : p.num ≠ 0 ∨ p.den ≠ 0) : ok p = false := by
  rcases h2 with h2 | h2 <;> simp [ok, bucket, window, h1, h2]
def eight (p : Py) : List Int := if p.kind = 2 then [p.kind, p.cap, p.width, p.count, p.keys, p.slots, p.every, p.seg] else [p.kind, p.cap, p.num, p.den, p.keys, p.slots, p.every, p.seg]
def reel : List Int := [82, 69, 69, 76]
def body (p : Py) : List Int := reel ++ (eight p).flatMap (Pure.wr 8)
def header (p : Py) : List Int × Int := if ok p = true then (body p ++ M.wr6 (M.add (1, 2) (body p)), 0) else ([], 40)
def rds (l : List Int) : Nat → Int → List Int × Int × Int
  | 0, a => ([], a, 0)
  | n + 1, a => if (Pure.readn l a).2.2 = 0 then ((Pure.readn l a).1 :: (rds l n (Pure.readn l a).2.1).1, (rds l n (Pure.readn l a).2.1).2.1, (rds l n (Pure.readn l a).2.1).2.2) else ([], a, (Pure.readn l a).2.2)
def make (k : Int) (xs : List Int) : Py := if k = 1 then ⟨k, xs.getD 0 0, xs.getD 1 0, xs.getD 2 0, 0, 0, xs.getD 3 0, xs.getD 4 0, xs.getD 5 0, xs.getD 6 0⟩ else ⟨k, xs.getD 0 0, 0, 0, xs.getD 1 0, xs.getD 2 0, xs.getD 3 0, xs.getD 4 0, xs.getD 5 0, xs.getD 6 0⟩
def tail (l : List Int) (p : Py) (a : Int) : Py × Int × Int × Int :=
  if ok p = true then
    if (M.rd6 l a).2.2.2 = 0 then
      if ((M.rd6 l a).1, (M.rd6 l a).2.1) = M.add (1, 2) (l.take a.toNat) then (p, (M.rd6 l a).2.2.1, 0, 0) else (zero, 0, 41, a)
    else (zero, 0, (M.rd6 l a).2.2.2, a)
  else (zero, 0, 40, 4)
def read (l : List Int) : Py × Int × Int × Int :=
  if l.take 4 = reel then
    if (Pure.readn l 4).2.2 = 0 then
      if (Pure.readn l 4).1 = 1 ∨ (Pure.readn l 4).1 = 2 then
        if (rds l 7 (Pure.readn l 4).2.1).2.2 = 0 then tail l (make (Pure.readn l 4).1 (rds l 7 (Pure.readn l 4).2.1).1) (rds l 7 (Pure.readn l 4).2.1).2.1
        else (zero, 0, (rds l 7 (Pure.readn l 4).2.1).2.2, (rds l 7 (Pure.readn l 4).2.1).2.1)
      else (zero, 0, 40, 4)
    else (zero, 0, (Pure.readn l 4).2.2, 4)
  else (zero, 0, 41, 0)
def readO (l : List Int) : Option (Int × Int × Int × Int × Int × Int × Int × Int × Int × Int × Int × Int × Int) :=
  if M.bytes l = true then if (l.length : Int) ≤ 4611686018427387904 then some ((read l).1.kind, (read l).1.cap, (read l).1.num, (read l).1.den, (read l).1.width, (read l).1.count, (read l).1.keys, (read l).1.slots, (read l).1.every, (read l).1.seg, (read l).2.1, (read l).2.2.1, (read l).2.2.2) else none else none
end Go.Proofs.Ytbiijcehgiibeaa.Pol
namespace Go.Proofs.Ytbiijcehgiibeaa.H
open Go.RowKit Go.Proofs.YtbiijcehgiibeaaW.PrintWords Go.Proofs.YtbiijcehgiibeaaW.PrintLast Go.Proofs.YtbiijcehgiibeaaW.PrintMore
set_option linter.unusedVariables false
section
variable {P : Program} {ops : Array Oper} {rest : List Oper} {o : Oper} {a : Act} {Q : Exit → Act → World → Prop} {Kc : Act → World → Prop}
theorem slice_event {W : World} (hgd : o.guard = none) {N : Tmp} (_hd : o.dst = some N) {cs : Array Value} {t : TypeId} {n : Nat}
  (hrun : (execOp a.eval o).run P W = .ok (.value (.slice (some ⟨W.heap.size,0,none⟩) n n)) (W.alloc (.cells cs t (0,0))))
  (h : ∀ g,g = W.heap.size → ∀ w1,w1.heap[g]? = some (.cells cs t (0,0)) → Below W.heap.size W w1 → wpList P ops Q rest (a.put o.dst (.slice (some ⟨g,0,none⟩) n n)) w1) : wpList P ops Q (o :: rest) a W :=
 Kd.event_run hgd hrun (h _ rfl _ (blk_new W _) (below_alloc (Below.refl _ _) _))
theorem box_step {W : World} (hw : Region.wanted o (yielded ops a.tmps) = true) {N : Option Tmp} (hN : o.dst = N) {cs : Array Value} {t : TypeId}
  (hrun : (execOp a.eval o).run P W = .ok (.value (.pointer (some ⟨W.heap.size,0,none⟩))) (W.alloc (.cells cs t (0,0))))
  (h : ∀ g,g = W.heap.size → ∀ w1,w1.heap[g]? = some (.cells cs t (0,0)) → Below W.heap.size W w1 → Kc (a.put N (.pointer (some ⟨g,0,none⟩))) w1) :
  if Region.wanted o (yielded ops a.tmps) = true then Oper.wp P o a W Kc Q else Kc (a.put N undef) W:=by
 subst hN
 exact event_step hw hrun (h _ rfl _ (blk_new W _) (below_alloc (Below.refl _ _) _))
end
def fillA (cs : Array Value) : Nat → List Value → Array Value
 | _,[] => cs
 | i,v :: vs => fillA (cs.setIfInBounds i v) (i + 1) vs
theorem blk_fillA {g t : Nat} (vs : List Value) : ∀ {w : World} {cs : Array Value} (i : Nat),w.heap[g]? = some (.cells cs t (0,0)) → (World.setCells w g i vs).heap[g]? = some (.cells (fillA cs i vs) t (0,0)):=by
 induction vs with
 | nil => exact fun i h => h
 | cons v vs ih => exact fun i h => ih (i + 1) (blk_set h i v)
def setL : List Value → Nat → List Value → List Value
 | [],_,_ => []
 | a :: L,0,[] => a :: L
 | _ :: L,0,v :: vs => v :: setL L 0 vs
 | a :: L,i + 1,vs => a :: setL L i vs
theorem setL_nil (L : List Value) : ∀ i,setL L i [] = L:=by
 induction L with
 | nil => intro i;simp [setL]
 | cons a L ih => intro i;cases i with
  | zero => simp [setL]
  | succ i => simp [setL,ih i]
theorem setL_set (v : Value) (vs : List Value) (L : List Value) : ∀ i,setL (L.set i v) (i + 1) vs = setL L i (v :: vs):=by
 induction L with
 | nil => intro i;simp [setL]
 | cons a L ih => intro i;cases i with
  | zero => simp [setL]
  | succ i => simp [setL,ih i]
theorem fillA_eq (vs : List Value) : ∀ (L : List Value) (i : Nat),fillA L.toArray i vs = (setL L i vs).toArray:=by
 induction vs with
 | nil => intro L i;rw [setL_nil];rfl
 | cons v vs ih => intro L i;rw [fillA,List.setIfInBounds_toArray,ih,setL_set]
theorem blk_fill {g t : Nat} {w w' : World} {L L' : List Value} {vs : List Value} {i : Nat} (hw : w' = World.setCells w g i vs) (h : w.heap[g]? = some (.cells L.toArray t (0,0))) (e : setL L i vs = L') : w'.heap[g]? = some (.cells L'.toArray t (0,0)):=by
 subst e
 subst hw
 have:=blk_fillA vs i h
 rwa [fillA_eq] at this
theorem far_fillA {g g' t : Nat} (hn : g' ≠ g) (vs : List Value) : ∀ {w : World} {cs : Array Value} (i : Nat),w.heap[g']? = some (.cells cs t (0,0)) → (World.setCells w g i vs).heap[g']? = some (.cells cs t (0,0)):=by
 induction vs with
 | nil => exact fun i h => h
 | cons v vs ih => exact fun i h => ih (i + 1) (blk_far h hn v)
theorem far_fill {g g' t : Nat} {w w' : World} {cs : Array Value} {vs : List Value} {i : Nat} (hw : w' = World.setCells w g i vs) (hn : g' ≠ g) (h : w.heap[g']? = some (.cells cs t (0,0))) : w'.heap[g']? = some (.cells cs t (0,0)):=by
 subst hw
 exact far_fillA hn vs i h
theorem below_fillA {g : Nat} {w0 : World} (hg : w0.heap.size ≤ g) (vs : List Value) : ∀ {w : World} (i : Nat),Below w0.heap.size w0 w → Below w0.heap.size w0 (World.setCells w g i vs):=by
 induction vs with
 | nil => exact fun i h => h
 | cons v vs ih => exact fun i h => ih (i + 1) (below_set h hg)
theorem below_fill {g : Nat} {w0 w w' : World} {vs : List Value} {i : Nat} (hw : w' = World.setCells w g i vs) (hg : w0.heap.size ≤ g) (h : Below w0.heap.size w0 w) : Below w0.heap.size w0 w':=by
 subst hw
 exact below_fillA hg vs i h
section
variable {P : Program} {ops : Array Oper} {rest : List Oper} {o : Oper} {a : Act} {Q : Exit → Act → World → Prop} {Kc : Act → World → Prop}
theorem there_blk {W : World} {g ty : Nat} {L : List Value} (K : W.heap[g]? = some (.cells L.toArray ty (0,0))) {i n : Nat} (h : i + n ≤ L.length) : W.there g i n:=fun j hj => by
 rw [blk_cell K (i + j)]
 refine ⟨?_,blk_frozen K _⟩
 rw [List.getElem?_toArray,List.getElem?_eq_getElem (by omega)]
 rfl
theorem put_event {W : World} (hgd : o.guard = none) {t : TypeId} {p : Tmp} {y : Operand} (ho : o.op = .store t (.tmp p) y) (hN : o.dst = none) {g i ty : Nat} {L : List Value} (vs : List Value) (K : W.heap[g]? = some (.cells L.toArray ty (0,0)))
  (hx : a.eval (.tmp p) = .pointer (some ⟨g,i,none⟩)) (hy : a.eval y = .agg vs.toArray) (hl : Nat.ble (i + vs.length) L.length = true) (hi : (P.info? t).map (·.size) = some vs.length) (h1 : vs.all (·.oneCell') = true)
  (h : ∀ w',w' = World.setCells W g i vs → wpList P ops Q rest a w') : wpList P ops Q (o :: rest) a W:=by
 refine wpList_store_mid hgd t (.tmp p) y ho g i vs.toArray hx hy (there_blk K (by simpa using Nat.le_of_ble_eq_true hl)) (by simpa using hi) (by simpa using h1) ?_
 rw [hN]
 exact h _ rfl
theorem put_step {W : World} (hw : Region.wanted o (yielded ops a.tmps) = true) {N : Option Tmp} {t : TypeId} {p : Tmp} {y : Operand} (ho : o.op = .store t (.tmp p) y) (hN : o.dst = none) {g i ty : Nat} {L : List Value} (vs : List Value) (K : W.heap[g]? = some (.cells L.toArray ty (0,0)))
  (hx : a.eval (.tmp p) = .pointer (some ⟨g,i,none⟩)) (hy : a.eval y = .agg vs.toArray) (hl : Nat.ble (i + vs.length) L.length = true) (hi : (P.info? t).map (·.size) = some vs.length) (h1 : vs.all (·.oneCell') = true)
  (h : ∀ w',w' = World.setCells W g i vs → Kc a w') : if Region.wanted o (yielded ops a.tmps) = true then Oper.wp P o a W Kc Q else Kc (a.put N undef) W:=by
 rw [if_pos hw]
 refine wp_store_mid t (.tmp p) y ho g i vs.toArray hx hy (there_blk K (by simpa using Nat.le_of_ble_eq_true hl)) (by simpa using hi) (by simpa using h1) ?_
 rw [hN]
 exact h _ rfl
theorem get_event {W : World} (hgd : o.guard = none) {t : TypeId} {x N : Tmp} (ho : o.op = .load t (.tmp x)) (_hd : o.dst = some N) {g i ty : Nat} {L : List Value} (cs : List Value) {d : TypeDesc} (K : W.heap[g]? = some (.cells L.toArray ty (0,0)))
  (hx : a.eval (.tmp x) = .pointer (some ⟨g,i,none⟩)) (hc : (L.drop i).take cs.length = cs) (hu : P.underlying t = some d) (hr : d.isRow = true) (hi : (P.info? t).map (·.size) = some cs.length)
  (h : wpList P ops Q rest (a.put o.dst (.agg cs.toArray)) W) : wpList P ops Q (o :: rest) a W:=by
 refine wpList_load_mid hgd t (.tmp x) ho g i hx cs d (fun j v hj => ?_) hu hr hi h
 rw [blk_cell K (i + j),List.getElem?_toArray]
 rw [← hc] at hj
 rw [List.getElem?_take] at hj
 split at hj
 ·rwa [List.getElem?_drop] at hj
 ·cases hj
theorem idx_event {W : World} (hgd : o.guard = none) {t e : TypeId} {x y N : Tmp} (ho : o.op = .index t (.tmp x) (.tmp y)) (_hd : o.dst = some N) {cs cs' : Array Value} {n sz j : Nat} {d : TypeDesc} (hx : a.eval (.tmp x) = .agg cs) (hy : a.eval (.tmp y) = .int .i64 (j : Int))
  (ht : P.underlying t = some (.array n e)) (he : P.underlying e = some d) (hr : d.isRow = true) (hi : (P.info? e).map (·.size) = some sz) (hj : j < n) (hc : cs.extract (j * sz) (j * sz + sz) = cs')
  (h : wpList P ops Q rest (a.put o.dst (.agg cs')) W) : wpList P ops Q (o :: rest) a W:=by
 refine wpList_plain hgd fun K hK => ?_
 have hrun : (Instr.index t (.agg cs) (.int .i64 (j : Int))).run P W = .ok (.agg cs') W:=by
  have hagg : (isAgg e).run P W = .ok true W:=by
   unfold isAgg
   rw [Sem.run_bind,run_underlying he W]
   cases d <;> simp_all
  cases hq : P.info? e with
  | none => simp [hq] at hi
  | some i =>
   have hs : i.size = sz:=by simpa [hq] using hi
   subst hc
   simp [Instr.index,asIntOf,run_underlying ht W,part,hagg,sizeOf,typeInfo,hq,hs,hj]
 unfold Oper.wp execOp
 simp only [ho,hx,hy,Sem.run_bind,hrun,Result.andThen_ok,Sem.run_pure]
 exact hK _ _ h
end
end Go.Proofs.Ytbiijcehgiibeaa.H

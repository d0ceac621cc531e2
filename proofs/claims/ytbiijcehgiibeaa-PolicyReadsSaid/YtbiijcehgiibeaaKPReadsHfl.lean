/- Proved here: what the inner function policy.fields answers for each kind: eight pointers into the policy with their bounds. (Pieces by wip/hfl.py, this session's own.) Laid tighter for a claim's bound by wip/shake.py (SQ=1). -/
import Derived.Test.YtbiijcehgiibeaaProg
import Derived.Test.YtbiijcehgiibeaaKPReadsJSix
import Derived.Test.YtbiijcehgiibeaaKPReadsWTab
import Derived.WalkSpells
import Derived.WalkLawsBesides
namespace Go.Proofs.Ytbiijcehgiibeaa.H
open Go.RowKit Go.Proofs.YtbiijcehgiibeaaW.PrintWords Go.Proofs.YtbiijcehgiibeaaW.PrintLast Go.Proofs.YtbiijcehgiibeaaW.PrintMore
set_option linter.unusedVariables false
set_option linter.unusedSimpArgs false
def t74_1.T : Bool × List (List Nat × List Nat):=(true,[([],[]),([0],[0]),([1],[1]),([2],[2]),([],[]),([4],[4]),([5],[5]),([6],[6]),([],[]),([],[]),([],[]),([10],[10]),([11],[11]),([12],[12]),([],[]),([14],[14]),([15],[15]),([16],[16]),([],[]),([18],[18]),([19],[19]),([20],[20]),([],[]),([22],[22]),([23],[23]),([24],[24]),([3,7,8,9,13,17,21,25],[3,7,8,9,13,17,21,25]),([],[]),([27,26,0,1,2,3,4,5,6,7,8,9,10,11,12,13,14,15,16,17,18,19,20,21,22,23,24,25,26,27],[26,27])])
def t74_1.B : List Nat:=[0,1,3,7,0,16,48,112,0,0,0,1024,3072,7168,0,16384,49152,114688,0,262144,786432,1835008,0,4194304,12582912,29360128,67108863,0,268435455]
theorem t74_1.tab : rtab .any (opsOf Try.f74 1) = t74_1.T:=by kernel_rfl
theorem t74_1.bits : waitsOk t74_1.T.2 t74_1.B = true:=by kernel_rfl
def t74_5.T : Bool × List (List Nat × List Nat):=(true,[([],[]),([0],[0]),([1],[1]),([2],[2]),([],[]),([4],[4]),([5],[5]),([6],[6]),([0,1,2,3],[]),([8,3,0,1,2,3],[3,8]),([0,1,2,3,4,5,6,7,8,9],[]),([10,7,9,0,1,2,3,4,5,6,7,8,9],[7,10])])
def t74_5.B : List Nat:=[0,1,3,7,0,16,48,112,15,271,1023,2047]
theorem t74_5.tab : rtab .any (opsOf Try.f74 5) = t74_5.T:=by kernel_rfl
theorem t74_5.bits : waitsOk t74_5.T.2 t74_5.B = true:=by kernel_rfl
def t74_7.T : Bool × List (List Nat × List Nat):=(true,[([],[]),([0],[0]),([1],[1]),([2],[2]),([],[]),([4],[4]),([5],[5]),([6],[6]),([0,1,2,3],[]),([8,3,0,1,2,3],[3,8]),([0,1,2,3,4,5,6,7,8,9],[]),([10,7,9,0,1,2,3,4,5,6,7,8,9],[7,10])])
def t74_7.B : List Nat:=[0,1,3,7,0,16,48,112,15,271,1023,2047]
theorem t74_7.tab : rtab .any (opsOf Try.f74 7) = t74_7.T:=by kernel_rfl
theorem t74_7.bits : waitsOk t74_7.T.2 t74_7.B = true:=by kernel_rfl
set_option maxHeartbeats 1000000 in
set_option maxRecDepth 100000 in
theorem fields_1 (gp : Nat) (w : World) (hk : w.cell? ⟨gp,0,none⟩ = some (.int .i64 1)) :
  Calls Try.prog 74 #[.pointer (some ⟨gp,0,none⟩)] w fun e w' => e = .returned (.tuple #[.agg #[.pointer (some ⟨gp,0,none⟩),.int .i64 1,.int .i64 2,.pointer (some ⟨gp,1,none⟩),.int .i64 1,.int .i64 1048576,.pointer (some ⟨gp,2,none⟩),.int .i64 1,.int .i64 65536,.pointer (some ⟨gp,3,none⟩),.int .i64 1,.int .i64 65536,.pointer (some ⟨gp,6,none⟩),.int .i64 1,.int .i64 1000,.pointer (some ⟨gp,7,none⟩),.int .i64 1,.int .i64 64,.pointer (some ⟨gp,8,none⟩),.int .i64 0,.int .i64 1000,.pointer (some ⟨gp,9,none⟩),.int .i64 1,.int .i64 1000],.bool true]) ∧ Below w.heap.size w w':=by
 have HK:=Aside0.mk hk
 have HB:=Aside0.mk (Below.refl w.heap.size w)
 clear hk
 go_enter Try.func74,Try.ntmps74
 go_wp2_with (first | ((with_reducible refine gate_dst (N:=2) rfl ?_);replace HB : Aside0 (Below w.heap.size w w):=HB;refine box_event ?hg (N:=2) ?hd (cs:=#[.pointer none,.int .i64 0,.int .i64 0,.pointer none,.int .i64 0,.int .i64 0,.pointer none,.int .i64 0,.int .i64 0,.pointer none,.int .i64 0,.int .i64 0,.pointer none,.int .i64 0,.int .i64 0,.pointer none,.int .i64 0,.int .i64 0,.pointer none,.int .i64 0,.int .i64 0,.pointer none,.int .i64 0,.int .i64 0]) (t:=95) ?hr ?_;(case hd => rfl);(case hg => rfl);(case hr => first | (go_simp;done) | (go_simp;rfl));intro gr hg W1 hbox hb;have Lgr : Aside0 (w.heap.size ≤ gr):=Aside0.mk (by rw [hg];exact below_size HB.out);replace HB : Aside0 (Below w.heap.size w W1):=Aside0.mk (below_step HB.out hb);have Kgr : Aside0 (W1.heap[gr]? = some (.cells #[.pointer none,.int .i64 0,.int .i64 0,.pointer none,.int .i64 0,.int .i64 0,.pointer none,.int .i64 0,.int .i64 0,.pointer none,.int .i64 0,.int .i64 0,.pointer none,.int .i64 0,.int .i64 0,.pointer none,.int .i64 0,.int .i64 0,.pointer none,.int .i64 0,.int .i64 0,.pointer none,.int .i64 0,.int .i64 0] 95 (0,0))):=Aside0.mk hbox;clear hb hbox hg;have kgr:=blk_cell Kgr.out;have fgr:=blk_frozen Kgr.out;have kp:=pw_cell_below HB.out HK.out))
 replace Kgr:=Aside0.mk (blk_drew Kgr.out); 
 replace HB:=Aside0.mk (below_drew1 HB.out); 
 clear kgr fgr kp
 refine start_ (n:=29) (S:=fun w' => True) (ds:=[]) #[false,false,false,false,false,false,false,false,false,false,false,false,false,false,false,false,false,false,false,false,false,false,false,false,false,false,false,false,false] (by kernel_rfl) rfl rfl trivial (fun hHeld => ?_)
 refine with_tabW t74_1.tab t74_1.bits (fun HT_ HW_ => ?_)
 generalize W1.drew = W2 at Kgr HB ⊢
 refine pure_ (i:=0) (N:=some 5) (v:=?_) (a':=?_) #[true,false,false,false,false,false,false,false,false,false,false,false,false,false,false,false,false,false,false,false,false,false,false,false,false,false,false,false,false] rfl rfl (any_of HT_.out (by kernel_rfl)) (fun _ _ _ h => h) (Or.inl ⟨by rfl,?_⟩) ?_ ?_
 rotate_left
 ·intro w'
  go_simp
  with_reducible rfl
 rotate_left
 ·simp only [Act.put,zA,zB,zC,i64_w,i32_w]
  rfl
 refine pure_ (i:=1) (N:=some 6) (v:=?_) (a':=?_) #[true,true,false,false,false,false,false,false,false,false,false,false,false,false,false,false,false,false,false,false,false,false,false,false,false,false,false,false,false] rfl rfl (any_of HT_.out (by kernel_rfl)) (fun _ _ _ h => h) (Or.inl ⟨by rfl,?_⟩) ?_ ?_
 rotate_left
 ·intro w'
  go_simp
  with_reducible rfl
 rotate_left
 ·simp only [Act.put,zA,zB,zC,i64_w,i32_w]
  rfl
 refine pure_ (i:=2) (N:=some 7) (v:=?_) (a':=?_) #[true,true,true,false,false,false,false,false,false,false,false,false,false,false,false,false,false,false,false,false,false,false,false,false,false,false,false,false,false] rfl rfl (any_of HT_.out (by kernel_rfl)) (fun _ _ _ h => h) (Or.inl ⟨by rfl,?_⟩) ?_ ?_
 rotate_left
 ·intro w'
  go_simp
  with_reducible rfl
 rotate_left
 ·simp only [Act.put,zA,zB,zC,i64_w,i32_w]
  rfl
 refine pure_ (i:=3) (N:=some 8) (v:=?_) (a':=?_) #[true,true,true,true,false,false,false,false,false,false,false,false,false,false,false,false,false,false,false,false,false,false,false,false,false,false,false,false,false] rfl rfl (any_of HT_.out (by kernel_rfl)) (fun _ _ _ h => h) (Or.inl ⟨by rfl,?_⟩) ?_ ?_
 rotate_left
 ·intro w'
  go_simp
  with_reducible rfl
 rotate_left
 ·simp only [Act.put,zA,zB,zC,i64_w,i32_w]
  rfl
 refine pure_ (i:=4) (N:=some 9) (v:=?_) (a':=?_) #[true,true,true,true,true,false,false,false,false,false,false,false,false,false,false,false,false,false,false,false,false,false,false,false,false,false,false,false,false] rfl rfl (any_of HT_.out (by kernel_rfl)) (fun _ _ _ h => h) (Or.inl ⟨by rfl,?_⟩) ?_ ?_
 rotate_left
 ·intro w'
  go_simp
  with_reducible rfl
 rotate_left
 ·simp only [Act.put,zA,zB,zC,i64_w,i32_w]
  rfl
 refine pure_ (i:=5) (N:=some 10) (v:=?_) (a':=?_) #[true,true,true,true,true,true,false,false,false,false,false,false,false,false,false,false,false,false,false,false,false,false,false,false,false,false,false,false,false] rfl rfl (any_of HT_.out (by kernel_rfl)) (fun _ _ _ h => h) (Or.inl ⟨by rfl,?_⟩) ?_ ?_
 rotate_left
 ·intro w'
  go_simp
  with_reducible rfl
 rotate_left
 ·simp only [Act.put,zA,zB,zC,i64_w,i32_w]
  rfl
 refine pure_ (i:=6) (N:=some 11) (v:=?_) (a':=?_) #[true,true,true,true,true,true,true,false,false,false,false,false,false,false,false,false,false,false,false,false,false,false,false,false,false,false,false,false,false] rfl rfl (any_of HT_.out (by kernel_rfl)) (fun _ _ _ h => h) (Or.inl ⟨by rfl,?_⟩) ?_ ?_
 rotate_left
 ·intro w'
  go_simp
  with_reducible rfl
 rotate_left
 ·simp only [Act.put,zA,zB,zC,i64_w,i32_w]
  rfl
 refine pure_ (i:=7) (N:=some 12) (v:=?_) (a':=?_) #[true,true,true,true,true,true,true,true,false,false,false,false,false,false,false,false,false,false,false,false,false,false,false,false,false,false,false,false,false] rfl rfl (any_of HT_.out (by kernel_rfl)) (fun _ _ _ h => h) (Or.inl ⟨by rfl,?_⟩) ?_ ?_
 rotate_left
 ·intro w'
  go_simp
  with_reducible rfl
 rotate_left
 ·simp only [Act.put,zA,zB,zC,i64_w,i32_w]
  rfl
 refine pure_ (i:=8) (N:=some 13) (v:=?_) (a':=?_) #[true,true,true,true,true,true,true,true,true,false,false,false,false,false,false,false,false,false,false,false,false,false,false,false,false,false,false,false,false] rfl rfl (any_of HT_.out (by kernel_rfl)) (fun _ _ _ h => h) (Or.inl ⟨by rfl,?_⟩) ?_ ?_
 rotate_left
 ·intro w'
  go_simp
  with_reducible rfl
 rotate_left
 ·simp only [Act.put,zA,zB,zC,i64_w,i32_w]
  rfl
 refine pure_ (i:=9) (N:=some 14) (v:=?_) (a':=?_) #[true,true,true,true,true,true,true,true,true,true,false,false,false,false,false,false,false,false,false,false,false,false,false,false,false,false,false,false,false] rfl rfl (any_of HT_.out (by kernel_rfl)) (fun _ _ _ h => h) (Or.inl ⟨by rfl,?_⟩) ?_ ?_
 rotate_left
 ·intro w'
  go_simp
  with_reducible rfl
 rotate_left
 ·simp only [Act.put,zA,zB,zC,i64_w,i32_w]
  rfl
 refine pure_ (i:=10) (N:=some 15) (v:=?_) (a':=?_) #[true,true,true,true,true,true,true,true,true,true,true,false,false,false,false,false,false,false,false,false,false,false,false,false,false,false,false,false,false] rfl rfl (any_of HT_.out (by kernel_rfl)) (fun _ _ _ h => h) (Or.inl ⟨by rfl,?_⟩) ?_ ?_
 rotate_left
 ·intro w'
  go_simp
  with_reducible rfl
 rotate_left
 ·simp only [Act.put,zA,zB,zC,i64_w,i32_w]
  rfl
 refine pure_ (i:=11) (N:=some 16) (v:=?_) (a':=?_) #[true,true,true,true,true,true,true,true,true,true,true,true,false,false,false,false,false,false,false,false,false,false,false,false,false,false,false,false,false] rfl rfl (any_of HT_.out (by kernel_rfl)) (fun _ _ _ h => h) (Or.inl ⟨by rfl,?_⟩) ?_ ?_
 rotate_left
 ·intro w'
  go_simp
  with_reducible rfl
 rotate_left
 ·simp only [Act.put,zA,zB,zC,i64_w,i32_w]
  rfl
 refine pure_ (i:=12) (N:=some 17) (v:=?_) (a':=?_) #[true,true,true,true,true,true,true,true,true,true,true,true,true,false,false,false,false,false,false,false,false,false,false,false,false,false,false,false,false] rfl rfl (any_of HT_.out (by kernel_rfl)) (fun _ _ _ h => h) (Or.inl ⟨by rfl,?_⟩) ?_ ?_
 rotate_left
 ·intro w'
  go_simp
  with_reducible rfl
 rotate_left
 ·simp only [Act.put,zA,zB,zC,i64_w,i32_w]
  rfl
 refine pure_ (i:=13) (N:=some 18) (v:=?_) (a':=?_) #[true,true,true,true,true,true,true,true,true,true,true,true,true,true,false,false,false,false,false,false,false,false,false,false,false,false,false,false,false] rfl rfl (any_of HT_.out (by kernel_rfl)) (fun _ _ _ h => h) (Or.inl ⟨by rfl,?_⟩) ?_ ?_
 rotate_left
 ·intro w'
  go_simp
  with_reducible rfl
 rotate_left
 ·simp only [Act.put,zA,zB,zC,i64_w,i32_w]
  rfl
 refine pure_ (i:=14) (N:=some 19) (v:=?_) (a':=?_) #[true,true,true,true,true,true,true,true,true,true,true,true,true,true,true,false,false,false,false,false,false,false,false,false,false,false,false,false,false] rfl rfl (any_of HT_.out (by kernel_rfl)) (fun _ _ _ h => h) (Or.inl ⟨by rfl,?_⟩) ?_ ?_
 rotate_left
 ·intro w'
  go_simp
  with_reducible rfl
 rotate_left
 ·simp only [Act.put,zA,zB,zC,i64_w,i32_w]
  rfl
 refine pure_ (i:=15) (N:=some 20) (v:=?_) (a':=?_) #[true,true,true,true,true,true,true,true,true,true,true,true,true,true,true,true,false,false,false,false,false,false,false,false,false,false,false,false,false] rfl rfl (any_of HT_.out (by kernel_rfl)) (fun _ _ _ h => h) (Or.inl ⟨by rfl,?_⟩) ?_ ?_
 rotate_left
 ·intro w'
  go_simp
  with_reducible rfl
 rotate_left
 ·simp only [Act.put,zA,zB,zC,i64_w,i32_w]
  rfl
 refine pure_ (i:=16) (N:=some 21) (v:=?_) (a':=?_) #[true,true,true,true,true,true,true,true,true,true,true,true,true,true,true,true,true,false,false,false,false,false,false,false,false,false,false,false,false] rfl rfl (any_of HT_.out (by kernel_rfl)) (fun _ _ _ h => h) (Or.inl ⟨by rfl,?_⟩) ?_ ?_
 rotate_left
 ·intro w'
  go_simp
  with_reducible rfl
 rotate_left
 ·simp only [Act.put,zA,zB,zC,i64_w,i32_w]
  rfl
 refine pure_ (i:=17) (N:=some 22) (v:=?_) (a':=?_) #[true,true,true,true,true,true,true,true,true,true,true,true,true,true,true,true,true,true,false,false,false,false,false,false,false,false,false,false,false] rfl rfl (any_of HT_.out (by kernel_rfl)) (fun _ _ _ h => h) (Or.inl ⟨by rfl,?_⟩) ?_ ?_
 rotate_left
 ·intro w'
  go_simp
  with_reducible rfl
 rotate_left
 ·simp only [Act.put,zA,zB,zC,i64_w,i32_w]
  rfl
 refine pure_ (i:=18) (N:=some 23) (v:=?_) (a':=?_) #[true,true,true,true,true,true,true,true,true,true,true,true,true,true,true,true,true,true,true,false,false,false,false,false,false,false,false,false,false] rfl rfl (any_of HT_.out (by kernel_rfl)) (fun _ _ _ h => h) (Or.inl ⟨by rfl,?_⟩) ?_ ?_
 rotate_left
 ·intro w'
  go_simp
  with_reducible rfl
 rotate_left
 ·simp only [Act.put,zA,zB,zC,i64_w,i32_w]
  rfl
 refine pure_ (i:=19) (N:=some 24) (v:=?_) (a':=?_) #[true,true,true,true,true,true,true,true,true,true,true,true,true,true,true,true,true,true,true,true,false,false,false,false,false,false,false,false,false] rfl rfl (any_of HT_.out (by kernel_rfl)) (fun _ _ _ h => h) (Or.inl ⟨by rfl,?_⟩) ?_ ?_
 rotate_left
 ·intro w'
  go_simp
  with_reducible rfl
 rotate_left
 ·simp only [Act.put,zA,zB,zC,i64_w,i32_w]
  rfl
 refine pure_ (i:=20) (N:=some 25) (v:=?_) (a':=?_) #[true,true,true,true,true,true,true,true,true,true,true,true,true,true,true,true,true,true,true,true,true,false,false,false,false,false,false,false,false] rfl rfl (any_of HT_.out (by kernel_rfl)) (fun _ _ _ h => h) (Or.inl ⟨by rfl,?_⟩) ?_ ?_
 rotate_left
 ·intro w'
  go_simp
  with_reducible rfl
 rotate_left
 ·simp only [Act.put,zA,zB,zC,i64_w,i32_w]
  rfl
 refine pure_ (i:=21) (N:=some 26) (v:=?_) (a':=?_) #[true,true,true,true,true,true,true,true,true,true,true,true,true,true,true,true,true,true,true,true,true,true,false,false,false,false,false,false,false] rfl rfl (any_of HT_.out (by kernel_rfl)) (fun _ _ _ h => h) (Or.inl ⟨by rfl,?_⟩) ?_ ?_
 rotate_left
 ·intro w'
  go_simp
  with_reducible rfl
 rotate_left
 ·simp only [Act.put,zA,zB,zC,i64_w,i32_w]
  rfl
 refine pure_ (i:=22) (N:=some 27) (v:=?_) (a':=?_) #[true,true,true,true,true,true,true,true,true,true,true,true,true,true,true,true,true,true,true,true,true,true,true,false,false,false,false,false,false] rfl rfl (any_of HT_.out (by kernel_rfl)) (fun _ _ _ h => h) (Or.inl ⟨by rfl,?_⟩) ?_ ?_
 rotate_left
 ·intro w'
  go_simp
  with_reducible rfl
 rotate_left
 ·simp only [Act.put,zA,zB,zC,i64_w,i32_w]
  rfl
 refine pure_ (i:=23) (N:=some 28) (v:=?_) (a':=?_) #[true,true,true,true,true,true,true,true,true,true,true,true,true,true,true,true,true,true,true,true,true,true,true,true,false,false,false,false,false] rfl rfl (any_of HT_.out (by kernel_rfl)) (fun _ _ _ h => h) (Or.inl ⟨by rfl,?_⟩) ?_ ?_
 rotate_left
 ·intro w'
  go_simp
  with_reducible rfl
 rotate_left
 ·simp only [Act.put,zA,zB,zC,i64_w,i32_w]
  rfl
 refine pure_ (i:=24) (N:=some 29) (v:=?_) (a':=?_) #[true,true,true,true,true,true,true,true,true,true,true,true,true,true,true,true,true,true,true,true,true,true,true,true,true,false,false,false,false] rfl rfl (any_of HT_.out (by kernel_rfl)) (fun _ _ _ h => h) (Or.inl ⟨by rfl,?_⟩) ?_ ?_
 rotate_left
 ·intro w'
  go_simp
  with_reducible rfl
 rotate_left
 ·simp only [Act.put,zA,zB,zC,i64_w,i32_w]
  rfl
 refine pure_ (i:=25) (N:=some 30) (v:=?_) (a':=?_) #[true,true,true,true,true,true,true,true,true,true,true,true,true,true,true,true,true,true,true,true,true,true,true,true,true,true,false,false,false] rfl rfl (any_of HT_.out (by kernel_rfl)) (fun _ _ _ h => h) (Or.inl ⟨by rfl,?_⟩) ?_ ?_
 rotate_left
 ·intro w'
  go_simp
  with_reducible rfl
 rotate_left
 ·simp only [Act.put,zA,zB,zC,i64_w,i32_w]
  rfl
 refine pure_ (i:=26) (N:=some 31) (v:=?_) (a':=?_) #[true,true,true,true,true,true,true,true,true,true,true,true,true,true,true,true,true,true,true,true,true,true,true,true,true,true,true,false,false] rfl rfl (any_of HT_.out (by kernel_rfl)) (fun _ _ _ h => h) (Or.inl ⟨by rfl,?_⟩) ?_ ?_
 rotate_left
 ·intro w'
  go_simp
  with_reducible rfl
 rotate_left
 ·simp only [Act.put,zA,zB,zC,i64_w,i32_w]
  rfl
 refine one_ (i:=27) (N:=some 4) #[true,true,true,true,true,true,true,true,true,true,true,true,true,true,true,true,true,true,true,true,true,true,true,true,true,true,true,true,false] rfl rfl (one_of HT_.out (by kernel_rfl)) (by decide) (fun K hK => ?_)
 refine H.box_step (by rfl) rfl (cs:=#[.pointer none,.int .i64 0,.int .i64 0,.pointer none,.int .i64 0,.int .i64 0,.pointer none,.int .i64 0,.int .i64 0,.pointer none,.int .i64 0,.int .i64 0,.pointer none,.int .i64 0,.int .i64 0,.pointer none,.int .i64 0,.int .i64 0,.pointer none,.int .i64 0,.int .i64 0,.pointer none,.int .i64 0,.int .i64 0]) (t:=95) ?_ ?_
 ·first | (go_simp;done) | (go_simp;rfl)
 intro gf hg W3 hbox hb
 have Lgf : Aside0 (w.heap.size ≤ gf):=Aside0.mk (by rw [hg];exact below_size HB.out)
 have Ngr_gf : Aside0 (gr ≠ gf):=Aside0.mk (by rw [hg];exact Nat.ne_of_lt (blk_lt Kgr.out));have Ngf_gr : Aside0 (gf ≠ gr):=Aside0.mk (fun e => Ngr_gf.out e.symm)
 have ngr:=Aside0.mk (blk_below Kgr.out hb)
 have nB : Aside0 (Below w.heap.size w W3):=Aside0.mk (below_step HB.out hb)
 clear Kgr;have Kgr:=ngr;clear ngr
 clear HB;have HB:=nB;clear nB
 have Kgf : Aside0 (W3.heap[gf]? = some (.cells #[.pointer none,.int .i64 0,.int .i64 0,.pointer none,.int .i64 0,.int .i64 0,.pointer none,.int .i64 0,.int .i64 0,.pointer none,.int .i64 0,.int .i64 0,.pointer none,.int .i64 0,.int .i64 0,.pointer none,.int .i64 0,.int .i64 0,.pointer none,.int .i64 0,.int .i64 0,.pointer none,.int .i64 0,.int .i64 0] 95 (0,0))):=Aside0.mk hbox
 clear hb hbox hg
 have kgr:=blk_cell Kgr.out;have fgr:=blk_frozen Kgr.out
 have kgf:=blk_cell Kgf.out;have fgf:=blk_frozen Kgf.out
 have kp:=pw_cell_below HB.out HK.out
 refine hK.out _ _ trivial (fun hHeld => ?_)
 clear hK K
 refine norm_ (a':=?_) ?_ ?_
 rotate_left
 ·show Act.put _ (some 4) _ = _
  simp only [Act.put,zA,zB,zC,i64_w,i32_w]
  rfl
 refine one_ (i:=28) (N:=none) #[true,true,true,true,true,true,true,true,true,true,true,true,true,true,true,true,true,true,true,true,true,true,true,true,true,true,true,true,true] rfl rfl (one_of HT_.out (by kernel_rfl)) (by decide) (fun K hK => ?_)
 refine H.put_step (by rfl) rfl rfl (i:=0) [.pointer (some ⟨gp,0,none⟩),.int .i64 1,.int .i64 2,.pointer (some ⟨gp,1,none⟩),.int .i64 1,.int .i64 1048576,.pointer none,.int .i64 0,.int .i64 0,.pointer none,.int .i64 0,.int .i64 0,.pointer (some ⟨gp,6,none⟩),.int .i64 1,.int .i64 1000,.pointer (some ⟨gp,7,none⟩),.int .i64 1,.int .i64 64,.pointer (some ⟨gp,8,none⟩),.int .i64 0,.int .i64 1000,.pointer (some ⟨gp,9,none⟩),.int .i64 1,.int .i64 1000] Kgf.out rfl rfl (by kernel_rfl) (by kernel_rfl) (by kernel_rfl) ?_
 intro W4 hw
 have ngr:=Aside0.mk (H.far_fill hw Ngr_gf.out Kgr.out)
 have ngf : Aside0 (W4.heap[gf]? = some (.cells #[.pointer (some ⟨gp,0,none⟩),.int .i64 1,.int .i64 2,.pointer (some ⟨gp,1,none⟩),.int .i64 1,.int .i64 1048576,.pointer none,.int .i64 0,.int .i64 0,.pointer none,.int .i64 0,.int .i64 0,.pointer (some ⟨gp,6,none⟩),.int .i64 1,.int .i64 1000,.pointer (some ⟨gp,7,none⟩),.int .i64 1,.int .i64 64,.pointer (some ⟨gp,8,none⟩),.int .i64 0,.int .i64 1000,.pointer (some ⟨gp,9,none⟩),.int .i64 1,.int .i64 1000] 95 (0,0))):=Aside0.mk (H.blk_fill hw Kgf.out (by kernel_rfl))
 have nB : Aside0 (Below w.heap.size w W4):=Aside0.mk (H.below_fill hw Lgf.out HB.out)
 clear kgr fgr kgf fgf kp
 clear Kgr;have Kgr:=ngr;clear ngr
 clear Kgf;have Kgf:=ngf;clear ngf
 clear HB;have HB:=nB;clear nB
 clear hw
 have kgr:=blk_cell Kgr.out;have fgr:=blk_frozen Kgr.out
 have kgf:=blk_cell Kgf.out;have fgf:=blk_frozen Kgf.out
 have kp:=pw_cell_below HB.out HK.out
 refine hK.out _ _ trivial (fun hHeld => ?_)
 clear hK K
 refine done_ (done_of HT_.out (by kernel_rfl)) ?_
 go_wp2_with fail
 replace Kgr:=Aside0.mk (blk_drew Kgr.out); 
 replace Kgf:=Aside0.mk (blk_drew Kgf.out); 
 replace HB:=Aside0.mk (below_drew1 HB.out); 
 clear kgr fgr kgf fgf kp
 refine start_ (n:=12) (S:=fun w' => True) (ds:=[]) #[false,false,false,false,false,false,false,false,false,false,false,false] (by kernel_rfl) rfl rfl trivial (fun hHeld => ?_)
 refine with_tabW t74_5.tab t74_5.bits (fun HT_ HW_ => ?_)
 generalize W4.drew = W5 at Kgr Kgf HB ⊢
 refine pure_ (i:=0) (N:=some 39) (v:=?_) (a':=?_) #[true,false,false,false,false,false,false,false,false,false,false,false] rfl rfl (any_of HT_.out (by kernel_rfl)) (fun _ _ _ h => h) (Or.inl ⟨by rfl,?_⟩) ?_ ?_
 rotate_left
 ·intro w'
  go_simp
  with_reducible rfl
 rotate_left
 ·simp only [Act.put,zA,zB,zC,i64_w,i32_w]
  rfl
 refine pure_ (i:=1) (N:=some 40) (v:=?_) (a':=?_) #[true,true,false,false,false,false,false,false,false,false,false,false] rfl rfl (any_of HT_.out (by kernel_rfl)) (fun _ _ _ h => h) (Or.inl ⟨by rfl,?_⟩) ?_ ?_
 rotate_left
 ·intro w'
  go_simp
  with_reducible rfl
 rotate_left
 ·simp only [Act.put,zA,zB,zC,i64_w,i32_w]
  rfl
 refine pure_ (i:=2) (N:=some 41) (v:=?_) (a':=?_) #[true,true,true,false,false,false,false,false,false,false,false,false] rfl rfl (any_of HT_.out (by kernel_rfl)) (fun _ _ _ h => h) (Or.inl ⟨by rfl,?_⟩) ?_ ?_
 rotate_left
 ·intro w'
  go_simp
  with_reducible rfl
 rotate_left
 ·simp only [Act.put,zA,zB,zC,i64_w,i32_w]
  rfl
 refine pure_ (i:=3) (N:=some 42) (v:=?_) (a':=?_) #[true,true,true,true,false,false,false,false,false,false,false,false] rfl rfl (any_of HT_.out (by kernel_rfl)) (fun _ _ _ h => h) (Or.inl ⟨by rfl,?_⟩) ?_ ?_
 rotate_left
 ·intro w'
  go_simp
  with_reducible rfl
 rotate_left
 ·simp only [Act.put,zA,zB,zC,i64_w,i32_w]
  rfl
 refine pure_ (i:=4) (N:=some 43) (v:=?_) (a':=?_) #[true,true,true,true,true,false,false,false,false,false,false,false] rfl rfl (any_of HT_.out (by kernel_rfl)) (fun _ _ _ h => h) (Or.inl ⟨by rfl,?_⟩) ?_ ?_
 rotate_left
 ·intro w'
  go_simp
  with_reducible rfl
 rotate_left
 ·simp only [Act.put,zA,zB,zC,i64_w,i32_w]
  rfl
 refine pure_ (i:=5) (N:=some 44) (v:=?_) (a':=?_) #[true,true,true,true,true,true,false,false,false,false,false,false] rfl rfl (any_of HT_.out (by kernel_rfl)) (fun _ _ _ h => h) (Or.inl ⟨by rfl,?_⟩) ?_ ?_
 rotate_left
 ·intro w'
  go_simp
  with_reducible rfl
 rotate_left
 ·simp only [Act.put,zA,zB,zC,i64_w,i32_w]
  rfl
 refine pure_ (i:=6) (N:=some 45) (v:=?_) (a':=?_) #[true,true,true,true,true,true,true,false,false,false,false,false] rfl rfl (any_of HT_.out (by kernel_rfl)) (fun _ _ _ h => h) (Or.inl ⟨by rfl,?_⟩) ?_ ?_
 rotate_left
 ·intro w'
  go_simp
  with_reducible rfl
 rotate_left
 ·simp only [Act.put,zA,zB,zC,i64_w,i32_w]
  rfl
 refine pure_ (i:=7) (N:=some 46) (v:=?_) (a':=?_) #[true,true,true,true,true,true,true,true,false,false,false,false] rfl rfl (any_of HT_.out (by kernel_rfl)) (fun _ _ _ h => h) (Or.inl ⟨by rfl,?_⟩) ?_ ?_
 rotate_left
 ·intro w'
  go_simp
  with_reducible rfl
 rotate_left
 ·simp only [Act.put,zA,zB,zC,i64_w,i32_w]
  rfl
 refine pure_ (i:=8) (N:=some 47) (v:=?_) (a':=?_) #[true,true,true,true,true,true,true,true,true,false,false,false] rfl rfl (any_of HT_.out (by kernel_rfl)) (fun _ _ _ h => h) (Or.inl ⟨by rfl,?_⟩) ?_ ?_
 rotate_left
 ·intro w'
  go_simp
  with_reducible rfl
 rotate_left
 ·simp only [Act.put,zA,zB,zC,i64_w,i32_w]
  rfl
 refine one_ (i:=9) (N:=none) #[true,true,true,true,true,true,true,true,true,true,false,false] rfl rfl (one_of HT_.out (by kernel_rfl)) (by decide) (fun K hK => ?_)
 refine H.put_step (by rfl) rfl rfl (i:=6) [.pointer (some ⟨gp,2,none⟩),.int .i64 1,.int .i64 65536] Kgf.out rfl rfl (by kernel_rfl) (by kernel_rfl) (by kernel_rfl) ?_
 intro W6 hw
 have ngr:=Aside0.mk (H.far_fill hw Ngr_gf.out Kgr.out)
 have ngf : Aside0 (W6.heap[gf]? = some (.cells #[.pointer (some ⟨gp,0,none⟩),.int .i64 1,.int .i64 2,.pointer (some ⟨gp,1,none⟩),.int .i64 1,.int .i64 1048576,.pointer (some ⟨gp,2,none⟩),.int .i64 1,.int .i64 65536,.pointer none,.int .i64 0,.int .i64 0,.pointer (some ⟨gp,6,none⟩),.int .i64 1,.int .i64 1000,.pointer (some ⟨gp,7,none⟩),.int .i64 1,.int .i64 64,.pointer (some ⟨gp,8,none⟩),.int .i64 0,.int .i64 1000,.pointer (some ⟨gp,9,none⟩),.int .i64 1,.int .i64 1000] 95 (0,0))):=Aside0.mk (H.blk_fill hw Kgf.out (by kernel_rfl))
 have nB : Aside0 (Below w.heap.size w W6):=Aside0.mk (H.below_fill hw Lgf.out HB.out)
 clear Kgr;have Kgr:=ngr;clear ngr
 clear Kgf;have Kgf:=ngf;clear ngf
 clear HB;have HB:=nB;clear nB
 clear hw
 have kgr:=blk_cell Kgr.out;have fgr:=blk_frozen Kgr.out
 have kgf:=blk_cell Kgf.out;have fgf:=blk_frozen Kgf.out
 have kp:=pw_cell_below HB.out HK.out
 refine hK.out _ _ trivial (fun hHeld => ?_)
 clear hK K
 refine pure_ (i:=10) (N:=some 48) (v:=?_) (a':=?_) #[true,true,true,true,true,true,true,true,true,true,true,false] rfl rfl (any_of HT_.out (by kernel_rfl)) (fun _ _ _ h => h) (Or.inl ⟨by rfl,?_⟩) ?_ ?_
 rotate_left
 ·intro w'
  go_simp
  with_reducible rfl
 rotate_left
 ·simp only [Act.put,zA,zB,zC,i64_w,i32_w]
  rfl
 refine one_ (i:=11) (N:=none) #[true,true,true,true,true,true,true,true,true,true,true,true] rfl rfl (one_of HT_.out (by kernel_rfl)) (by decide) (fun K hK => ?_)
 refine H.put_step (by rfl) rfl rfl (i:=9) [.pointer (some ⟨gp,3,none⟩),.int .i64 1,.int .i64 65536] Kgf.out rfl rfl (by kernel_rfl) (by kernel_rfl) (by kernel_rfl) ?_
 intro W7 hw
 have ngr:=Aside0.mk (H.far_fill hw Ngr_gf.out Kgr.out)
 have ngf : Aside0 (W7.heap[gf]? = some (.cells #[.pointer (some ⟨gp,0,none⟩),.int .i64 1,.int .i64 2,.pointer (some ⟨gp,1,none⟩),.int .i64 1,.int .i64 1048576,.pointer (some ⟨gp,2,none⟩),.int .i64 1,.int .i64 65536,.pointer (some ⟨gp,3,none⟩),.int .i64 1,.int .i64 65536,.pointer (some ⟨gp,6,none⟩),.int .i64 1,.int .i64 1000,.pointer (some ⟨gp,7,none⟩),.int .i64 1,.int .i64 64,.pointer (some ⟨gp,8,none⟩),.int .i64 0,.int .i64 1000,.pointer (some ⟨gp,9,none⟩),.int .i64 1,.int .i64 1000] 95 (0,0))):=Aside0.mk (H.blk_fill hw Kgf.out (by kernel_rfl))
 have nB : Aside0 (Below w.heap.size w W7):=Aside0.mk (H.below_fill hw Lgf.out HB.out)
 clear kgr fgr kgf fgf kp
 clear Kgr;have Kgr:=ngr;clear ngr
 clear Kgf;have Kgf:=ngf;clear ngf
 clear HB;have HB:=nB;clear nB
 clear hw
 have kgr:=blk_cell Kgr.out;have fgr:=blk_frozen Kgr.out
 have kgf:=blk_cell Kgf.out;have fgf:=blk_frozen Kgf.out
 have kp:=pw_cell_below HB.out HK.out
 refine hK.out _ _ trivial (fun hHeld => ?_)
 clear hK K
 refine done_ (done_of HT_.out (by kernel_rfl)) ?_
 go_wp2_with (first | ((with_reducible refine gate_dst (N:=61) rfl ?_);replace HB : Aside0 (Below w.heap.size w W7):=HB;refine H.get_event (t:=95) (x:=4) (N:=61) (i:=0) rfl rfl rfl [.pointer (some ⟨gp,0,none⟩),.int .i64 1,.int .i64 2,.pointer (some ⟨gp,1,none⟩),.int .i64 1,.int .i64 1048576,.pointer (some ⟨gp,2,none⟩),.int .i64 1,.int .i64 65536,.pointer (some ⟨gp,3,none⟩),.int .i64 1,.int .i64 65536,.pointer (some ⟨gp,6,none⟩),.int .i64 1,.int .i64 1000,.pointer (some ⟨gp,7,none⟩),.int .i64 1,.int .i64 64,.pointer (some ⟨gp,8,none⟩),.int .i64 0,.int .i64 1000,.pointer (some ⟨gp,9,none⟩),.int .i64 1,.int .i64 1000] Kgf.out rfl (by kernel_rfl) Try.underlying95 rfl (by kernel_rfl) ?_) | ((with_reducible refine gate_store (t:=95) (p:=2) rfl ?_);replace HB : Aside0 (Below w.heap.size w W7):=HB;refine H.put_event (t:=95) (p:=2) (i:=0) rfl rfl rfl [.pointer (some ⟨gp,0,none⟩),.int .i64 1,.int .i64 2,.pointer (some ⟨gp,1,none⟩),.int .i64 1,.int .i64 1048576,.pointer (some ⟨gp,2,none⟩),.int .i64 1,.int .i64 65536,.pointer (some ⟨gp,3,none⟩),.int .i64 1,.int .i64 65536,.pointer (some ⟨gp,6,none⟩),.int .i64 1,.int .i64 1000,.pointer (some ⟨gp,7,none⟩),.int .i64 1,.int .i64 64,.pointer (some ⟨gp,8,none⟩),.int .i64 0,.int .i64 1000,.pointer (some ⟨gp,9,none⟩),.int .i64 1,.int .i64 1000] Kgr.out rfl rfl (by kernel_rfl) (by kernel_rfl) (by kernel_rfl) ?_;intro W8 hw;replace Kgr : Aside0 (W8.heap[gr]? = some (.cells #[.pointer (some ⟨gp,0,none⟩),.int .i64 1,.int .i64 2,.pointer (some ⟨gp,1,none⟩),.int .i64 1,.int .i64 1048576,.pointer (some ⟨gp,2,none⟩),.int .i64 1,.int .i64 65536,.pointer (some ⟨gp,3,none⟩),.int .i64 1,.int .i64 65536,.pointer (some ⟨gp,6,none⟩),.int .i64 1,.int .i64 1000,.pointer (some ⟨gp,7,none⟩),.int .i64 1,.int .i64 64,.pointer (some ⟨gp,8,none⟩),.int .i64 0,.int .i64 1000,.pointer (some ⟨gp,9,none⟩),.int .i64 1,.int .i64 1000] 95 (0,0))):=Aside0.mk (H.blk_fill hw Kgr.out (by kernel_rfl));replace Kgf:=Aside0.mk (H.far_fill hw Ngf_gr.out Kgf.out);replace HB : Aside0 (Below w.heap.size w W8):=Aside0.mk (H.below_fill hw Lgr.out HB.out);clear kgr fgr kgf fgf kp;clear hw;have kgr:=blk_cell Kgr.out;have fgr:=blk_frozen Kgr.out;have kgf:=blk_cell Kgf.out;have fgf:=blk_frozen Kgf.out;have kp:=pw_cell_below HB.out HK.out))
 refine bodyPost_ret (results_ct rfl _ _ gr 95 #[.pointer (some ⟨gp,0,none⟩),.int .i64 1,.int .i64 2,.pointer (some ⟨gp,1,none⟩),.int .i64 1,.int .i64 1048576,.pointer (some ⟨gp,2,none⟩),.int .i64 1,.int .i64 65536,.pointer (some ⟨gp,3,none⟩),.int .i64 1,.int .i64 65536,.pointer (some ⟨gp,6,none⟩),.int .i64 1,.int .i64 1000,.pointer (some ⟨gp,7,none⟩),.int .i64 1,.int .i64 64,.pointer (some ⟨gp,8,none⟩),.int .i64 0,.int .i64 1000,.pointer (some ⟨gp,9,none⟩),.int .i64 1,.int .i64 1000] (0,0) _ rfl Kgr.out Try.underlying95 rfl (by kernel_rfl)) rfl ?_
 exact ⟨rfl,HB.out⟩
set_option maxHeartbeats 1000000 in
set_option maxRecDepth 100000 in
theorem fields_2 (gp : Nat) (w : World) (hk : w.cell? ⟨gp,0,none⟩ = some (.int .i64 2)) :
  Calls Try.prog 74 #[.pointer (some ⟨gp,0,none⟩)] w fun e w' => e = .returned (.tuple #[.agg #[.pointer (some ⟨gp,0,none⟩),.int .i64 1,.int .i64 2,.pointer (some ⟨gp,1,none⟩),.int .i64 1,.int .i64 1048576,.pointer (some ⟨gp,4,none⟩),.int .i64 1,.int .i64 1048576,.pointer (some ⟨gp,5,none⟩),.int .i64 1,.int .i64 32,.pointer (some ⟨gp,6,none⟩),.int .i64 1,.int .i64 1000,.pointer (some ⟨gp,7,none⟩),.int .i64 1,.int .i64 64,.pointer (some ⟨gp,8,none⟩),.int .i64 0,.int .i64 1000,.pointer (some ⟨gp,9,none⟩),.int .i64 1,.int .i64 1000],.bool true]) ∧ Below w.heap.size w w':=by
 have HK:=Aside0.mk hk
 have HB:=Aside0.mk (Below.refl w.heap.size w)
 clear hk
 go_enter Try.func74,Try.ntmps74
 go_wp2_with (first | ((with_reducible refine gate_dst (N:=2) rfl ?_);replace HB : Aside0 (Below w.heap.size w w):=HB;refine box_event ?hg (N:=2) ?hd (cs:=#[.pointer none,.int .i64 0,.int .i64 0,.pointer none,.int .i64 0,.int .i64 0,.pointer none,.int .i64 0,.int .i64 0,.pointer none,.int .i64 0,.int .i64 0,.pointer none,.int .i64 0,.int .i64 0,.pointer none,.int .i64 0,.int .i64 0,.pointer none,.int .i64 0,.int .i64 0,.pointer none,.int .i64 0,.int .i64 0]) (t:=95) ?hr ?_;(case hd => rfl);(case hg => rfl);(case hr => first | (go_simp;done) | (go_simp;rfl));intro gr hg W1 hbox hb;have Lgr : Aside0 (w.heap.size ≤ gr):=Aside0.mk (by rw [hg];exact below_size HB.out);replace HB : Aside0 (Below w.heap.size w W1):=Aside0.mk (below_step HB.out hb);have Kgr : Aside0 (W1.heap[gr]? = some (.cells #[.pointer none,.int .i64 0,.int .i64 0,.pointer none,.int .i64 0,.int .i64 0,.pointer none,.int .i64 0,.int .i64 0,.pointer none,.int .i64 0,.int .i64 0,.pointer none,.int .i64 0,.int .i64 0,.pointer none,.int .i64 0,.int .i64 0,.pointer none,.int .i64 0,.int .i64 0,.pointer none,.int .i64 0,.int .i64 0] 95 (0,0))):=Aside0.mk hbox;clear hb hbox hg;have kgr:=blk_cell Kgr.out;have fgr:=blk_frozen Kgr.out;have kp:=pw_cell_below HB.out HK.out))
 replace Kgr:=Aside0.mk (blk_drew Kgr.out); 
 replace HB:=Aside0.mk (below_drew1 HB.out); 
 clear kgr fgr kp
 refine start_ (n:=29) (S:=fun w' => True) (ds:=[]) #[false,false,false,false,false,false,false,false,false,false,false,false,false,false,false,false,false,false,false,false,false,false,false,false,false,false,false,false,false] (by kernel_rfl) rfl rfl trivial (fun hHeld => ?_)
 refine with_tabW t74_1.tab t74_1.bits (fun HT_ HW_ => ?_)
 generalize W1.drew = W2 at Kgr HB ⊢
 refine pure_ (i:=0) (N:=some 5) (v:=?_) (a':=?_) #[true,false,false,false,false,false,false,false,false,false,false,false,false,false,false,false,false,false,false,false,false,false,false,false,false,false,false,false,false] rfl rfl (any_of HT_.out (by kernel_rfl)) (fun _ _ _ h => h) (Or.inl ⟨by rfl,?_⟩) ?_ ?_
 rotate_left
 ·intro w'
  go_simp
  with_reducible rfl
 rotate_left
 ·simp only [Act.put,zA,zB,zC,i64_w,i32_w]
  rfl
 refine pure_ (i:=1) (N:=some 6) (v:=?_) (a':=?_) #[true,true,false,false,false,false,false,false,false,false,false,false,false,false,false,false,false,false,false,false,false,false,false,false,false,false,false,false,false] rfl rfl (any_of HT_.out (by kernel_rfl)) (fun _ _ _ h => h) (Or.inl ⟨by rfl,?_⟩) ?_ ?_
 rotate_left
 ·intro w'
  go_simp
  with_reducible rfl
 rotate_left
 ·simp only [Act.put,zA,zB,zC,i64_w,i32_w]
  rfl
 refine pure_ (i:=2) (N:=some 7) (v:=?_) (a':=?_) #[true,true,true,false,false,false,false,false,false,false,false,false,false,false,false,false,false,false,false,false,false,false,false,false,false,false,false,false,false] rfl rfl (any_of HT_.out (by kernel_rfl)) (fun _ _ _ h => h) (Or.inl ⟨by rfl,?_⟩) ?_ ?_
 rotate_left
 ·intro w'
  go_simp
  with_reducible rfl
 rotate_left
 ·simp only [Act.put,zA,zB,zC,i64_w,i32_w]
  rfl
 refine pure_ (i:=3) (N:=some 8) (v:=?_) (a':=?_) #[true,true,true,true,false,false,false,false,false,false,false,false,false,false,false,false,false,false,false,false,false,false,false,false,false,false,false,false,false] rfl rfl (any_of HT_.out (by kernel_rfl)) (fun _ _ _ h => h) (Or.inl ⟨by rfl,?_⟩) ?_ ?_
 rotate_left
 ·intro w'
  go_simp
  with_reducible rfl
 rotate_left
 ·simp only [Act.put,zA,zB,zC,i64_w,i32_w]
  rfl
 refine pure_ (i:=4) (N:=some 9) (v:=?_) (a':=?_) #[true,true,true,true,true,false,false,false,false,false,false,false,false,false,false,false,false,false,false,false,false,false,false,false,false,false,false,false,false] rfl rfl (any_of HT_.out (by kernel_rfl)) (fun _ _ _ h => h) (Or.inl ⟨by rfl,?_⟩) ?_ ?_
 rotate_left
 ·intro w'
  go_simp
  with_reducible rfl
 rotate_left
 ·simp only [Act.put,zA,zB,zC,i64_w,i32_w]
  rfl
 refine pure_ (i:=5) (N:=some 10) (v:=?_) (a':=?_) #[true,true,true,true,true,true,false,false,false,false,false,false,false,false,false,false,false,false,false,false,false,false,false,false,false,false,false,false,false] rfl rfl (any_of HT_.out (by kernel_rfl)) (fun _ _ _ h => h) (Or.inl ⟨by rfl,?_⟩) ?_ ?_
 rotate_left
 ·intro w'
  go_simp
  with_reducible rfl
 rotate_left
 ·simp only [Act.put,zA,zB,zC,i64_w,i32_w]
  rfl
 refine pure_ (i:=6) (N:=some 11) (v:=?_) (a':=?_) #[true,true,true,true,true,true,true,false,false,false,false,false,false,false,false,false,false,false,false,false,false,false,false,false,false,false,false,false,false] rfl rfl (any_of HT_.out (by kernel_rfl)) (fun _ _ _ h => h) (Or.inl ⟨by rfl,?_⟩) ?_ ?_
 rotate_left
 ·intro w'
  go_simp
  with_reducible rfl
 rotate_left
 ·simp only [Act.put,zA,zB,zC,i64_w,i32_w]
  rfl
 refine pure_ (i:=7) (N:=some 12) (v:=?_) (a':=?_) #[true,true,true,true,true,true,true,true,false,false,false,false,false,false,false,false,false,false,false,false,false,false,false,false,false,false,false,false,false] rfl rfl (any_of HT_.out (by kernel_rfl)) (fun _ _ _ h => h) (Or.inl ⟨by rfl,?_⟩) ?_ ?_
 rotate_left
 ·intro w'
  go_simp
  with_reducible rfl
 rotate_left
 ·simp only [Act.put,zA,zB,zC,i64_w,i32_w]
  rfl
 refine pure_ (i:=8) (N:=some 13) (v:=?_) (a':=?_) #[true,true,true,true,true,true,true,true,true,false,false,false,false,false,false,false,false,false,false,false,false,false,false,false,false,false,false,false,false] rfl rfl (any_of HT_.out (by kernel_rfl)) (fun _ _ _ h => h) (Or.inl ⟨by rfl,?_⟩) ?_ ?_
 rotate_left
 ·intro w'
  go_simp
  with_reducible rfl
 rotate_left
 ·simp only [Act.put,zA,zB,zC,i64_w,i32_w]
  rfl
 refine pure_ (i:=9) (N:=some 14) (v:=?_) (a':=?_) #[true,true,true,true,true,true,true,true,true,true,false,false,false,false,false,false,false,false,false,false,false,false,false,false,false,false,false,false,false] rfl rfl (any_of HT_.out (by kernel_rfl)) (fun _ _ _ h => h) (Or.inl ⟨by rfl,?_⟩) ?_ ?_
 rotate_left
 ·intro w'
  go_simp
  with_reducible rfl
 rotate_left
 ·simp only [Act.put,zA,zB,zC,i64_w,i32_w]
  rfl
 refine pure_ (i:=10) (N:=some 15) (v:=?_) (a':=?_) #[true,true,true,true,true,true,true,true,true,true,true,false,false,false,false,false,false,false,false,false,false,false,false,false,false,false,false,false,false] rfl rfl (any_of HT_.out (by kernel_rfl)) (fun _ _ _ h => h) (Or.inl ⟨by rfl,?_⟩) ?_ ?_
 rotate_left
 ·intro w'
  go_simp
  with_reducible rfl
 rotate_left
 ·simp only [Act.put,zA,zB,zC,i64_w,i32_w]
  rfl
 refine pure_ (i:=11) (N:=some 16) (v:=?_) (a':=?_) #[true,true,true,true,true,true,true,true,true,true,true,true,false,false,false,false,false,false,false,false,false,false,false,false,false,false,false,false,false] rfl rfl (any_of HT_.out (by kernel_rfl)) (fun _ _ _ h => h) (Or.inl ⟨by rfl,?_⟩) ?_ ?_
 rotate_left
 ·intro w'
  go_simp
  with_reducible rfl
 rotate_left
 ·simp only [Act.put,zA,zB,zC,i64_w,i32_w]
  rfl
 refine pure_ (i:=12) (N:=some 17) (v:=?_) (a':=?_) #[true,true,true,true,true,true,true,true,true,true,true,true,true,false,false,false,false,false,false,false,false,false,false,false,false,false,false,false,false] rfl rfl (any_of HT_.out (by kernel_rfl)) (fun _ _ _ h => h) (Or.inl ⟨by rfl,?_⟩) ?_ ?_
 rotate_left
 ·intro w'
  go_simp
  with_reducible rfl
 rotate_left
 ·simp only [Act.put,zA,zB,zC,i64_w,i32_w]
  rfl
 refine pure_ (i:=13) (N:=some 18) (v:=?_) (a':=?_) #[true,true,true,true,true,true,true,true,true,true,true,true,true,true,false,false,false,false,false,false,false,false,false,false,false,false,false,false,false] rfl rfl (any_of HT_.out (by kernel_rfl)) (fun _ _ _ h => h) (Or.inl ⟨by rfl,?_⟩) ?_ ?_
 rotate_left
 ·intro w'
  go_simp
  with_reducible rfl
 rotate_left
 ·simp only [Act.put,zA,zB,zC,i64_w,i32_w]
  rfl
 refine pure_ (i:=14) (N:=some 19) (v:=?_) (a':=?_) #[true,true,true,true,true,true,true,true,true,true,true,true,true,true,true,false,false,false,false,false,false,false,false,false,false,false,false,false,false] rfl rfl (any_of HT_.out (by kernel_rfl)) (fun _ _ _ h => h) (Or.inl ⟨by rfl,?_⟩) ?_ ?_
 rotate_left
 ·intro w'
  go_simp
  with_reducible rfl
 rotate_left
 ·simp only [Act.put,zA,zB,zC,i64_w,i32_w]
  rfl
 refine pure_ (i:=15) (N:=some 20) (v:=?_) (a':=?_) #[true,true,true,true,true,true,true,true,true,true,true,true,true,true,true,true,false,false,false,false,false,false,false,false,false,false,false,false,false] rfl rfl (any_of HT_.out (by kernel_rfl)) (fun _ _ _ h => h) (Or.inl ⟨by rfl,?_⟩) ?_ ?_
 rotate_left
 ·intro w'
  go_simp
  with_reducible rfl
 rotate_left
 ·simp only [Act.put,zA,zB,zC,i64_w,i32_w]
  rfl
 refine pure_ (i:=16) (N:=some 21) (v:=?_) (a':=?_) #[true,true,true,true,true,true,true,true,true,true,true,true,true,true,true,true,true,false,false,false,false,false,false,false,false,false,false,false,false] rfl rfl (any_of HT_.out (by kernel_rfl)) (fun _ _ _ h => h) (Or.inl ⟨by rfl,?_⟩) ?_ ?_
 rotate_left
 ·intro w'
  go_simp
  with_reducible rfl
 rotate_left
 ·simp only [Act.put,zA,zB,zC,i64_w,i32_w]
  rfl
 refine pure_ (i:=17) (N:=some 22) (v:=?_) (a':=?_) #[true,true,true,true,true,true,true,true,true,true,true,true,true,true,true,true,true,true,false,false,false,false,false,false,false,false,false,false,false] rfl rfl (any_of HT_.out (by kernel_rfl)) (fun _ _ _ h => h) (Or.inl ⟨by rfl,?_⟩) ?_ ?_
 rotate_left
 ·intro w'
  go_simp
  with_reducible rfl
 rotate_left
 ·simp only [Act.put,zA,zB,zC,i64_w,i32_w]
  rfl
 refine pure_ (i:=18) (N:=some 23) (v:=?_) (a':=?_) #[true,true,true,true,true,true,true,true,true,true,true,true,true,true,true,true,true,true,true,false,false,false,false,false,false,false,false,false,false] rfl rfl (any_of HT_.out (by kernel_rfl)) (fun _ _ _ h => h) (Or.inl ⟨by rfl,?_⟩) ?_ ?_
 rotate_left
 ·intro w'
  go_simp
  with_reducible rfl
 rotate_left
 ·simp only [Act.put,zA,zB,zC,i64_w,i32_w]
  rfl
 refine pure_ (i:=19) (N:=some 24) (v:=?_) (a':=?_) #[true,true,true,true,true,true,true,true,true,true,true,true,true,true,true,true,true,true,true,true,false,false,false,false,false,false,false,false,false] rfl rfl (any_of HT_.out (by kernel_rfl)) (fun _ _ _ h => h) (Or.inl ⟨by rfl,?_⟩) ?_ ?_
 rotate_left
 ·intro w'
  go_simp
  with_reducible rfl
 rotate_left
 ·simp only [Act.put,zA,zB,zC,i64_w,i32_w]
  rfl
 refine pure_ (i:=20) (N:=some 25) (v:=?_) (a':=?_) #[true,true,true,true,true,true,true,true,true,true,true,true,true,true,true,true,true,true,true,true,true,false,false,false,false,false,false,false,false] rfl rfl (any_of HT_.out (by kernel_rfl)) (fun _ _ _ h => h) (Or.inl ⟨by rfl,?_⟩) ?_ ?_
 rotate_left
 ·intro w'
  go_simp
  with_reducible rfl
 rotate_left
 ·simp only [Act.put,zA,zB,zC,i64_w,i32_w]
  rfl
 refine pure_ (i:=21) (N:=some 26) (v:=?_) (a':=?_) #[true,true,true,true,true,true,true,true,true,true,true,true,true,true,true,true,true,true,true,true,true,true,false,false,false,false,false,false,false] rfl rfl (any_of HT_.out (by kernel_rfl)) (fun _ _ _ h => h) (Or.inl ⟨by rfl,?_⟩) ?_ ?_
 rotate_left
 ·intro w'
  go_simp
  with_reducible rfl
 rotate_left
 ·simp only [Act.put,zA,zB,zC,i64_w,i32_w]
  rfl
 refine pure_ (i:=22) (N:=some 27) (v:=?_) (a':=?_) #[true,true,true,true,true,true,true,true,true,true,true,true,true,true,true,true,true,true,true,true,true,true,true,false,false,false,false,false,false] rfl rfl (any_of HT_.out (by kernel_rfl)) (fun _ _ _ h => h) (Or.inl ⟨by rfl,?_⟩) ?_ ?_
 rotate_left
 ·intro w'
  go_simp
  with_reducible rfl
 rotate_left
 ·simp only [Act.put,zA,zB,zC,i64_w,i32_w]
  rfl
 refine pure_ (i:=23) (N:=some 28) (v:=?_) (a':=?_) #[true,true,true,true,true,true,true,true,true,true,true,true,true,true,true,true,true,true,true,true,true,true,true,true,false,false,false,false,false] rfl rfl (any_of HT_.out (by kernel_rfl)) (fun _ _ _ h => h) (Or.inl ⟨by rfl,?_⟩) ?_ ?_
 rotate_left
 ·intro w'
  go_simp
  with_reducible rfl
 rotate_left
 ·simp only [Act.put,zA,zB,zC,i64_w,i32_w]
  rfl
 refine pure_ (i:=24) (N:=some 29) (v:=?_) (a':=?_) #[true,true,true,true,true,true,true,true,true,true,true,true,true,true,true,true,true,true,true,true,true,true,true,true,true,false,false,false,false] rfl rfl (any_of HT_.out (by kernel_rfl)) (fun _ _ _ h => h) (Or.inl ⟨by rfl,?_⟩) ?_ ?_
 rotate_left
 ·intro w'
  go_simp
  with_reducible rfl
 rotate_left
 ·simp only [Act.put,zA,zB,zC,i64_w,i32_w]
  rfl
 refine pure_ (i:=25) (N:=some 30) (v:=?_) (a':=?_) #[true,true,true,true,true,true,true,true,true,true,true,true,true,true,true,true,true,true,true,true,true,true,true,true,true,true,false,false,false] rfl rfl (any_of HT_.out (by kernel_rfl)) (fun _ _ _ h => h) (Or.inl ⟨by rfl,?_⟩) ?_ ?_
 rotate_left
 ·intro w'
  go_simp
  with_reducible rfl
 rotate_left
 ·simp only [Act.put,zA,zB,zC,i64_w,i32_w]
  rfl
 refine pure_ (i:=26) (N:=some 31) (v:=?_) (a':=?_) #[true,true,true,true,true,true,true,true,true,true,true,true,true,true,true,true,true,true,true,true,true,true,true,true,true,true,true,false,false] rfl rfl (any_of HT_.out (by kernel_rfl)) (fun _ _ _ h => h) (Or.inl ⟨by rfl,?_⟩) ?_ ?_
 rotate_left
 ·intro w'
  go_simp
  with_reducible rfl
 rotate_left
 ·simp only [Act.put,zA,zB,zC,i64_w,i32_w]
  rfl
 refine one_ (i:=27) (N:=some 4) #[true,true,true,true,true,true,true,true,true,true,true,true,true,true,true,true,true,true,true,true,true,true,true,true,true,true,true,true,false] rfl rfl (one_of HT_.out (by kernel_rfl)) (by decide) (fun K hK => ?_)
 refine H.box_step (by rfl) rfl (cs:=#[.pointer none,.int .i64 0,.int .i64 0,.pointer none,.int .i64 0,.int .i64 0,.pointer none,.int .i64 0,.int .i64 0,.pointer none,.int .i64 0,.int .i64 0,.pointer none,.int .i64 0,.int .i64 0,.pointer none,.int .i64 0,.int .i64 0,.pointer none,.int .i64 0,.int .i64 0,.pointer none,.int .i64 0,.int .i64 0]) (t:=95) ?_ ?_
 ·first | (go_simp;done) | (go_simp;rfl)
 intro gf hg W3 hbox hb
 have Lgf : Aside0 (w.heap.size ≤ gf):=Aside0.mk (by rw [hg];exact below_size HB.out)
 have Ngr_gf : Aside0 (gr ≠ gf):=Aside0.mk (by rw [hg];exact Nat.ne_of_lt (blk_lt Kgr.out));have Ngf_gr : Aside0 (gf ≠ gr):=Aside0.mk (fun e => Ngr_gf.out e.symm)
 have ngr:=Aside0.mk (blk_below Kgr.out hb)
 have nB : Aside0 (Below w.heap.size w W3):=Aside0.mk (below_step HB.out hb)
 clear Kgr;have Kgr:=ngr;clear ngr
 clear HB;have HB:=nB;clear nB
 have Kgf : Aside0 (W3.heap[gf]? = some (.cells #[.pointer none,.int .i64 0,.int .i64 0,.pointer none,.int .i64 0,.int .i64 0,.pointer none,.int .i64 0,.int .i64 0,.pointer none,.int .i64 0,.int .i64 0,.pointer none,.int .i64 0,.int .i64 0,.pointer none,.int .i64 0,.int .i64 0,.pointer none,.int .i64 0,.int .i64 0,.pointer none,.int .i64 0,.int .i64 0] 95 (0,0))):=Aside0.mk hbox
 clear hb hbox hg
 have kgr:=blk_cell Kgr.out;have fgr:=blk_frozen Kgr.out
 have kgf:=blk_cell Kgf.out;have fgf:=blk_frozen Kgf.out
 have kp:=pw_cell_below HB.out HK.out
 refine hK.out _ _ trivial (fun hHeld => ?_)
 clear hK K
 refine norm_ (a':=?_) ?_ ?_
 rotate_left
 ·show Act.put _ (some 4) _ = _
  simp only [Act.put,zA,zB,zC,i64_w,i32_w]
  rfl
 refine one_ (i:=28) (N:=none) #[true,true,true,true,true,true,true,true,true,true,true,true,true,true,true,true,true,true,true,true,true,true,true,true,true,true,true,true,true] rfl rfl (one_of HT_.out (by kernel_rfl)) (by decide) (fun K hK => ?_)
 refine H.put_step (by rfl) rfl rfl (i:=0) [.pointer (some ⟨gp,0,none⟩),.int .i64 1,.int .i64 2,.pointer (some ⟨gp,1,none⟩),.int .i64 1,.int .i64 1048576,.pointer none,.int .i64 0,.int .i64 0,.pointer none,.int .i64 0,.int .i64 0,.pointer (some ⟨gp,6,none⟩),.int .i64 1,.int .i64 1000,.pointer (some ⟨gp,7,none⟩),.int .i64 1,.int .i64 64,.pointer (some ⟨gp,8,none⟩),.int .i64 0,.int .i64 1000,.pointer (some ⟨gp,9,none⟩),.int .i64 1,.int .i64 1000] Kgf.out rfl rfl (by kernel_rfl) (by kernel_rfl) (by kernel_rfl) ?_
 intro W4 hw
 have ngr:=Aside0.mk (H.far_fill hw Ngr_gf.out Kgr.out)
 have ngf : Aside0 (W4.heap[gf]? = some (.cells #[.pointer (some ⟨gp,0,none⟩),.int .i64 1,.int .i64 2,.pointer (some ⟨gp,1,none⟩),.int .i64 1,.int .i64 1048576,.pointer none,.int .i64 0,.int .i64 0,.pointer none,.int .i64 0,.int .i64 0,.pointer (some ⟨gp,6,none⟩),.int .i64 1,.int .i64 1000,.pointer (some ⟨gp,7,none⟩),.int .i64 1,.int .i64 64,.pointer (some ⟨gp,8,none⟩),.int .i64 0,.int .i64 1000,.pointer (some ⟨gp,9,none⟩),.int .i64 1,.int .i64 1000] 95 (0,0))):=Aside0.mk (H.blk_fill hw Kgf.out (by kernel_rfl))
 have nB : Aside0 (Below w.heap.size w W4):=Aside0.mk (H.below_fill hw Lgf.out HB.out)
 clear kgr fgr kgf fgf kp
 clear Kgr;have Kgr:=ngr;clear ngr
 clear Kgf;have Kgf:=ngf;clear ngf
 clear HB;have HB:=nB;clear nB
 clear hw
 have kgr:=blk_cell Kgr.out;have fgr:=blk_frozen Kgr.out
 have kgf:=blk_cell Kgf.out;have fgf:=blk_frozen Kgf.out
 have kp:=pw_cell_below HB.out HK.out
 refine hK.out _ _ trivial (fun hHeld => ?_)
 clear hK K
 refine done_ (done_of HT_.out (by kernel_rfl)) ?_
 go_wp2_with fail
 replace Kgr:=Aside0.mk (blk_drew Kgr.out); 
 replace Kgf:=Aside0.mk (blk_drew Kgf.out); 
 replace HB:=Aside0.mk (below_drew1 HB.out); 
 clear kgr fgr kgf fgf kp
 refine start_ (n:=12) (S:=fun w' => True) (ds:=[]) #[false,false,false,false,false,false,false,false,false,false,false,false] (by kernel_rfl) rfl rfl trivial (fun hHeld => ?_)
 refine with_tabW t74_7.tab t74_7.bits (fun HT_ HW_ => ?_)
 generalize W4.drew = W5 at Kgr Kgf HB ⊢
 refine pure_ (i:=0) (N:=some 51) (v:=?_) (a':=?_) #[true,false,false,false,false,false,false,false,false,false,false,false] rfl rfl (any_of HT_.out (by kernel_rfl)) (fun _ _ _ h => h) (Or.inl ⟨by rfl,?_⟩) ?_ ?_
 rotate_left
 ·intro w'
  go_simp
  with_reducible rfl
 rotate_left
 ·simp only [Act.put,zA,zB,zC,i64_w,i32_w]
  rfl
 refine pure_ (i:=1) (N:=some 52) (v:=?_) (a':=?_) #[true,true,false,false,false,false,false,false,false,false,false,false] rfl rfl (any_of HT_.out (by kernel_rfl)) (fun _ _ _ h => h) (Or.inl ⟨by rfl,?_⟩) ?_ ?_
 rotate_left
 ·intro w'
  go_simp
  with_reducible rfl
 rotate_left
 ·simp only [Act.put,zA,zB,zC,i64_w,i32_w]
  rfl
 refine pure_ (i:=2) (N:=some 53) (v:=?_) (a':=?_) #[true,true,true,false,false,false,false,false,false,false,false,false] rfl rfl (any_of HT_.out (by kernel_rfl)) (fun _ _ _ h => h) (Or.inl ⟨by rfl,?_⟩) ?_ ?_
 rotate_left
 ·intro w'
  go_simp
  with_reducible rfl
 rotate_left
 ·simp only [Act.put,zA,zB,zC,i64_w,i32_w]
  rfl
 refine pure_ (i:=3) (N:=some 54) (v:=?_) (a':=?_) #[true,true,true,true,false,false,false,false,false,false,false,false] rfl rfl (any_of HT_.out (by kernel_rfl)) (fun _ _ _ h => h) (Or.inl ⟨by rfl,?_⟩) ?_ ?_
 rotate_left
 ·intro w'
  go_simp
  with_reducible rfl
 rotate_left
 ·simp only [Act.put,zA,zB,zC,i64_w,i32_w]
  rfl
 refine pure_ (i:=4) (N:=some 55) (v:=?_) (a':=?_) #[true,true,true,true,true,false,false,false,false,false,false,false] rfl rfl (any_of HT_.out (by kernel_rfl)) (fun _ _ _ h => h) (Or.inl ⟨by rfl,?_⟩) ?_ ?_
 rotate_left
 ·intro w'
  go_simp
  with_reducible rfl
 rotate_left
 ·simp only [Act.put,zA,zB,zC,i64_w,i32_w]
  rfl
 refine pure_ (i:=5) (N:=some 56) (v:=?_) (a':=?_) #[true,true,true,true,true,true,false,false,false,false,false,false] rfl rfl (any_of HT_.out (by kernel_rfl)) (fun _ _ _ h => h) (Or.inl ⟨by rfl,?_⟩) ?_ ?_
 rotate_left
 ·intro w'
  go_simp
  with_reducible rfl
 rotate_left
 ·simp only [Act.put,zA,zB,zC,i64_w,i32_w]
  rfl
 refine pure_ (i:=6) (N:=some 57) (v:=?_) (a':=?_) #[true,true,true,true,true,true,true,false,false,false,false,false] rfl rfl (any_of HT_.out (by kernel_rfl)) (fun _ _ _ h => h) (Or.inl ⟨by rfl,?_⟩) ?_ ?_
 rotate_left
 ·intro w'
  go_simp
  with_reducible rfl
 rotate_left
 ·simp only [Act.put,zA,zB,zC,i64_w,i32_w]
  rfl
 refine pure_ (i:=7) (N:=some 58) (v:=?_) (a':=?_) #[true,true,true,true,true,true,true,true,false,false,false,false] rfl rfl (any_of HT_.out (by kernel_rfl)) (fun _ _ _ h => h) (Or.inl ⟨by rfl,?_⟩) ?_ ?_
 rotate_left
 ·intro w'
  go_simp
  with_reducible rfl
 rotate_left
 ·simp only [Act.put,zA,zB,zC,i64_w,i32_w]
  rfl
 refine pure_ (i:=8) (N:=some 59) (v:=?_) (a':=?_) #[true,true,true,true,true,true,true,true,true,false,false,false] rfl rfl (any_of HT_.out (by kernel_rfl)) (fun _ _ _ h => h) (Or.inl ⟨by rfl,?_⟩) ?_ ?_
 rotate_left
 ·intro w'
  go_simp
  with_reducible rfl
 rotate_left
 ·simp only [Act.put,zA,zB,zC,i64_w,i32_w]
  rfl
 refine one_ (i:=9) (N:=none) #[true,true,true,true,true,true,true,true,true,true,false,false] rfl rfl (one_of HT_.out (by kernel_rfl)) (by decide) (fun K hK => ?_)
 refine H.put_step (by rfl) rfl rfl (i:=6) [.pointer (some ⟨gp,4,none⟩),.int .i64 1,.int .i64 1048576] Kgf.out rfl rfl (by kernel_rfl) (by kernel_rfl) (by kernel_rfl) ?_
 intro W6 hw
 have ngr:=Aside0.mk (H.far_fill hw Ngr_gf.out Kgr.out)
 have ngf : Aside0 (W6.heap[gf]? = some (.cells #[.pointer (some ⟨gp,0,none⟩),.int .i64 1,.int .i64 2,.pointer (some ⟨gp,1,none⟩),.int .i64 1,.int .i64 1048576,.pointer (some ⟨gp,4,none⟩),.int .i64 1,.int .i64 1048576,.pointer none,.int .i64 0,.int .i64 0,.pointer (some ⟨gp,6,none⟩),.int .i64 1,.int .i64 1000,.pointer (some ⟨gp,7,none⟩),.int .i64 1,.int .i64 64,.pointer (some ⟨gp,8,none⟩),.int .i64 0,.int .i64 1000,.pointer (some ⟨gp,9,none⟩),.int .i64 1,.int .i64 1000] 95 (0,0))):=Aside0.mk (H.blk_fill hw Kgf.out (by kernel_rfl))
 have nB : Aside0 (Below w.heap.size w W6):=Aside0.mk (H.below_fill hw Lgf.out HB.out)
 clear Kgr;have Kgr:=ngr;clear ngr
 clear Kgf;have Kgf:=ngf;clear ngf
 clear HB;have HB:=nB;clear nB
 clear hw
 have kgr:=blk_cell Kgr.out;have fgr:=blk_frozen Kgr.out
 have kgf:=blk_cell Kgf.out;have fgf:=blk_frozen Kgf.out
 have kp:=pw_cell_below HB.out HK.out
 refine hK.out _ _ trivial (fun hHeld => ?_)
 clear hK K
 refine pure_ (i:=10) (N:=some 60) (v:=?_) (a':=?_) #[true,true,true,true,true,true,true,true,true,true,true,false] rfl rfl (any_of HT_.out (by kernel_rfl)) (fun _ _ _ h => h) (Or.inl ⟨by rfl,?_⟩) ?_ ?_
 rotate_left
 ·intro w'
  go_simp
  with_reducible rfl
 rotate_left
 ·simp only [Act.put,zA,zB,zC,i64_w,i32_w]
  rfl
 refine one_ (i:=11) (N:=none) #[true,true,true,true,true,true,true,true,true,true,true,true] rfl rfl (one_of HT_.out (by kernel_rfl)) (by decide) (fun K hK => ?_)
 refine H.put_step (by rfl) rfl rfl (i:=9) [.pointer (some ⟨gp,5,none⟩),.int .i64 1,.int .i64 32] Kgf.out rfl rfl (by kernel_rfl) (by kernel_rfl) (by kernel_rfl) ?_
 intro W7 hw
 have ngr:=Aside0.mk (H.far_fill hw Ngr_gf.out Kgr.out)
 have ngf : Aside0 (W7.heap[gf]? = some (.cells #[.pointer (some ⟨gp,0,none⟩),.int .i64 1,.int .i64 2,.pointer (some ⟨gp,1,none⟩),.int .i64 1,.int .i64 1048576,.pointer (some ⟨gp,4,none⟩),.int .i64 1,.int .i64 1048576,.pointer (some ⟨gp,5,none⟩),.int .i64 1,.int .i64 32,.pointer (some ⟨gp,6,none⟩),.int .i64 1,.int .i64 1000,.pointer (some ⟨gp,7,none⟩),.int .i64 1,.int .i64 64,.pointer (some ⟨gp,8,none⟩),.int .i64 0,.int .i64 1000,.pointer (some ⟨gp,9,none⟩),.int .i64 1,.int .i64 1000] 95 (0,0))):=Aside0.mk (H.blk_fill hw Kgf.out (by kernel_rfl))
 have nB : Aside0 (Below w.heap.size w W7):=Aside0.mk (H.below_fill hw Lgf.out HB.out)
 clear kgr fgr kgf fgf kp
 clear Kgr;have Kgr:=ngr;clear ngr
 clear Kgf;have Kgf:=ngf;clear ngf
 clear HB;have HB:=nB;clear nB
 clear hw
 have kgr:=blk_cell Kgr.out;have fgr:=blk_frozen Kgr.out
 have kgf:=blk_cell Kgf.out;have fgf:=blk_frozen Kgf.out
 have kp:=pw_cell_below HB.out HK.out
 refine hK.out _ _ trivial (fun hHeld => ?_)
 clear hK K
 refine done_ (done_of HT_.out (by kernel_rfl)) ?_
 go_wp2_with (first | ((with_reducible refine gate_dst (N:=61) rfl ?_);replace HB : Aside0 (Below w.heap.size w W7):=HB;refine H.get_event (t:=95) (x:=4) (N:=61) (i:=0) rfl rfl rfl [.pointer (some ⟨gp,0,none⟩),.int .i64 1,.int .i64 2,.pointer (some ⟨gp,1,none⟩),.int .i64 1,.int .i64 1048576,.pointer (some ⟨gp,4,none⟩),.int .i64 1,.int .i64 1048576,.pointer (some ⟨gp,5,none⟩),.int .i64 1,.int .i64 32,.pointer (some ⟨gp,6,none⟩),.int .i64 1,.int .i64 1000,.pointer (some ⟨gp,7,none⟩),.int .i64 1,.int .i64 64,.pointer (some ⟨gp,8,none⟩),.int .i64 0,.int .i64 1000,.pointer (some ⟨gp,9,none⟩),.int .i64 1,.int .i64 1000] Kgf.out rfl (by kernel_rfl) Try.underlying95 rfl (by kernel_rfl) ?_) | ((with_reducible refine gate_store (t:=95) (p:=2) rfl ?_);replace HB : Aside0 (Below w.heap.size w W7):=HB;refine H.put_event (t:=95) (p:=2) (i:=0) rfl rfl rfl [.pointer (some ⟨gp,0,none⟩),.int .i64 1,.int .i64 2,.pointer (some ⟨gp,1,none⟩),.int .i64 1,.int .i64 1048576,.pointer (some ⟨gp,4,none⟩),.int .i64 1,.int .i64 1048576,.pointer (some ⟨gp,5,none⟩),.int .i64 1,.int .i64 32,.pointer (some ⟨gp,6,none⟩),.int .i64 1,.int .i64 1000,.pointer (some ⟨gp,7,none⟩),.int .i64 1,.int .i64 64,.pointer (some ⟨gp,8,none⟩),.int .i64 0,.int .i64 1000,.pointer (some ⟨gp,9,none⟩),.int .i64 1,.int .i64 1000] Kgr.out rfl rfl (by kernel_rfl) (by kernel_rfl) (by kernel_rfl) ?_;intro W8 hw;replace Kgr : Aside0 (W8.heap[gr]? = some (.cells #[.pointer (some ⟨gp,0,none⟩),.int .i64 1,.int .i64 2,.pointer (some ⟨gp,1,none⟩),.int .i64 1,.int .i64 1048576,.pointer (some ⟨gp,4,none⟩),.int .i64 1,.int .i64 1048576,.pointer (some ⟨gp,5,none⟩),.int .i64 1,.int .i64 32,.pointer (some ⟨gp,6,none⟩),.int .i64 1,.int .i64 1000,.pointer (some ⟨gp,7,none⟩),.int .i64 1,.int .i64 64,.pointer (some ⟨gp,8,none⟩),.int .i64 0,.int .i64 1000,.pointer (some ⟨gp,9,none⟩),.int .i64 1,.int .i64 1000] 95 (0,0))):=Aside0.mk (H.blk_fill hw Kgr.out (by kernel_rfl));replace Kgf:=Aside0.mk (H.far_fill hw Ngf_gr.out Kgf.out);replace HB : Aside0 (Below w.heap.size w W8):=Aside0.mk (H.below_fill hw Lgr.out HB.out);clear kgr fgr kgf fgf kp;clear hw;have kgr:=blk_cell Kgr.out;have fgr:=blk_frozen Kgr.out;have kgf:=blk_cell Kgf.out;have fgf:=blk_frozen Kgf.out;have kp:=pw_cell_below HB.out HK.out))
 refine bodyPost_ret (results_ct rfl _ _ gr 95 #[.pointer (some ⟨gp,0,none⟩),.int .i64 1,.int .i64 2,.pointer (some ⟨gp,1,none⟩),.int .i64 1,.int .i64 1048576,.pointer (some ⟨gp,4,none⟩),.int .i64 1,.int .i64 1048576,.pointer (some ⟨gp,5,none⟩),.int .i64 1,.int .i64 32,.pointer (some ⟨gp,6,none⟩),.int .i64 1,.int .i64 1000,.pointer (some ⟨gp,7,none⟩),.int .i64 1,.int .i64 64,.pointer (some ⟨gp,8,none⟩),.int .i64 0,.int .i64 1000,.pointer (some ⟨gp,9,none⟩),.int .i64 1,.int .i64 1000] (0,0) _ rfl Kgr.out Try.underlying95 rfl (by kernel_rfl)) rfl ?_
 exact ⟨rfl,HB.out⟩
set_option maxHeartbeats 1000000 in
set_option maxRecDepth 100000 in
theorem fields_0 (gp : Nat) (k : Int) (w : World) (hk : w.cell? ⟨gp,0,none⟩ = some (.int .i64 k)) (h1 : k ≠ 1) (h2 : k ≠ 2) :
  Calls Try.prog 74 #[.pointer (some ⟨gp,0,none⟩)] w fun e w' => e = .returned (.tuple #[.agg #[.pointer (some ⟨gp,0,none⟩),.int .i64 1,.int .i64 2,.pointer (some ⟨gp,1,none⟩),.int .i64 1,.int .i64 1048576,.pointer none,.int .i64 0,.int .i64 0,.pointer none,.int .i64 0,.int .i64 0,.pointer (some ⟨gp,6,none⟩),.int .i64 1,.int .i64 1000,.pointer (some ⟨gp,7,none⟩),.int .i64 1,.int .i64 64,.pointer (some ⟨gp,8,none⟩),.int .i64 0,.int .i64 1000,.pointer (some ⟨gp,9,none⟩),.int .i64 1,.int .i64 1000],.bool false]) ∧ Below w.heap.size w w':=by
 have HK:=Aside0.mk hk
 have HB:=Aside0.mk (Below.refl w.heap.size w)
 clear hk
 have c1 : (k == 1) = false:=by simpa using h1
 have c2 : (k == 2) = false:=by simpa using h2
 clear h1 h2
 go_enter Try.func74,Try.ntmps74
 go_wp2_with (first | ((with_reducible refine gate_dst (N:=2) rfl ?_);replace HB : Aside0 (Below w.heap.size w w):=HB;refine box_event ?hg (N:=2) ?hd (cs:=#[.pointer none,.int .i64 0,.int .i64 0,.pointer none,.int .i64 0,.int .i64 0,.pointer none,.int .i64 0,.int .i64 0,.pointer none,.int .i64 0,.int .i64 0,.pointer none,.int .i64 0,.int .i64 0,.pointer none,.int .i64 0,.int .i64 0,.pointer none,.int .i64 0,.int .i64 0,.pointer none,.int .i64 0,.int .i64 0]) (t:=95) ?hr ?_;(case hd => rfl);(case hg => rfl);(case hr => first | (go_simp;done) | (go_simp;rfl));intro gr hg W1 hbox hb;have Lgr : Aside0 (w.heap.size ≤ gr):=Aside0.mk (by rw [hg];exact below_size HB.out);replace HB : Aside0 (Below w.heap.size w W1):=Aside0.mk (below_step HB.out hb);have Kgr : Aside0 (W1.heap[gr]? = some (.cells #[.pointer none,.int .i64 0,.int .i64 0,.pointer none,.int .i64 0,.int .i64 0,.pointer none,.int .i64 0,.int .i64 0,.pointer none,.int .i64 0,.int .i64 0,.pointer none,.int .i64 0,.int .i64 0,.pointer none,.int .i64 0,.int .i64 0,.pointer none,.int .i64 0,.int .i64 0,.pointer none,.int .i64 0,.int .i64 0] 95 (0,0))):=Aside0.mk hbox;clear hb hbox hg;have kgr:=blk_cell Kgr.out;have fgr:=blk_frozen Kgr.out;have kp:=pw_cell_below HB.out HK.out))
 replace Kgr:=Aside0.mk (blk_drew Kgr.out); 
 replace HB:=Aside0.mk (below_drew1 HB.out); 
 clear kgr fgr kp
 refine start_ (n:=29) (S:=fun w' => True) (ds:=[]) #[false,false,false,false,false,false,false,false,false,false,false,false,false,false,false,false,false,false,false,false,false,false,false,false,false,false,false,false,false] (by kernel_rfl) rfl rfl trivial (fun hHeld => ?_)
 refine with_tabW t74_1.tab t74_1.bits (fun HT_ HW_ => ?_)
 generalize W1.drew = W2 at Kgr HB ⊢
 refine pure_ (i:=0) (N:=some 5) (v:=?_) (a':=?_) #[true,false,false,false,false,false,false,false,false,false,false,false,false,false,false,false,false,false,false,false,false,false,false,false,false,false,false,false,false] rfl rfl (any_of HT_.out (by kernel_rfl)) (fun _ _ _ h => h) (Or.inl ⟨by rfl,?_⟩) ?_ ?_
 rotate_left
 ·intro w'
  go_simp
  with_reducible rfl
 rotate_left
 ·simp only [Act.put,zA,zB,zC,i64_w,i32_w]
  rfl
 refine pure_ (i:=1) (N:=some 6) (v:=?_) (a':=?_) #[true,true,false,false,false,false,false,false,false,false,false,false,false,false,false,false,false,false,false,false,false,false,false,false,false,false,false,false,false] rfl rfl (any_of HT_.out (by kernel_rfl)) (fun _ _ _ h => h) (Or.inl ⟨by rfl,?_⟩) ?_ ?_
 rotate_left
 ·intro w'
  go_simp
  with_reducible rfl
 rotate_left
 ·simp only [Act.put,zA,zB,zC,i64_w,i32_w]
  rfl
 refine pure_ (i:=2) (N:=some 7) (v:=?_) (a':=?_) #[true,true,true,false,false,false,false,false,false,false,false,false,false,false,false,false,false,false,false,false,false,false,false,false,false,false,false,false,false] rfl rfl (any_of HT_.out (by kernel_rfl)) (fun _ _ _ h => h) (Or.inl ⟨by rfl,?_⟩) ?_ ?_
 rotate_left
 ·intro w'
  go_simp
  with_reducible rfl
 rotate_left
 ·simp only [Act.put,zA,zB,zC,i64_w,i32_w]
  rfl
 refine pure_ (i:=3) (N:=some 8) (v:=?_) (a':=?_) #[true,true,true,true,false,false,false,false,false,false,false,false,false,false,false,false,false,false,false,false,false,false,false,false,false,false,false,false,false] rfl rfl (any_of HT_.out (by kernel_rfl)) (fun _ _ _ h => h) (Or.inl ⟨by rfl,?_⟩) ?_ ?_
 rotate_left
 ·intro w'
  go_simp
  with_reducible rfl
 rotate_left
 ·simp only [Act.put,zA,zB,zC,i64_w,i32_w]
  rfl
 refine pure_ (i:=4) (N:=some 9) (v:=?_) (a':=?_) #[true,true,true,true,true,false,false,false,false,false,false,false,false,false,false,false,false,false,false,false,false,false,false,false,false,false,false,false,false] rfl rfl (any_of HT_.out (by kernel_rfl)) (fun _ _ _ h => h) (Or.inl ⟨by rfl,?_⟩) ?_ ?_
 rotate_left
 ·intro w'
  go_simp
  with_reducible rfl
 rotate_left
 ·simp only [Act.put,zA,zB,zC,i64_w,i32_w]
  rfl
 refine pure_ (i:=5) (N:=some 10) (v:=?_) (a':=?_) #[true,true,true,true,true,true,false,false,false,false,false,false,false,false,false,false,false,false,false,false,false,false,false,false,false,false,false,false,false] rfl rfl (any_of HT_.out (by kernel_rfl)) (fun _ _ _ h => h) (Or.inl ⟨by rfl,?_⟩) ?_ ?_
 rotate_left
 ·intro w'
  go_simp
  with_reducible rfl
 rotate_left
 ·simp only [Act.put,zA,zB,zC,i64_w,i32_w]
  rfl
 refine pure_ (i:=6) (N:=some 11) (v:=?_) (a':=?_) #[true,true,true,true,true,true,true,false,false,false,false,false,false,false,false,false,false,false,false,false,false,false,false,false,false,false,false,false,false] rfl rfl (any_of HT_.out (by kernel_rfl)) (fun _ _ _ h => h) (Or.inl ⟨by rfl,?_⟩) ?_ ?_
 rotate_left
 ·intro w'
  go_simp
  with_reducible rfl
 rotate_left
 ·simp only [Act.put,zA,zB,zC,i64_w,i32_w]
  rfl
 refine pure_ (i:=7) (N:=some 12) (v:=?_) (a':=?_) #[true,true,true,true,true,true,true,true,false,false,false,false,false,false,false,false,false,false,false,false,false,false,false,false,false,false,false,false,false] rfl rfl (any_of HT_.out (by kernel_rfl)) (fun _ _ _ h => h) (Or.inl ⟨by rfl,?_⟩) ?_ ?_
 rotate_left
 ·intro w'
  go_simp
  with_reducible rfl
 rotate_left
 ·simp only [Act.put,zA,zB,zC,i64_w,i32_w]
  rfl
 refine pure_ (i:=8) (N:=some 13) (v:=?_) (a':=?_) #[true,true,true,true,true,true,true,true,true,false,false,false,false,false,false,false,false,false,false,false,false,false,false,false,false,false,false,false,false] rfl rfl (any_of HT_.out (by kernel_rfl)) (fun _ _ _ h => h) (Or.inl ⟨by rfl,?_⟩) ?_ ?_
 rotate_left
 ·intro w'
  go_simp
  with_reducible rfl
 rotate_left
 ·simp only [Act.put,zA,zB,zC,i64_w,i32_w]
  rfl
 refine pure_ (i:=9) (N:=some 14) (v:=?_) (a':=?_) #[true,true,true,true,true,true,true,true,true,true,false,false,false,false,false,false,false,false,false,false,false,false,false,false,false,false,false,false,false] rfl rfl (any_of HT_.out (by kernel_rfl)) (fun _ _ _ h => h) (Or.inl ⟨by rfl,?_⟩) ?_ ?_
 rotate_left
 ·intro w'
  go_simp
  with_reducible rfl
 rotate_left
 ·simp only [Act.put,zA,zB,zC,i64_w,i32_w]
  rfl
 refine pure_ (i:=10) (N:=some 15) (v:=?_) (a':=?_) #[true,true,true,true,true,true,true,true,true,true,true,false,false,false,false,false,false,false,false,false,false,false,false,false,false,false,false,false,false] rfl rfl (any_of HT_.out (by kernel_rfl)) (fun _ _ _ h => h) (Or.inl ⟨by rfl,?_⟩) ?_ ?_
 rotate_left
 ·intro w'
  go_simp
  with_reducible rfl
 rotate_left
 ·simp only [Act.put,zA,zB,zC,i64_w,i32_w]
  rfl
 refine pure_ (i:=11) (N:=some 16) (v:=?_) (a':=?_) #[true,true,true,true,true,true,true,true,true,true,true,true,false,false,false,false,false,false,false,false,false,false,false,false,false,false,false,false,false] rfl rfl (any_of HT_.out (by kernel_rfl)) (fun _ _ _ h => h) (Or.inl ⟨by rfl,?_⟩) ?_ ?_
 rotate_left
 ·intro w'
  go_simp
  with_reducible rfl
 rotate_left
 ·simp only [Act.put,zA,zB,zC,i64_w,i32_w]
  rfl
 refine pure_ (i:=12) (N:=some 17) (v:=?_) (a':=?_) #[true,true,true,true,true,true,true,true,true,true,true,true,true,false,false,false,false,false,false,false,false,false,false,false,false,false,false,false,false] rfl rfl (any_of HT_.out (by kernel_rfl)) (fun _ _ _ h => h) (Or.inl ⟨by rfl,?_⟩) ?_ ?_
 rotate_left
 ·intro w'
  go_simp
  with_reducible rfl
 rotate_left
 ·simp only [Act.put,zA,zB,zC,i64_w,i32_w]
  rfl
 refine pure_ (i:=13) (N:=some 18) (v:=?_) (a':=?_) #[true,true,true,true,true,true,true,true,true,true,true,true,true,true,false,false,false,false,false,false,false,false,false,false,false,false,false,false,false] rfl rfl (any_of HT_.out (by kernel_rfl)) (fun _ _ _ h => h) (Or.inl ⟨by rfl,?_⟩) ?_ ?_
 rotate_left
 ·intro w'
  go_simp
  with_reducible rfl
 rotate_left
 ·simp only [Act.put,zA,zB,zC,i64_w,i32_w]
  rfl
 refine pure_ (i:=14) (N:=some 19) (v:=?_) (a':=?_) #[true,true,true,true,true,true,true,true,true,true,true,true,true,true,true,false,false,false,false,false,false,false,false,false,false,false,false,false,false] rfl rfl (any_of HT_.out (by kernel_rfl)) (fun _ _ _ h => h) (Or.inl ⟨by rfl,?_⟩) ?_ ?_
 rotate_left
 ·intro w'
  go_simp
  with_reducible rfl
 rotate_left
 ·simp only [Act.put,zA,zB,zC,i64_w,i32_w]
  rfl
 refine pure_ (i:=15) (N:=some 20) (v:=?_) (a':=?_) #[true,true,true,true,true,true,true,true,true,true,true,true,true,true,true,true,false,false,false,false,false,false,false,false,false,false,false,false,false] rfl rfl (any_of HT_.out (by kernel_rfl)) (fun _ _ _ h => h) (Or.inl ⟨by rfl,?_⟩) ?_ ?_
 rotate_left
 ·intro w'
  go_simp
  with_reducible rfl
 rotate_left
 ·simp only [Act.put,zA,zB,zC,i64_w,i32_w]
  rfl
 refine pure_ (i:=16) (N:=some 21) (v:=?_) (a':=?_) #[true,true,true,true,true,true,true,true,true,true,true,true,true,true,true,true,true,false,false,false,false,false,false,false,false,false,false,false,false] rfl rfl (any_of HT_.out (by kernel_rfl)) (fun _ _ _ h => h) (Or.inl ⟨by rfl,?_⟩) ?_ ?_
 rotate_left
 ·intro w'
  go_simp
  with_reducible rfl
 rotate_left
 ·simp only [Act.put,zA,zB,zC,i64_w,i32_w]
  rfl
 refine pure_ (i:=17) (N:=some 22) (v:=?_) (a':=?_) #[true,true,true,true,true,true,true,true,true,true,true,true,true,true,true,true,true,true,false,false,false,false,false,false,false,false,false,false,false] rfl rfl (any_of HT_.out (by kernel_rfl)) (fun _ _ _ h => h) (Or.inl ⟨by rfl,?_⟩) ?_ ?_
 rotate_left
 ·intro w'
  go_simp
  with_reducible rfl
 rotate_left
 ·simp only [Act.put,zA,zB,zC,i64_w,i32_w]
  rfl
 refine pure_ (i:=18) (N:=some 23) (v:=?_) (a':=?_) #[true,true,true,true,true,true,true,true,true,true,true,true,true,true,true,true,true,true,true,false,false,false,false,false,false,false,false,false,false] rfl rfl (any_of HT_.out (by kernel_rfl)) (fun _ _ _ h => h) (Or.inl ⟨by rfl,?_⟩) ?_ ?_
 rotate_left
 ·intro w'
  go_simp
  with_reducible rfl
 rotate_left
 ·simp only [Act.put,zA,zB,zC,i64_w,i32_w]
  rfl
 refine pure_ (i:=19) (N:=some 24) (v:=?_) (a':=?_) #[true,true,true,true,true,true,true,true,true,true,true,true,true,true,true,true,true,true,true,true,false,false,false,false,false,false,false,false,false] rfl rfl (any_of HT_.out (by kernel_rfl)) (fun _ _ _ h => h) (Or.inl ⟨by rfl,?_⟩) ?_ ?_
 rotate_left
 ·intro w'
  go_simp
  with_reducible rfl
 rotate_left
 ·simp only [Act.put,zA,zB,zC,i64_w,i32_w]
  rfl
 refine pure_ (i:=20) (N:=some 25) (v:=?_) (a':=?_) #[true,true,true,true,true,true,true,true,true,true,true,true,true,true,true,true,true,true,true,true,true,false,false,false,false,false,false,false,false] rfl rfl (any_of HT_.out (by kernel_rfl)) (fun _ _ _ h => h) (Or.inl ⟨by rfl,?_⟩) ?_ ?_
 rotate_left
 ·intro w'
  go_simp
  with_reducible rfl
 rotate_left
 ·simp only [Act.put,zA,zB,zC,i64_w,i32_w]
  rfl
 refine pure_ (i:=21) (N:=some 26) (v:=?_) (a':=?_) #[true,true,true,true,true,true,true,true,true,true,true,true,true,true,true,true,true,true,true,true,true,true,false,false,false,false,false,false,false] rfl rfl (any_of HT_.out (by kernel_rfl)) (fun _ _ _ h => h) (Or.inl ⟨by rfl,?_⟩) ?_ ?_
 rotate_left
 ·intro w'
  go_simp
  with_reducible rfl
 rotate_left
 ·simp only [Act.put,zA,zB,zC,i64_w,i32_w]
  rfl
 refine pure_ (i:=22) (N:=some 27) (v:=?_) (a':=?_) #[true,true,true,true,true,true,true,true,true,true,true,true,true,true,true,true,true,true,true,true,true,true,true,false,false,false,false,false,false] rfl rfl (any_of HT_.out (by kernel_rfl)) (fun _ _ _ h => h) (Or.inl ⟨by rfl,?_⟩) ?_ ?_
 rotate_left
 ·intro w'
  go_simp
  with_reducible rfl
 rotate_left
 ·simp only [Act.put,zA,zB,zC,i64_w,i32_w]
  rfl
 refine pure_ (i:=23) (N:=some 28) (v:=?_) (a':=?_) #[true,true,true,true,true,true,true,true,true,true,true,true,true,true,true,true,true,true,true,true,true,true,true,true,false,false,false,false,false] rfl rfl (any_of HT_.out (by kernel_rfl)) (fun _ _ _ h => h) (Or.inl ⟨by rfl,?_⟩) ?_ ?_
 rotate_left
 ·intro w'
  go_simp
  with_reducible rfl
 rotate_left
 ·simp only [Act.put,zA,zB,zC,i64_w,i32_w]
  rfl
 refine pure_ (i:=24) (N:=some 29) (v:=?_) (a':=?_) #[true,true,true,true,true,true,true,true,true,true,true,true,true,true,true,true,true,true,true,true,true,true,true,true,true,false,false,false,false] rfl rfl (any_of HT_.out (by kernel_rfl)) (fun _ _ _ h => h) (Or.inl ⟨by rfl,?_⟩) ?_ ?_
 rotate_left
 ·intro w'
  go_simp
  with_reducible rfl
 rotate_left
 ·simp only [Act.put,zA,zB,zC,i64_w,i32_w]
  rfl
 refine pure_ (i:=25) (N:=some 30) (v:=?_) (a':=?_) #[true,true,true,true,true,true,true,true,true,true,true,true,true,true,true,true,true,true,true,true,true,true,true,true,true,true,false,false,false] rfl rfl (any_of HT_.out (by kernel_rfl)) (fun _ _ _ h => h) (Or.inl ⟨by rfl,?_⟩) ?_ ?_
 rotate_left
 ·intro w'
  go_simp
  with_reducible rfl
 rotate_left
 ·simp only [Act.put,zA,zB,zC,i64_w,i32_w]
  rfl
 refine pure_ (i:=26) (N:=some 31) (v:=?_) (a':=?_) #[true,true,true,true,true,true,true,true,true,true,true,true,true,true,true,true,true,true,true,true,true,true,true,true,true,true,true,false,false] rfl rfl (any_of HT_.out (by kernel_rfl)) (fun _ _ _ h => h) (Or.inl ⟨by rfl,?_⟩) ?_ ?_
 rotate_left
 ·intro w'
  go_simp
  with_reducible rfl
 rotate_left
 ·simp only [Act.put,zA,zB,zC,i64_w,i32_w]
  rfl
 refine one_ (i:=27) (N:=some 4) #[true,true,true,true,true,true,true,true,true,true,true,true,true,true,true,true,true,true,true,true,true,true,true,true,true,true,true,true,false] rfl rfl (one_of HT_.out (by kernel_rfl)) (by decide) (fun K hK => ?_)
 refine H.box_step (by rfl) rfl (cs:=#[.pointer none,.int .i64 0,.int .i64 0,.pointer none,.int .i64 0,.int .i64 0,.pointer none,.int .i64 0,.int .i64 0,.pointer none,.int .i64 0,.int .i64 0,.pointer none,.int .i64 0,.int .i64 0,.pointer none,.int .i64 0,.int .i64 0,.pointer none,.int .i64 0,.int .i64 0,.pointer none,.int .i64 0,.int .i64 0]) (t:=95) ?_ ?_
 ·first | (go_simp;done) | (go_simp;rfl)
 intro gf hg W3 hbox hb
 have Lgf : Aside0 (w.heap.size ≤ gf):=Aside0.mk (by rw [hg];exact below_size HB.out)
 have Ngr_gf : Aside0 (gr ≠ gf):=Aside0.mk (by rw [hg];exact Nat.ne_of_lt (blk_lt Kgr.out));have Ngf_gr : Aside0 (gf ≠ gr):=Aside0.mk (fun e => Ngr_gf.out e.symm)
 have ngr:=Aside0.mk (blk_below Kgr.out hb)
 have nB : Aside0 (Below w.heap.size w W3):=Aside0.mk (below_step HB.out hb)
 clear Kgr;have Kgr:=ngr;clear ngr
 clear HB;have HB:=nB;clear nB
 have Kgf : Aside0 (W3.heap[gf]? = some (.cells #[.pointer none,.int .i64 0,.int .i64 0,.pointer none,.int .i64 0,.int .i64 0,.pointer none,.int .i64 0,.int .i64 0,.pointer none,.int .i64 0,.int .i64 0,.pointer none,.int .i64 0,.int .i64 0,.pointer none,.int .i64 0,.int .i64 0,.pointer none,.int .i64 0,.int .i64 0,.pointer none,.int .i64 0,.int .i64 0] 95 (0,0))):=Aside0.mk hbox
 clear hb hbox hg
 have kgr:=blk_cell Kgr.out;have fgr:=blk_frozen Kgr.out
 have kgf:=blk_cell Kgf.out;have fgf:=blk_frozen Kgf.out
 have kp:=pw_cell_below HB.out HK.out
 refine hK.out _ _ trivial (fun hHeld => ?_)
 clear hK K
 refine norm_ (a':=?_) ?_ ?_
 rotate_left
 ·show Act.put _ (some 4) _ = _
  simp only [Act.put,zA,zB,zC,i64_w,i32_w]
  rfl
 refine one_ (i:=28) (N:=none) #[true,true,true,true,true,true,true,true,true,true,true,true,true,true,true,true,true,true,true,true,true,true,true,true,true,true,true,true,true] rfl rfl (one_of HT_.out (by kernel_rfl)) (by decide) (fun K hK => ?_)
 refine H.put_step (by rfl) rfl rfl (i:=0) [.pointer (some ⟨gp,0,none⟩),.int .i64 1,.int .i64 2,.pointer (some ⟨gp,1,none⟩),.int .i64 1,.int .i64 1048576,.pointer none,.int .i64 0,.int .i64 0,.pointer none,.int .i64 0,.int .i64 0,.pointer (some ⟨gp,6,none⟩),.int .i64 1,.int .i64 1000,.pointer (some ⟨gp,7,none⟩),.int .i64 1,.int .i64 64,.pointer (some ⟨gp,8,none⟩),.int .i64 0,.int .i64 1000,.pointer (some ⟨gp,9,none⟩),.int .i64 1,.int .i64 1000] Kgf.out rfl rfl (by kernel_rfl) (by kernel_rfl) (by kernel_rfl) ?_
 intro W4 hw
 have ngr:=Aside0.mk (H.far_fill hw Ngr_gf.out Kgr.out)
 have ngf : Aside0 (W4.heap[gf]? = some (.cells #[.pointer (some ⟨gp,0,none⟩),.int .i64 1,.int .i64 2,.pointer (some ⟨gp,1,none⟩),.int .i64 1,.int .i64 1048576,.pointer none,.int .i64 0,.int .i64 0,.pointer none,.int .i64 0,.int .i64 0,.pointer (some ⟨gp,6,none⟩),.int .i64 1,.int .i64 1000,.pointer (some ⟨gp,7,none⟩),.int .i64 1,.int .i64 64,.pointer (some ⟨gp,8,none⟩),.int .i64 0,.int .i64 1000,.pointer (some ⟨gp,9,none⟩),.int .i64 1,.int .i64 1000] 95 (0,0))):=Aside0.mk (H.blk_fill hw Kgf.out (by kernel_rfl))
 have nB : Aside0 (Below w.heap.size w W4):=Aside0.mk (H.below_fill hw Lgf.out HB.out)
 clear kgr fgr kgf fgf kp
 clear Kgr;have Kgr:=ngr;clear ngr
 clear Kgf;have Kgf:=ngf;clear ngf
 clear HB;have HB:=nB;clear nB
 clear hw
 have kgr:=blk_cell Kgr.out;have fgr:=blk_frozen Kgr.out
 have kgf:=blk_cell Kgf.out;have fgf:=blk_frozen Kgf.out
 have kp:=pw_cell_below HB.out HK.out
 refine hK.out _ _ trivial (fun hHeld => ?_)
 clear hK K
 refine done_ (done_of HT_.out (by kernel_rfl)) ?_
 go_wp2_with (first | ((with_reducible refine gate_dst (N:=36) rfl ?_);replace HB : Aside0 (Below w.heap.size w W4):=HB;refine H.get_event (t:=95) (x:=4) (N:=36) (i:=0) rfl rfl rfl [.pointer (some ⟨gp,0,none⟩),.int .i64 1,.int .i64 2,.pointer (some ⟨gp,1,none⟩),.int .i64 1,.int .i64 1048576,.pointer none,.int .i64 0,.int .i64 0,.pointer none,.int .i64 0,.int .i64 0,.pointer (some ⟨gp,6,none⟩),.int .i64 1,.int .i64 1000,.pointer (some ⟨gp,7,none⟩),.int .i64 1,.int .i64 64,.pointer (some ⟨gp,8,none⟩),.int .i64 0,.int .i64 1000,.pointer (some ⟨gp,9,none⟩),.int .i64 1,.int .i64 1000] Kgf.out rfl (by kernel_rfl) Try.underlying95 rfl (by kernel_rfl) ?_) | ((with_reducible refine gate_store (t:=95) (p:=2) rfl ?_);replace HB : Aside0 (Below w.heap.size w W4):=HB;refine H.put_event (t:=95) (p:=2) (i:=0) rfl rfl rfl [.pointer (some ⟨gp,0,none⟩),.int .i64 1,.int .i64 2,.pointer (some ⟨gp,1,none⟩),.int .i64 1,.int .i64 1048576,.pointer none,.int .i64 0,.int .i64 0,.pointer none,.int .i64 0,.int .i64 0,.pointer (some ⟨gp,6,none⟩),.int .i64 1,.int .i64 1000,.pointer (some ⟨gp,7,none⟩),.int .i64 1,.int .i64 64,.pointer (some ⟨gp,8,none⟩),.int .i64 0,.int .i64 1000,.pointer (some ⟨gp,9,none⟩),.int .i64 1,.int .i64 1000] Kgr.out rfl rfl (by kernel_rfl) (by kernel_rfl) (by kernel_rfl) ?_;intro W5 hw;replace Kgr : Aside0 (W5.heap[gr]? = some (.cells #[.pointer (some ⟨gp,0,none⟩),.int .i64 1,.int .i64 2,.pointer (some ⟨gp,1,none⟩),.int .i64 1,.int .i64 1048576,.pointer none,.int .i64 0,.int .i64 0,.pointer none,.int .i64 0,.int .i64 0,.pointer (some ⟨gp,6,none⟩),.int .i64 1,.int .i64 1000,.pointer (some ⟨gp,7,none⟩),.int .i64 1,.int .i64 64,.pointer (some ⟨gp,8,none⟩),.int .i64 0,.int .i64 1000,.pointer (some ⟨gp,9,none⟩),.int .i64 1,.int .i64 1000] 95 (0,0))):=Aside0.mk (H.blk_fill hw Kgr.out (by kernel_rfl));replace Kgf:=Aside0.mk (H.far_fill hw Ngf_gr.out Kgf.out);replace HB : Aside0 (Below w.heap.size w W5):=Aside0.mk (H.below_fill hw Lgr.out HB.out);clear kgr fgr kgf fgf kp;clear hw;have kgr:=blk_cell Kgr.out;have fgr:=blk_frozen Kgr.out;have kgf:=blk_cell Kgf.out;have fgf:=blk_frozen Kgf.out;have kp:=pw_cell_below HB.out HK.out))
 refine bodyPost_ret (results_ct rfl _ _ gr 95 #[.pointer (some ⟨gp,0,none⟩),.int .i64 1,.int .i64 2,.pointer (some ⟨gp,1,none⟩),.int .i64 1,.int .i64 1048576,.pointer none,.int .i64 0,.int .i64 0,.pointer none,.int .i64 0,.int .i64 0,.pointer (some ⟨gp,6,none⟩),.int .i64 1,.int .i64 1000,.pointer (some ⟨gp,7,none⟩),.int .i64 1,.int .i64 64,.pointer (some ⟨gp,8,none⟩),.int .i64 0,.int .i64 1000,.pointer (some ⟨gp,9,none⟩),.int .i64 1,.int .i64 1000] (0,0) _ rfl Kgr.out Try.underlying95 rfl (by kernel_rfl)) rfl ?_
 exact ⟨rfl,HB.out⟩
end Go.Proofs.Ytbiijcehgiibeaa.H

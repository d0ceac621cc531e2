/- Proved here: policy.Right answers 0 where a policy may be (Pol.ok), else 40. (Pieces by wip/hrt.py, this session's own.) Laid tighter for a claim's bound by wip/shake.py (SQ=1). -/
import Derived.Test.YtbiijcehgiibeaaKPReadsJSix
import Derived.Test.YtbiijcehgiibeaaKPReadsHfl
import Derived.Deep.LoopGhost
namespace Go.Proofs.Ytbiijcehgiibeaa.H
open Go.RowKit Go.Proofs.YtbiijcehgiibeaaW.PrintWords Go.Proofs.YtbiijcehgiibeaaW.PrintLast Go.Proofs.YtbiijcehgiibeaaW.PrintMore
set_option linter.unusedVariables false
set_option linter.unusedSimpArgs false
def t64_7.T : Bool × List (List Nat × List Nat):=(true,[([],[]),([0],[0]),([1],[1]),([2],[2]),([],[]),([4],[4]),([3,5],[3,5]),([6],[6]),([7],[7]),([8,7],[7,8]),([9,7],[7,9]),([10,7],[7,10]),([7],[7]),([12,7],[7,12]),([11,13,7],[7,11,13]),([7,14],[7,14])])
def t64_7.B : List Nat:=[0,1,3,7,0,16,63,127,255,511,1023,2047,255,4351,16383,32767]
theorem t64_7.tab : rtab .any (opsOf Try.f64 7) = t64_7.T:=by kernel_rfl
theorem t64_7.bits : waitsOk t64_7.T.2 t64_7.B = true:=by kernel_rfl
theorem fl_at1 (gp : Nat) : ∀ j : Nat,j < 8 → ∃ (ofs : Nat) (lo hi : Int),Pol.flds1[j]? = some (ofs,lo,hi) ∧ ofs < 10 ∧ (#[.pointer (some ⟨gp,0,none⟩),.int .i64 1,.int .i64 2,.pointer (some ⟨gp,1,none⟩),.int .i64 1,.int .i64 1048576,.pointer (some ⟨gp,2,none⟩),.int .i64 1,.int .i64 65536,.pointer (some ⟨gp,3,none⟩),.int .i64 1,.int .i64 65536,.pointer (some ⟨gp,6,none⟩),.int .i64 1,.int .i64 1000,.pointer (some ⟨gp,7,none⟩),.int .i64 1,.int .i64 64,.pointer (some ⟨gp,8,none⟩),.int .i64 0,.int .i64 1000,.pointer (some ⟨gp,9,none⟩),.int .i64 1,.int .i64 1000] : Array Value).extract (j * 3) (j * 3 + 3) = #[.pointer (some ⟨gp,ofs,none⟩),.int .i64 lo,.int .i64 hi]:=by
 intro j hj
 obtain rfl | rfl | rfl | rfl | rfl | rfl | rfl | rfl : j = 0 ∨ j = 1 ∨ j = 2 ∨ j = 3 ∨ j = 4 ∨ j = 5 ∨ j = 6 ∨ j = 7:=by omega
 all_goals exact ⟨_,_,_,rfl,by decide,rfl⟩
theorem fl_at2 (gp : Nat) : ∀ j : Nat,j < 8 → ∃ (ofs : Nat) (lo hi : Int),Pol.flds2[j]? = some (ofs,lo,hi) ∧ ofs < 10 ∧ (#[.pointer (some ⟨gp,0,none⟩),.int .i64 1,.int .i64 2,.pointer (some ⟨gp,1,none⟩),.int .i64 1,.int .i64 1048576,.pointer (some ⟨gp,4,none⟩),.int .i64 1,.int .i64 1048576,.pointer (some ⟨gp,5,none⟩),.int .i64 1,.int .i64 32,.pointer (some ⟨gp,6,none⟩),.int .i64 1,.int .i64 1000,.pointer (some ⟨gp,7,none⟩),.int .i64 1,.int .i64 64,.pointer (some ⟨gp,8,none⟩),.int .i64 0,.int .i64 1000,.pointer (some ⟨gp,9,none⟩),.int .i64 1,.int .i64 1000] : Array Value).extract (j * 3) (j * 3 + 3) = #[.pointer (some ⟨gp,ofs,none⟩),.int .i64 lo,.int .i64 hi]:=by
 intro j hj
 obtain rfl | rfl | rfl | rfl | rfl | rfl | rfl | rfl : j = 0 ∨ j = 1 ∨ j = 2 ∨ j = 3 ∨ j = 4 ∨ j = 5 ∨ j = 6 ∨ j = 7:=by omega
 all_goals exact ⟨_,_,_,rfl,by decide,rfl⟩
theorem cell_at (p : Pol.Py) : ∀ i : Nat,i < 10 → (#[.int .i64 (p.kind),.int .i64 (p.cap),.int .i64 (p.num),.int .i64 (p.den),.int .i64 (p.width),.int .i64 (p.count),.int .i64 (p.keys),.int .i64 (p.slots),.int .i64 (p.every),.int .i64 (p.seg)] : Array Value)[i]? = some (.int .i64 ((Pol.cells p).getD i 0)):=by
 intro i hi
 obtain rfl | rfl | rfl | rfl | rfl | rfl | rfl | rfl | rfl | rfl : i = 0 ∨ i = 1 ∨ i = 2 ∨ i = 3 ∨ i = 4 ∨ i = 5 ∨ i = 6 ∨ i = 7 ∨ i = 8 ∨ i = 9:=by omega
 all_goals rfl
set_option maxHeartbeats 1000000 in
set_option maxRecDepth 100000 in
theorem right_n0 (p : Pol.Py) (w : World) (h1 : p.kind ≠ 1) (h2 : p.kind ≠ 2) :
  Calls Try.prog 64 #[.agg #[.int .i64 (p.kind),.int .i64 (p.cap),.int .i64 (p.num),.int .i64 (p.den),.int .i64 (p.width),.int .i64 (p.count),.int .i64 (p.keys),.int .i64 (p.slots),.int .i64 (p.every),.int .i64 (p.seg)]] w fun e w' => e = .returned (.int .i64 40) ∧ Below w.heap.size w w':=by
 have H1:=Aside0.mk h1
 have H2:=Aside0.mk h2
 clear h1 h2
 have HB:=Aside0.mk (Below.refl w.heap.size w)
 go_enter Try.func64,Try.ntmps64
 go_wp2_with (first | ((with_reducible refine gate_dst (N:=1) rfl ?_);replace HB : Aside0 (Below w.heap.size w w):=HB;refine box_event ?hg (N:=1) ?hd (cs:=#[.int .i64 (p.kind),.int .i64 (p.cap),.int .i64 (p.num),.int .i64 (p.den),.int .i64 (p.width),.int .i64 (p.count),.int .i64 (p.keys),.int .i64 (p.slots),.int .i64 (p.every),.int .i64 (p.seg)]) (t:=45) ?hr ?_;(case hd => rfl);(case hg => rfl);(case hr => first | (go_simp;done) | (go_simp;rfl));intro gp hg W1 hbox hb;have Lgp : Aside0 (w.heap.size ≤ gp):=Aside0.mk (by rw [hg];exact below_size HB.out);replace HB : Aside0 (Below w.heap.size w W1):=Aside0.mk (below_step HB.out hb);have Kgp : Aside0 (W1.heap[gp]? = some (.cells #[.int .i64 (p.kind),.int .i64 (p.cap),.int .i64 (p.num),.int .i64 (p.den),.int .i64 (p.width),.int .i64 (p.count),.int .i64 (p.keys),.int .i64 (p.slots),.int .i64 (p.every),.int .i64 (p.seg)] 45 (0,0))):=Aside0.mk hbox;clear hb hbox hg;have kgp:=blk_cell Kgp.out;have fgp:=blk_frozen Kgp.out) | (go_at_call 74;replace HB : Aside0 (Below w.heap.size w W1):=HB;(with_reducible refine (fields_0 gp p.kind _ ((blk_cell Kgp.out 0).trans rfl) H1.out H2.out).mono ?_);rintro e W2 ⟨rfl,hb⟩;replace Kgp:=Aside0.mk (blk_below Kgp.out hb);replace HB : Aside0 (Below w.heap.size w W2):=Aside0.mk (below_step HB.out hb);clear kgp fgp;clear hb;have kgp:=blk_cell Kgp.out;have fgp:=blk_frozen Kgp.out) | ((with_reducible refine gate_dst (N:=3) rfl ?_);replace HB : Aside0 (Below w.heap.size w W2):=HB;refine box_event ?hg (N:=3) ?hd (cs:=#[.pointer none,.int .i64 0,.int .i64 0,.pointer none,.int .i64 0,.int .i64 0,.pointer none,.int .i64 0,.int .i64 0,.pointer none,.int .i64 0,.int .i64 0,.pointer none,.int .i64 0,.int .i64 0,.pointer none,.int .i64 0,.int .i64 0,.pointer none,.int .i64 0,.int .i64 0,.pointer none,.int .i64 0,.int .i64 0]) (t:=95) ?hr ?_;(case hd => rfl);(case hg => rfl);(case hr => first | (go_simp;done) | (go_simp;rfl));intro gl hg W3 hbox hb;have Lgl : Aside0 (w.heap.size ≤ gl):=Aside0.mk (by rw [hg];exact below_size HB.out);have Ngp_gl : Aside0 (gp ≠ gl):=Aside0.mk (by rw [hg];exact Nat.ne_of_lt (blk_lt Kgp.out));have Ngl_gp : Aside0 (gl ≠ gp):=Aside0.mk (fun e => Ngp_gl.out e.symm);replace Kgp:=Aside0.mk (blk_below Kgp.out hb);replace HB : Aside0 (Below w.heap.size w W3):=Aside0.mk (below_step HB.out hb);clear kgp fgp;have Kgl : Aside0 (W3.heap[gl]? = some (.cells #[.pointer none,.int .i64 0,.int .i64 0,.pointer none,.int .i64 0,.int .i64 0,.pointer none,.int .i64 0,.int .i64 0,.pointer none,.int .i64 0,.int .i64 0,.pointer none,.int .i64 0,.int .i64 0,.pointer none,.int .i64 0,.int .i64 0,.pointer none,.int .i64 0,.int .i64 0,.pointer none,.int .i64 0,.int .i64 0] 95 (0,0))):=Aside0.mk hbox;clear hb hbox hg;have kgp:=blk_cell Kgp.out;have fgp:=blk_frozen Kgp.out;have kgl:=blk_cell Kgl.out;have fgl:=blk_frozen Kgl.out) | ((with_reducible refine gate_store (t:=95) (p:=3) rfl ?_);replace HB : Aside0 (Below w.heap.size w W3):=HB;refine H.put_event (t:=95) (p:=3) (i:=0) rfl rfl rfl [.pointer (some ⟨gp,0,none⟩),.int .i64 1,.int .i64 2,.pointer (some ⟨gp,1,none⟩),.int .i64 1,.int .i64 1048576,.pointer none,.int .i64 0,.int .i64 0,.pointer none,.int .i64 0,.int .i64 0,.pointer (some ⟨gp,6,none⟩),.int .i64 1,.int .i64 1000,.pointer (some ⟨gp,7,none⟩),.int .i64 1,.int .i64 64,.pointer (some ⟨gp,8,none⟩),.int .i64 0,.int .i64 1000,.pointer (some ⟨gp,9,none⟩),.int .i64 1,.int .i64 1000] Kgl.out rfl rfl (by kernel_rfl) (by kernel_rfl) (by kernel_rfl) ?_;intro W4 hw;replace Kgp:=Aside0.mk (H.far_fill hw Ngp_gl.out Kgp.out);replace Kgl : Aside0 (W4.heap[gl]? = some (.cells #[.pointer (some ⟨gp,0,none⟩),.int .i64 1,.int .i64 2,.pointer (some ⟨gp,1,none⟩),.int .i64 1,.int .i64 1048576,.pointer none,.int .i64 0,.int .i64 0,.pointer none,.int .i64 0,.int .i64 0,.pointer (some ⟨gp,6,none⟩),.int .i64 1,.int .i64 1000,.pointer (some ⟨gp,7,none⟩),.int .i64 1,.int .i64 64,.pointer (some ⟨gp,8,none⟩),.int .i64 0,.int .i64 1000,.pointer (some ⟨gp,9,none⟩),.int .i64 1,.int .i64 1000] 95 (0,0))):=Aside0.mk (H.blk_fill hw Kgl.out (by kernel_rfl));replace HB : Aside0 (Below w.heap.size w W4):=Aside0.mk (H.below_fill hw Lgl.out HB.out);clear kgp fgp kgl fgl;clear hw;have kgp:=blk_cell Kgp.out;have fgp:=blk_frozen Kgp.out;have kgl:=blk_cell Kgl.out;have fgl:=blk_frozen Kgl.out))
 go_ret
 exact ⟨rfl,HB.out⟩
set_option maxHeartbeats 1000000 in
set_option maxRecDepth 100000 in
theorem right_n1 (p : Pol.Py) (w : World) (h : p.width ≠ 0) :
  Calls Try.prog 64 #[.agg #[.int .i64 1,.int .i64 (p.cap),.int .i64 (p.num),.int .i64 (p.den),.int .i64 (p.width),.int .i64 (p.count),.int .i64 (p.keys),.int .i64 (p.slots),.int .i64 (p.every),.int .i64 (p.seg)]] w fun e w' => e = .returned (.int .i64 40) ∧ Below w.heap.size w w':=by
 have b1 : (p.width == 0) = false:=by simpa using h
 have b2 : (p.width != 0) = true:=by simpa using h
 clear h
 have HB:=Aside0.mk (Below.refl w.heap.size w)
 go_enter Try.func64,Try.ntmps64
 go_wp2_with (first | ((with_reducible refine gate_dst (N:=1) rfl ?_);replace HB : Aside0 (Below w.heap.size w w):=HB;refine box_event ?hg (N:=1) ?hd (cs:=#[.int .i64 1,.int .i64 (p.cap),.int .i64 (p.num),.int .i64 (p.den),.int .i64 (p.width),.int .i64 (p.count),.int .i64 (p.keys),.int .i64 (p.slots),.int .i64 (p.every),.int .i64 (p.seg)]) (t:=45) ?hr ?_;(case hd => rfl);(case hg => rfl);(case hr => first | (go_simp;done) | (go_simp;rfl));intro gp hg W1 hbox hb;have Lgp : Aside0 (w.heap.size ≤ gp):=Aside0.mk (by rw [hg];exact below_size HB.out);replace HB : Aside0 (Below w.heap.size w W1):=Aside0.mk (below_step HB.out hb);have Kgp : Aside0 (W1.heap[gp]? = some (.cells #[.int .i64 1,.int .i64 (p.cap),.int .i64 (p.num),.int .i64 (p.den),.int .i64 (p.width),.int .i64 (p.count),.int .i64 (p.keys),.int .i64 (p.slots),.int .i64 (p.every),.int .i64 (p.seg)] 45 (0,0))):=Aside0.mk hbox;clear hb hbox hg;have kgp:=blk_cell Kgp.out;have fgp:=blk_frozen Kgp.out) | (go_at_call 74;replace HB : Aside0 (Below w.heap.size w W1):=HB;(with_reducible refine (fields_1 gp _ ((blk_cell Kgp.out 0).trans rfl)).mono ?_);rintro e W2 ⟨rfl,hb⟩;replace Kgp:=Aside0.mk (blk_below Kgp.out hb);replace HB : Aside0 (Below w.heap.size w W2):=Aside0.mk (below_step HB.out hb);clear kgp fgp;clear hb;have kgp:=blk_cell Kgp.out;have fgp:=blk_frozen Kgp.out) | ((with_reducible refine gate_dst (N:=3) rfl ?_);replace HB : Aside0 (Below w.heap.size w W2):=HB;refine box_event ?hg (N:=3) ?hd (cs:=#[.pointer none,.int .i64 0,.int .i64 0,.pointer none,.int .i64 0,.int .i64 0,.pointer none,.int .i64 0,.int .i64 0,.pointer none,.int .i64 0,.int .i64 0,.pointer none,.int .i64 0,.int .i64 0,.pointer none,.int .i64 0,.int .i64 0,.pointer none,.int .i64 0,.int .i64 0,.pointer none,.int .i64 0,.int .i64 0]) (t:=95) ?hr ?_;(case hd => rfl);(case hg => rfl);(case hr => first | (go_simp;done) | (go_simp;rfl));intro gl hg W3 hbox hb;have Lgl : Aside0 (w.heap.size ≤ gl):=Aside0.mk (by rw [hg];exact below_size HB.out);have Ngp_gl : Aside0 (gp ≠ gl):=Aside0.mk (by rw [hg];exact Nat.ne_of_lt (blk_lt Kgp.out));have Ngl_gp : Aside0 (gl ≠ gp):=Aside0.mk (fun e => Ngp_gl.out e.symm);replace Kgp:=Aside0.mk (blk_below Kgp.out hb);replace HB : Aside0 (Below w.heap.size w W3):=Aside0.mk (below_step HB.out hb);clear kgp fgp;have Kgl : Aside0 (W3.heap[gl]? = some (.cells #[.pointer none,.int .i64 0,.int .i64 0,.pointer none,.int .i64 0,.int .i64 0,.pointer none,.int .i64 0,.int .i64 0,.pointer none,.int .i64 0,.int .i64 0,.pointer none,.int .i64 0,.int .i64 0,.pointer none,.int .i64 0,.int .i64 0,.pointer none,.int .i64 0,.int .i64 0,.pointer none,.int .i64 0,.int .i64 0] 95 (0,0))):=Aside0.mk hbox;clear hb hbox hg;have kgp:=blk_cell Kgp.out;have fgp:=blk_frozen Kgp.out;have kgl:=blk_cell Kgl.out;have fgl:=blk_frozen Kgl.out) | ((with_reducible refine gate_store (t:=95) (p:=3) rfl ?_);replace HB : Aside0 (Below w.heap.size w W3):=HB;refine H.put_event (t:=95) (p:=3) (i:=0) rfl rfl rfl [.pointer (some ⟨gp,0,none⟩),.int .i64 1,.int .i64 2,.pointer (some ⟨gp,1,none⟩),.int .i64 1,.int .i64 1048576,.pointer (some ⟨gp,2,none⟩),.int .i64 1,.int .i64 65536,.pointer (some ⟨gp,3,none⟩),.int .i64 1,.int .i64 65536,.pointer (some ⟨gp,6,none⟩),.int .i64 1,.int .i64 1000,.pointer (some ⟨gp,7,none⟩),.int .i64 1,.int .i64 64,.pointer (some ⟨gp,8,none⟩),.int .i64 0,.int .i64 1000,.pointer (some ⟨gp,9,none⟩),.int .i64 1,.int .i64 1000] Kgl.out rfl rfl (by kernel_rfl) (by kernel_rfl) (by kernel_rfl) ?_;intro W4 hw;replace Kgp:=Aside0.mk (H.far_fill hw Ngp_gl.out Kgp.out);replace Kgl : Aside0 (W4.heap[gl]? = some (.cells #[.pointer (some ⟨gp,0,none⟩),.int .i64 1,.int .i64 2,.pointer (some ⟨gp,1,none⟩),.int .i64 1,.int .i64 1048576,.pointer (some ⟨gp,2,none⟩),.int .i64 1,.int .i64 65536,.pointer (some ⟨gp,3,none⟩),.int .i64 1,.int .i64 65536,.pointer (some ⟨gp,6,none⟩),.int .i64 1,.int .i64 1000,.pointer (some ⟨gp,7,none⟩),.int .i64 1,.int .i64 64,.pointer (some ⟨gp,8,none⟩),.int .i64 0,.int .i64 1000,.pointer (some ⟨gp,9,none⟩),.int .i64 1,.int .i64 1000] 95 (0,0))):=Aside0.mk (H.blk_fill hw Kgl.out (by kernel_rfl));replace HB : Aside0 (Below w.heap.size w W4):=Aside0.mk (H.below_fill hw Lgl.out HB.out);clear kgp fgp kgl fgl;clear hw;have kgp:=blk_cell Kgp.out;have fgp:=blk_frozen Kgp.out;have kgl:=blk_cell Kgl.out;have fgl:=blk_frozen Kgl.out))
 go_ret
 exact ⟨rfl,HB.out⟩
set_option maxHeartbeats 1000000 in
set_option maxRecDepth 100000 in
theorem right_n2 (p : Pol.Py) (w : World) (h : p.count ≠ 0) :
  Calls Try.prog 64 #[.agg #[.int .i64 1,.int .i64 (p.cap),.int .i64 (p.num),.int .i64 (p.den),.int .i64 0,.int .i64 (p.count),.int .i64 (p.keys),.int .i64 (p.slots),.int .i64 (p.every),.int .i64 (p.seg)]] w fun e w' => e = .returned (.int .i64 40) ∧ Below w.heap.size w w':=by
 have b1 : (p.count == 0) = false:=by simpa using h
 have b2 : (p.count != 0) = true:=by simpa using h
 clear h
 have HB:=Aside0.mk (Below.refl w.heap.size w)
 go_enter Try.func64,Try.ntmps64
 go_wp2_with (first | ((with_reducible refine gate_dst (N:=1) rfl ?_);replace HB : Aside0 (Below w.heap.size w w):=HB;refine box_event ?hg (N:=1) ?hd (cs:=#[.int .i64 1,.int .i64 (p.cap),.int .i64 (p.num),.int .i64 (p.den),.int .i64 0,.int .i64 (p.count),.int .i64 (p.keys),.int .i64 (p.slots),.int .i64 (p.every),.int .i64 (p.seg)]) (t:=45) ?hr ?_;(case hd => rfl);(case hg => rfl);(case hr => first | (go_simp;done) | (go_simp;rfl));intro gp hg W1 hbox hb;have Lgp : Aside0 (w.heap.size ≤ gp):=Aside0.mk (by rw [hg];exact below_size HB.out);replace HB : Aside0 (Below w.heap.size w W1):=Aside0.mk (below_step HB.out hb);have Kgp : Aside0 (W1.heap[gp]? = some (.cells #[.int .i64 1,.int .i64 (p.cap),.int .i64 (p.num),.int .i64 (p.den),.int .i64 0,.int .i64 (p.count),.int .i64 (p.keys),.int .i64 (p.slots),.int .i64 (p.every),.int .i64 (p.seg)] 45 (0,0))):=Aside0.mk hbox;clear hb hbox hg;have kgp:=blk_cell Kgp.out;have fgp:=blk_frozen Kgp.out) | (go_at_call 74;replace HB : Aside0 (Below w.heap.size w W1):=HB;(with_reducible refine (fields_1 gp _ ((blk_cell Kgp.out 0).trans rfl)).mono ?_);rintro e W2 ⟨rfl,hb⟩;replace Kgp:=Aside0.mk (blk_below Kgp.out hb);replace HB : Aside0 (Below w.heap.size w W2):=Aside0.mk (below_step HB.out hb);clear kgp fgp;clear hb;have kgp:=blk_cell Kgp.out;have fgp:=blk_frozen Kgp.out) | ((with_reducible refine gate_dst (N:=3) rfl ?_);replace HB : Aside0 (Below w.heap.size w W2):=HB;refine box_event ?hg (N:=3) ?hd (cs:=#[.pointer none,.int .i64 0,.int .i64 0,.pointer none,.int .i64 0,.int .i64 0,.pointer none,.int .i64 0,.int .i64 0,.pointer none,.int .i64 0,.int .i64 0,.pointer none,.int .i64 0,.int .i64 0,.pointer none,.int .i64 0,.int .i64 0,.pointer none,.int .i64 0,.int .i64 0,.pointer none,.int .i64 0,.int .i64 0]) (t:=95) ?hr ?_;(case hd => rfl);(case hg => rfl);(case hr => first | (go_simp;done) | (go_simp;rfl));intro gl hg W3 hbox hb;have Lgl : Aside0 (w.heap.size ≤ gl):=Aside0.mk (by rw [hg];exact below_size HB.out);have Ngp_gl : Aside0 (gp ≠ gl):=Aside0.mk (by rw [hg];exact Nat.ne_of_lt (blk_lt Kgp.out));have Ngl_gp : Aside0 (gl ≠ gp):=Aside0.mk (fun e => Ngp_gl.out e.symm);replace Kgp:=Aside0.mk (blk_below Kgp.out hb);replace HB : Aside0 (Below w.heap.size w W3):=Aside0.mk (below_step HB.out hb);clear kgp fgp;have Kgl : Aside0 (W3.heap[gl]? = some (.cells #[.pointer none,.int .i64 0,.int .i64 0,.pointer none,.int .i64 0,.int .i64 0,.pointer none,.int .i64 0,.int .i64 0,.pointer none,.int .i64 0,.int .i64 0,.pointer none,.int .i64 0,.int .i64 0,.pointer none,.int .i64 0,.int .i64 0,.pointer none,.int .i64 0,.int .i64 0,.pointer none,.int .i64 0,.int .i64 0] 95 (0,0))):=Aside0.mk hbox;clear hb hbox hg;have kgp:=blk_cell Kgp.out;have fgp:=blk_frozen Kgp.out;have kgl:=blk_cell Kgl.out;have fgl:=blk_frozen Kgl.out) | ((with_reducible refine gate_store (t:=95) (p:=3) rfl ?_);replace HB : Aside0 (Below w.heap.size w W3):=HB;refine H.put_event (t:=95) (p:=3) (i:=0) rfl rfl rfl [.pointer (some ⟨gp,0,none⟩),.int .i64 1,.int .i64 2,.pointer (some ⟨gp,1,none⟩),.int .i64 1,.int .i64 1048576,.pointer (some ⟨gp,2,none⟩),.int .i64 1,.int .i64 65536,.pointer (some ⟨gp,3,none⟩),.int .i64 1,.int .i64 65536,.pointer (some ⟨gp,6,none⟩),.int .i64 1,.int .i64 1000,.pointer (some ⟨gp,7,none⟩),.int .i64 1,.int .i64 64,.pointer (some ⟨gp,8,none⟩),.int .i64 0,.int .i64 1000,.pointer (some ⟨gp,9,none⟩),.int .i64 1,.int .i64 1000] Kgl.out rfl rfl (by kernel_rfl) (by kernel_rfl) (by kernel_rfl) ?_;intro W4 hw;replace Kgp:=Aside0.mk (H.far_fill hw Ngp_gl.out Kgp.out);replace Kgl : Aside0 (W4.heap[gl]? = some (.cells #[.pointer (some ⟨gp,0,none⟩),.int .i64 1,.int .i64 2,.pointer (some ⟨gp,1,none⟩),.int .i64 1,.int .i64 1048576,.pointer (some ⟨gp,2,none⟩),.int .i64 1,.int .i64 65536,.pointer (some ⟨gp,3,none⟩),.int .i64 1,.int .i64 65536,.pointer (some ⟨gp,6,none⟩),.int .i64 1,.int .i64 1000,.pointer (some ⟨gp,7,none⟩),.int .i64 1,.int .i64 64,.pointer (some ⟨gp,8,none⟩),.int .i64 0,.int .i64 1000,.pointer (some ⟨gp,9,none⟩),.int .i64 1,.int .i64 1000] 95 (0,0))):=Aside0.mk (H.blk_fill hw Kgl.out (by kernel_rfl));replace HB : Aside0 (Below w.heap.size w W4):=Aside0.mk (H.below_fill hw Lgl.out HB.out);clear kgp fgp kgl fgl;clear hw;have kgp:=blk_cell Kgp.out;have fgp:=blk_frozen Kgp.out;have kgl:=blk_cell Kgl.out;have fgl:=blk_frozen Kgl.out))
 go_ret
 exact ⟨rfl,HB.out⟩
set_option maxHeartbeats 1000000 in
set_option maxRecDepth 100000 in
theorem right_n3 (p : Pol.Py) (w : World) (h : p.num ≠ 0) :
  Calls Try.prog 64 #[.agg #[.int .i64 2,.int .i64 (p.cap),.int .i64 (p.num),.int .i64 (p.den),.int .i64 (p.width),.int .i64 (p.count),.int .i64 (p.keys),.int .i64 (p.slots),.int .i64 (p.every),.int .i64 (p.seg)]] w fun e w' => e = .returned (.int .i64 40) ∧ Below w.heap.size w w':=by
 have b1 : (p.num == 0) = false:=by simpa using h
 have b2 : (p.num != 0) = true:=by simpa using h
 clear h
 have HB:=Aside0.mk (Below.refl w.heap.size w)
 go_enter Try.func64,Try.ntmps64
 go_wp2_with (first | ((with_reducible refine gate_dst (N:=1) rfl ?_);replace HB : Aside0 (Below w.heap.size w w):=HB;refine box_event ?hg (N:=1) ?hd (cs:=#[.int .i64 2,.int .i64 (p.cap),.int .i64 (p.num),.int .i64 (p.den),.int .i64 (p.width),.int .i64 (p.count),.int .i64 (p.keys),.int .i64 (p.slots),.int .i64 (p.every),.int .i64 (p.seg)]) (t:=45) ?hr ?_;(case hd => rfl);(case hg => rfl);(case hr => first | (go_simp;done) | (go_simp;rfl));intro gp hg W1 hbox hb;have Lgp : Aside0 (w.heap.size ≤ gp):=Aside0.mk (by rw [hg];exact below_size HB.out);replace HB : Aside0 (Below w.heap.size w W1):=Aside0.mk (below_step HB.out hb);have Kgp : Aside0 (W1.heap[gp]? = some (.cells #[.int .i64 2,.int .i64 (p.cap),.int .i64 (p.num),.int .i64 (p.den),.int .i64 (p.width),.int .i64 (p.count),.int .i64 (p.keys),.int .i64 (p.slots),.int .i64 (p.every),.int .i64 (p.seg)] 45 (0,0))):=Aside0.mk hbox;clear hb hbox hg;have kgp:=blk_cell Kgp.out;have fgp:=blk_frozen Kgp.out) | (go_at_call 74;replace HB : Aside0 (Below w.heap.size w W1):=HB;(with_reducible refine (fields_2 gp _ ((blk_cell Kgp.out 0).trans rfl)).mono ?_);rintro e W2 ⟨rfl,hb⟩;replace Kgp:=Aside0.mk (blk_below Kgp.out hb);replace HB : Aside0 (Below w.heap.size w W2):=Aside0.mk (below_step HB.out hb);clear kgp fgp;clear hb;have kgp:=blk_cell Kgp.out;have fgp:=blk_frozen Kgp.out) | ((with_reducible refine gate_dst (N:=3) rfl ?_);replace HB : Aside0 (Below w.heap.size w W2):=HB;refine box_event ?hg (N:=3) ?hd (cs:=#[.pointer none,.int .i64 0,.int .i64 0,.pointer none,.int .i64 0,.int .i64 0,.pointer none,.int .i64 0,.int .i64 0,.pointer none,.int .i64 0,.int .i64 0,.pointer none,.int .i64 0,.int .i64 0,.pointer none,.int .i64 0,.int .i64 0,.pointer none,.int .i64 0,.int .i64 0,.pointer none,.int .i64 0,.int .i64 0]) (t:=95) ?hr ?_;(case hd => rfl);(case hg => rfl);(case hr => first | (go_simp;done) | (go_simp;rfl));intro gl hg W3 hbox hb;have Lgl : Aside0 (w.heap.size ≤ gl):=Aside0.mk (by rw [hg];exact below_size HB.out);have Ngp_gl : Aside0 (gp ≠ gl):=Aside0.mk (by rw [hg];exact Nat.ne_of_lt (blk_lt Kgp.out));have Ngl_gp : Aside0 (gl ≠ gp):=Aside0.mk (fun e => Ngp_gl.out e.symm);replace Kgp:=Aside0.mk (blk_below Kgp.out hb);replace HB : Aside0 (Below w.heap.size w W3):=Aside0.mk (below_step HB.out hb);clear kgp fgp;have Kgl : Aside0 (W3.heap[gl]? = some (.cells #[.pointer none,.int .i64 0,.int .i64 0,.pointer none,.int .i64 0,.int .i64 0,.pointer none,.int .i64 0,.int .i64 0,.pointer none,.int .i64 0,.int .i64 0,.pointer none,.int .i64 0,.int .i64 0,.pointer none,.int .i64 0,.int .i64 0,.pointer none,.int .i64 0,.int .i64 0,.pointer none,.int .i64 0,.int .i64 0] 95 (0,0))):=Aside0.mk hbox;clear hb hbox hg;have kgp:=blk_cell Kgp.out;have fgp:=blk_frozen Kgp.out;have kgl:=blk_cell Kgl.out;have fgl:=blk_frozen Kgl.out) | ((with_reducible refine gate_store (t:=95) (p:=3) rfl ?_);replace HB : Aside0 (Below w.heap.size w W3):=HB;refine H.put_event (t:=95) (p:=3) (i:=0) rfl rfl rfl [.pointer (some ⟨gp,0,none⟩),.int .i64 1,.int .i64 2,.pointer (some ⟨gp,1,none⟩),.int .i64 1,.int .i64 1048576,.pointer (some ⟨gp,4,none⟩),.int .i64 1,.int .i64 1048576,.pointer (some ⟨gp,5,none⟩),.int .i64 1,.int .i64 32,.pointer (some ⟨gp,6,none⟩),.int .i64 1,.int .i64 1000,.pointer (some ⟨gp,7,none⟩),.int .i64 1,.int .i64 64,.pointer (some ⟨gp,8,none⟩),.int .i64 0,.int .i64 1000,.pointer (some ⟨gp,9,none⟩),.int .i64 1,.int .i64 1000] Kgl.out rfl rfl (by kernel_rfl) (by kernel_rfl) (by kernel_rfl) ?_;intro W4 hw;replace Kgp:=Aside0.mk (H.far_fill hw Ngp_gl.out Kgp.out);replace Kgl : Aside0 (W4.heap[gl]? = some (.cells #[.pointer (some ⟨gp,0,none⟩),.int .i64 1,.int .i64 2,.pointer (some ⟨gp,1,none⟩),.int .i64 1,.int .i64 1048576,.pointer (some ⟨gp,4,none⟩),.int .i64 1,.int .i64 1048576,.pointer (some ⟨gp,5,none⟩),.int .i64 1,.int .i64 32,.pointer (some ⟨gp,6,none⟩),.int .i64 1,.int .i64 1000,.pointer (some ⟨gp,7,none⟩),.int .i64 1,.int .i64 64,.pointer (some ⟨gp,8,none⟩),.int .i64 0,.int .i64 1000,.pointer (some ⟨gp,9,none⟩),.int .i64 1,.int .i64 1000] 95 (0,0))):=Aside0.mk (H.blk_fill hw Kgl.out (by kernel_rfl));replace HB : Aside0 (Below w.heap.size w W4):=Aside0.mk (H.below_fill hw Lgl.out HB.out);clear kgp fgp kgl fgl;clear hw;have kgp:=blk_cell Kgp.out;have fgp:=blk_frozen Kgp.out;have kgl:=blk_cell Kgl.out;have fgl:=blk_frozen Kgl.out))
 go_ret
 exact ⟨rfl,HB.out⟩
set_option maxHeartbeats 1000000 in
set_option maxRecDepth 100000 in
theorem right_n4 (p : Pol.Py) (w : World) (h : p.den ≠ 0) :
  Calls Try.prog 64 #[.agg #[.int .i64 2,.int .i64 (p.cap),.int .i64 0,.int .i64 (p.den),.int .i64 (p.width),.int .i64 (p.count),.int .i64 (p.keys),.int .i64 (p.slots),.int .i64 (p.every),.int .i64 (p.seg)]] w fun e w' => e = .returned (.int .i64 40) ∧ Below w.heap.size w w':=by
 have b1 : (p.den == 0) = false:=by simpa using h
 have b2 : (p.den != 0) = true:=by simpa using h
 clear h
 have HB:=Aside0.mk (Below.refl w.heap.size w)
 go_enter Try.func64,Try.ntmps64
 go_wp2_with (first | ((with_reducible refine gate_dst (N:=1) rfl ?_);replace HB : Aside0 (Below w.heap.size w w):=HB;refine box_event ?hg (N:=1) ?hd (cs:=#[.int .i64 2,.int .i64 (p.cap),.int .i64 0,.int .i64 (p.den),.int .i64 (p.width),.int .i64 (p.count),.int .i64 (p.keys),.int .i64 (p.slots),.int .i64 (p.every),.int .i64 (p.seg)]) (t:=45) ?hr ?_;(case hd => rfl);(case hg => rfl);(case hr => first | (go_simp;done) | (go_simp;rfl));intro gp hg W1 hbox hb;have Lgp : Aside0 (w.heap.size ≤ gp):=Aside0.mk (by rw [hg];exact below_size HB.out);replace HB : Aside0 (Below w.heap.size w W1):=Aside0.mk (below_step HB.out hb);have Kgp : Aside0 (W1.heap[gp]? = some (.cells #[.int .i64 2,.int .i64 (p.cap),.int .i64 0,.int .i64 (p.den),.int .i64 (p.width),.int .i64 (p.count),.int .i64 (p.keys),.int .i64 (p.slots),.int .i64 (p.every),.int .i64 (p.seg)] 45 (0,0))):=Aside0.mk hbox;clear hb hbox hg;have kgp:=blk_cell Kgp.out;have fgp:=blk_frozen Kgp.out) | (go_at_call 74;replace HB : Aside0 (Below w.heap.size w W1):=HB;(with_reducible refine (fields_2 gp _ ((blk_cell Kgp.out 0).trans rfl)).mono ?_);rintro e W2 ⟨rfl,hb⟩;replace Kgp:=Aside0.mk (blk_below Kgp.out hb);replace HB : Aside0 (Below w.heap.size w W2):=Aside0.mk (below_step HB.out hb);clear kgp fgp;clear hb;have kgp:=blk_cell Kgp.out;have fgp:=blk_frozen Kgp.out) | ((with_reducible refine gate_dst (N:=3) rfl ?_);replace HB : Aside0 (Below w.heap.size w W2):=HB;refine box_event ?hg (N:=3) ?hd (cs:=#[.pointer none,.int .i64 0,.int .i64 0,.pointer none,.int .i64 0,.int .i64 0,.pointer none,.int .i64 0,.int .i64 0,.pointer none,.int .i64 0,.int .i64 0,.pointer none,.int .i64 0,.int .i64 0,.pointer none,.int .i64 0,.int .i64 0,.pointer none,.int .i64 0,.int .i64 0,.pointer none,.int .i64 0,.int .i64 0]) (t:=95) ?hr ?_;(case hd => rfl);(case hg => rfl);(case hr => first | (go_simp;done) | (go_simp;rfl));intro gl hg W3 hbox hb;have Lgl : Aside0 (w.heap.size ≤ gl):=Aside0.mk (by rw [hg];exact below_size HB.out);have Ngp_gl : Aside0 (gp ≠ gl):=Aside0.mk (by rw [hg];exact Nat.ne_of_lt (blk_lt Kgp.out));have Ngl_gp : Aside0 (gl ≠ gp):=Aside0.mk (fun e => Ngp_gl.out e.symm);replace Kgp:=Aside0.mk (blk_below Kgp.out hb);replace HB : Aside0 (Below w.heap.size w W3):=Aside0.mk (below_step HB.out hb);clear kgp fgp;have Kgl : Aside0 (W3.heap[gl]? = some (.cells #[.pointer none,.int .i64 0,.int .i64 0,.pointer none,.int .i64 0,.int .i64 0,.pointer none,.int .i64 0,.int .i64 0,.pointer none,.int .i64 0,.int .i64 0,.pointer none,.int .i64 0,.int .i64 0,.pointer none,.int .i64 0,.int .i64 0,.pointer none,.int .i64 0,.int .i64 0,.pointer none,.int .i64 0,.int .i64 0] 95 (0,0))):=Aside0.mk hbox;clear hb hbox hg;have kgp:=blk_cell Kgp.out;have fgp:=blk_frozen Kgp.out;have kgl:=blk_cell Kgl.out;have fgl:=blk_frozen Kgl.out) | ((with_reducible refine gate_store (t:=95) (p:=3) rfl ?_);replace HB : Aside0 (Below w.heap.size w W3):=HB;refine H.put_event (t:=95) (p:=3) (i:=0) rfl rfl rfl [.pointer (some ⟨gp,0,none⟩),.int .i64 1,.int .i64 2,.pointer (some ⟨gp,1,none⟩),.int .i64 1,.int .i64 1048576,.pointer (some ⟨gp,4,none⟩),.int .i64 1,.int .i64 1048576,.pointer (some ⟨gp,5,none⟩),.int .i64 1,.int .i64 32,.pointer (some ⟨gp,6,none⟩),.int .i64 1,.int .i64 1000,.pointer (some ⟨gp,7,none⟩),.int .i64 1,.int .i64 64,.pointer (some ⟨gp,8,none⟩),.int .i64 0,.int .i64 1000,.pointer (some ⟨gp,9,none⟩),.int .i64 1,.int .i64 1000] Kgl.out rfl rfl (by kernel_rfl) (by kernel_rfl) (by kernel_rfl) ?_;intro W4 hw;replace Kgp:=Aside0.mk (H.far_fill hw Ngp_gl.out Kgp.out);replace Kgl : Aside0 (W4.heap[gl]? = some (.cells #[.pointer (some ⟨gp,0,none⟩),.int .i64 1,.int .i64 2,.pointer (some ⟨gp,1,none⟩),.int .i64 1,.int .i64 1048576,.pointer (some ⟨gp,4,none⟩),.int .i64 1,.int .i64 1048576,.pointer (some ⟨gp,5,none⟩),.int .i64 1,.int .i64 32,.pointer (some ⟨gp,6,none⟩),.int .i64 1,.int .i64 1000,.pointer (some ⟨gp,7,none⟩),.int .i64 1,.int .i64 64,.pointer (some ⟨gp,8,none⟩),.int .i64 0,.int .i64 1000,.pointer (some ⟨gp,9,none⟩),.int .i64 1,.int .i64 1000] 95 (0,0))):=Aside0.mk (H.blk_fill hw Kgl.out (by kernel_rfl));replace HB : Aside0 (Below w.heap.size w W4):=Aside0.mk (H.below_fill hw Lgl.out HB.out);clear kgp fgp kgl fgl;clear hw;have kgp:=blk_cell Kgp.out;have fgp:=blk_frozen Kgp.out;have kgl:=blk_cell Kgl.out;have fgl:=blk_frozen Kgl.out))
 go_ret
 exact ⟨rfl,HB.out⟩
set_option maxHeartbeats 1000000 in
set_option maxRecDepth 100000 in
theorem right_loop1 (p : Pol.Py) (w : World) (hk : p.kind = 1) (hw : p.width = 0) (hc : p.count = 0) :
  Calls Try.prog 64 #[.agg #[.int .i64 1,.int .i64 (p.cap),.int .i64 (p.num),.int .i64 (p.den),.int .i64 0,.int .i64 0,.int .i64 (p.keys),.int .i64 (p.slots),.int .i64 (p.every),.int .i64 (p.seg)]] w fun e w' => e = .returned (.int .i64 (if Pol.chk (Pol.cells p) Pol.flds1 = true then 0 else 40)) ∧ Below w.heap.size w w':=by
 have HK:=Aside0.mk hk
 have HW:=Aside0.mk hw
 have HC:=Aside0.mk hc
 clear hk hw hc
 generalize hr : (if Pol.chk (Pol.cells p) Pol.flds1 = true then (0 : Int) else 40) = r
 have Hr:=Aside0.mk hr
 clear hr
 have HB:=Aside0.mk (Below.refl w.heap.size w)
 go_enter Try.func64,Try.ntmps64
 go_wp2_with (first | ((with_reducible refine gate_dst (N:=1) rfl ?_);replace HB : Aside0 (Below w.heap.size w w):=HB;refine box_event ?hg (N:=1) ?hd (cs:=#[.int .i64 1,.int .i64 (p.cap),.int .i64 (p.num),.int .i64 (p.den),.int .i64 0,.int .i64 0,.int .i64 (p.keys),.int .i64 (p.slots),.int .i64 (p.every),.int .i64 (p.seg)]) (t:=45) ?hr ?_;(case hd => rfl);(case hg => rfl);(case hr => first | (go_simp;done) | (go_simp;rfl));intro gp hg W1 hbox hb;have Lgp : Aside0 (w.heap.size ≤ gp):=Aside0.mk (by rw [hg];exact below_size HB.out);replace HB : Aside0 (Below w.heap.size w W1):=Aside0.mk (below_step HB.out hb);have Kgp : Aside0 (W1.heap[gp]? = some (.cells #[.int .i64 1,.int .i64 (p.cap),.int .i64 (p.num),.int .i64 (p.den),.int .i64 0,.int .i64 0,.int .i64 (p.keys),.int .i64 (p.slots),.int .i64 (p.every),.int .i64 (p.seg)] 45 (0,0))):=Aside0.mk hbox;clear hb hbox hg;have kgp:=blk_cell Kgp.out;have fgp:=blk_frozen Kgp.out) | (go_at_call 74;replace HB : Aside0 (Below w.heap.size w W1):=HB;(with_reducible refine (fields_1 gp _ ((blk_cell Kgp.out 0).trans rfl)).mono ?_);rintro e W2 ⟨rfl,hb⟩;replace Kgp:=Aside0.mk (blk_below Kgp.out hb);replace HB : Aside0 (Below w.heap.size w W2):=Aside0.mk (below_step HB.out hb);clear kgp fgp;clear hb;have kgp:=blk_cell Kgp.out;have fgp:=blk_frozen Kgp.out) | ((with_reducible refine gate_dst (N:=3) rfl ?_);replace HB : Aside0 (Below w.heap.size w W2):=HB;refine box_event ?hg (N:=3) ?hd (cs:=#[.pointer none,.int .i64 0,.int .i64 0,.pointer none,.int .i64 0,.int .i64 0,.pointer none,.int .i64 0,.int .i64 0,.pointer none,.int .i64 0,.int .i64 0,.pointer none,.int .i64 0,.int .i64 0,.pointer none,.int .i64 0,.int .i64 0,.pointer none,.int .i64 0,.int .i64 0,.pointer none,.int .i64 0,.int .i64 0]) (t:=95) ?hr ?_;(case hd => rfl);(case hg => rfl);(case hr => first | (go_simp;done) | (go_simp;rfl));intro gl hg W3 hbox hb;have Lgl : Aside0 (w.heap.size ≤ gl):=Aside0.mk (by rw [hg];exact below_size HB.out);have Ngp_gl : Aside0 (gp ≠ gl):=Aside0.mk (by rw [hg];exact Nat.ne_of_lt (blk_lt Kgp.out));have Ngl_gp : Aside0 (gl ≠ gp):=Aside0.mk (fun e => Ngp_gl.out e.symm);replace Kgp:=Aside0.mk (blk_below Kgp.out hb);replace HB : Aside0 (Below w.heap.size w W3):=Aside0.mk (below_step HB.out hb);clear kgp fgp;have Kgl : Aside0 (W3.heap[gl]? = some (.cells #[.pointer none,.int .i64 0,.int .i64 0,.pointer none,.int .i64 0,.int .i64 0,.pointer none,.int .i64 0,.int .i64 0,.pointer none,.int .i64 0,.int .i64 0,.pointer none,.int .i64 0,.int .i64 0,.pointer none,.int .i64 0,.int .i64 0,.pointer none,.int .i64 0,.int .i64 0,.pointer none,.int .i64 0,.int .i64 0] 95 (0,0))):=Aside0.mk hbox;clear hb hbox hg;have kgp:=blk_cell Kgp.out;have fgp:=blk_frozen Kgp.out;have kgl:=blk_cell Kgl.out;have fgl:=blk_frozen Kgl.out) | ((with_reducible refine gate_store (t:=95) (p:=3) rfl ?_);replace HB : Aside0 (Below w.heap.size w W3):=HB;refine H.put_event (t:=95) (p:=3) (i:=0) rfl rfl rfl [.pointer (some ⟨gp,0,none⟩),.int .i64 1,.int .i64 2,.pointer (some ⟨gp,1,none⟩),.int .i64 1,.int .i64 1048576,.pointer (some ⟨gp,2,none⟩),.int .i64 1,.int .i64 65536,.pointer (some ⟨gp,3,none⟩),.int .i64 1,.int .i64 65536,.pointer (some ⟨gp,6,none⟩),.int .i64 1,.int .i64 1000,.pointer (some ⟨gp,7,none⟩),.int .i64 1,.int .i64 64,.pointer (some ⟨gp,8,none⟩),.int .i64 0,.int .i64 1000,.pointer (some ⟨gp,9,none⟩),.int .i64 1,.int .i64 1000] Kgl.out rfl rfl (by kernel_rfl) (by kernel_rfl) (by kernel_rfl) ?_;intro W4 hw;replace Kgp:=Aside0.mk (H.far_fill hw Ngp_gl.out Kgp.out);replace Kgl : Aside0 (W4.heap[gl]? = some (.cells #[.pointer (some ⟨gp,0,none⟩),.int .i64 1,.int .i64 2,.pointer (some ⟨gp,1,none⟩),.int .i64 1,.int .i64 1048576,.pointer (some ⟨gp,2,none⟩),.int .i64 1,.int .i64 65536,.pointer (some ⟨gp,3,none⟩),.int .i64 1,.int .i64 65536,.pointer (some ⟨gp,6,none⟩),.int .i64 1,.int .i64 1000,.pointer (some ⟨gp,7,none⟩),.int .i64 1,.int .i64 64,.pointer (some ⟨gp,8,none⟩),.int .i64 0,.int .i64 1000,.pointer (some ⟨gp,9,none⟩),.int .i64 1,.int .i64 1000] 95 (0,0))):=Aside0.mk (H.blk_fill hw Kgl.out (by kernel_rfl));replace HB : Aside0 (Below w.heap.size w W4):=Aside0.mk (H.below_fill hw Lgl.out HB.out);clear kgp fgp kgl fgl;clear hw;have kgp:=blk_cell Kgp.out;have fgp:=blk_frozen Kgp.out;have kgl:=blk_cell Kgl.out;have fgl:=blk_frozen Kgl.out) | ((with_reducible refine gate_dst (N:=43) rfl ?_);replace HB : Aside0 (Below w.heap.size w W4):=HB;refine H.get_event (t:=95) (x:=3) (N:=43) (i:=0) rfl rfl rfl [.pointer (some ⟨gp,0,none⟩),.int .i64 1,.int .i64 2,.pointer (some ⟨gp,1,none⟩),.int .i64 1,.int .i64 1048576,.pointer (some ⟨gp,2,none⟩),.int .i64 1,.int .i64 65536,.pointer (some ⟨gp,3,none⟩),.int .i64 1,.int .i64 65536,.pointer (some ⟨gp,6,none⟩),.int .i64 1,.int .i64 1000,.pointer (some ⟨gp,7,none⟩),.int .i64 1,.int .i64 64,.pointer (some ⟨gp,8,none⟩),.int .i64 0,.int .i64 1000,.pointer (some ⟨gp,9,none⟩),.int .i64 1,.int .i64 1000] Kgl.out rfl (by kernel_rfl) Try.underlying95 rfl (by kernel_rfl) ?_))
 clear kgp fgp kgl fgl
 go_loopg [44] 9 (fun kq v44 w' => ∃ j : Nat,v44 = .int .i64 (j : Int) ∧ Aside0 (j ≤ 8 ∧ 8 < kq + j) ∧ Aside0 ((if Pol.chk (Pol.cells p) (Pol.flds1.drop j) = true then (0 : Int) else 40) = r) ∧ Aside0 (w'.heap[gp]? = some (.cells #[.int .i64 1,.int .i64 (p.cap),.int .i64 (p.num),.int .i64 (p.den),.int .i64 0,.int .i64 0,.int .i64 (p.keys),.int .i64 (p.slots),.int .i64 (p.every),.int .i64 (p.seg)] 45 (0,0))) ∧ Aside0 (Below w.heap.size w w'))
 case atStart => exact ⟨0,rfl,⟨by decide,by decide⟩,Hr,Kgp,HB⟩
 case round =>
  clear HB Kgp Kgl Hr
  obtain ⟨j,rfl,hj,Hr,Kgp,HB⟩:=hrel
  obtain ⟨j1,j2⟩:=hj.out
  clear hj
  by_cases hlt : j < 8
  ·obtain ⟨ofs,lo,hi,hf,hof,hex⟩:=fl_at1 gp j hlt
   have hca : (#[.int .i64 1,.int .i64 (p.cap),.int .i64 (p.num),.int .i64 (p.den),.int .i64 0,.int .i64 0,.int .i64 (p.keys),.int .i64 (p.slots),.int .i64 (p.every),.int .i64 (p.seg)] : Array Value)[ofs]? = some (.int .i64 ((Pol.cells p).getD ofs 0)):=by
    have h0:=cell_at p ofs hof
    rw [HK.out,HW.out,HC.out] at h0
    exact h0
   have hch:=Pol.chk_at (cs:=Pol.cells p) hf
   generalize hx : (Pol.cells p).getD ofs 0 = xv at hca hch
   clear hx
   have Hf:=Aside0.mk hca
   have Hx:=Aside0.mk hex
   have Hc:=Aside0.mk hch
   have JL:=Aside0.mk hlt
   have J2:=Aside0.mk j2
   have hlt' : decide ((j : Int) < 8) = true:=decide_eq_true (by omega)
   have hj0 : (0 : Int) ≤ (j : Int):=by omega
   have hj7 : (j : Int) ≤ 7:=by omega
   clear hca hex hch hf hof j1 j2 hlt
   by_cases d1 : xv < lo
   ·have b1:=decide_eq_true d1
    have c1:=Aside0.mk b1
    clear d1
    go_wp2_with (first | ((with_reducible refine gate_dst (N:=46) rfl ?_);refine H.idx_event (t:=95) (e:=94) (x:=43) (y:=44) (N:=46) (j:=j) rfl rfl rfl rfl rfl Try.underlying95 Try.underlying94 rfl (by kernel_rfl) JL.out Hx.out ?_) | ((with_reducible refine gate_dst (N:=6) rfl ?_);replace HB : Aside0 (Below w.heap.size w wr):=HB;refine box_event ?hg (N:=6) ?hd (cs:=#[.pointer none,.int .i64 0,.int .i64 0]) (t:=94) ?hr ?_;(case hd => rfl);(case hg => rfl);(case hr => first | (go_simp;done) | (go_simp;rfl));intro gx hg W101 hbox hb;have Lgx : Aside0 (w.heap.size ≤ gx):=Aside0.mk (by rw [hg];exact below_size HB.out);have Ngp_gx : Aside0 (gp ≠ gx):=Aside0.mk (by rw [hg];exact Nat.ne_of_lt (blk_lt Kgp.out));have Ngx_gp : Aside0 (gx ≠ gp):=Aside0.mk (fun e => Ngp_gx.out e.symm);replace Kgp:=Aside0.mk (blk_below Kgp.out hb);replace HB : Aside0 (Below w.heap.size w W101):=Aside0.mk (below_step HB.out hb);have Kgx : Aside0 (W101.heap[gx]? = some (.cells #[.pointer none,.int .i64 0,.int .i64 0] 94 (0,0))):=Aside0.mk hbox;clear hb hbox hg;have kgp:=blk_cell Kgp.out;have fgp:=blk_frozen Kgp.out;have kgx:=blk_cell Kgx.out;have fgx:=blk_frozen Kgx.out) | ((with_reducible refine gate_store (t:=94) (p:=6) rfl ?_);replace HB : Aside0 (Below w.heap.size w W101):=HB;refine H.put_event (t:=94) (p:=6) (i:=0) rfl rfl rfl [.pointer (some ⟨gp,ofs,none⟩),.int .i64 lo,.int .i64 hi] Kgx.out rfl rfl (by kernel_rfl) (by kernel_rfl) (by kernel_rfl) ?_;intro W102 hw;replace Kgp:=Aside0.mk (H.far_fill hw Ngp_gx.out Kgp.out);replace Kgx : Aside0 (W102.heap[gx]? = some (.cells #[.pointer (some ⟨gp,ofs,none⟩),.int .i64 lo,.int .i64 hi] 94 (0,0))):=Aside0.mk (H.blk_fill hw Kgx.out (by kernel_rfl));replace HB : Aside0 (Below w.heap.size w W102):=Aside0.mk (H.below_fill hw Lgx.out HB.out);clear kgp fgp kgx fgx;clear hw;have kgp:=blk_cell Kgp.out;have fgp:=blk_frozen Kgp.out;have kgx:=blk_cell Kgx.out;have fgx:=blk_frozen Kgx.out))
    replace Kgp:=Aside0.mk (blk_drew Kgp.out); 
    replace Kgx:=Aside0.mk (blk_drew Kgx.out); 
    replace HB:=Aside0.mk (below_drew1 HB.out); 
    clear kgp fgp kgx fgx
    refine start_ (n:=16) (S:=fun w' => w'.cell? ⟨gx,0,none⟩ = some (.pointer (some ⟨gp,ofs,none⟩)) ∧ w'.cell? ⟨gp,ofs,none⟩ = some (.int .i64 xv) ∧ w'.cell? ⟨gx,1,none⟩ = some (.int .i64 lo) ∧ w'.cell? ⟨gx,2,none⟩ = some (.int .i64 hi)) (ds:=[]) #[false,false,false,false,false,false,false,false,false,false,false,false,false,false,false,false] (by kernel_rfl) rfl rfl ⟨(blk_cell Kgx.out 0).trans rfl,(blk_cell Kgp.out ofs).trans Hf.out,(blk_cell Kgx.out 1).trans rfl,(blk_cell Kgx.out 2).trans rfl⟩ (fun hHeld => ?_)
    refine with_tabW t64_7.tab t64_7.bits (fun HT_ HW_ => ?_)
    generalize W102.drew = W103 at Kgp Kgx HB hHeld ⊢
    refine pure_ (i:=0) (N:=some 47) (v:=?_) (a':=?_) #[true,false,false,false,false,false,false,false,false,false,false,false,false,false,false,false] rfl rfl (any_of HT_.out (by kernel_rfl)) (fun _ _ _ h => h) (Or.inl ⟨by rfl,?_⟩) ?_ ?_
    rotate_left
    ·intro w'
     go_simp
     with_reducible rfl
    rotate_left
    ·simp only [Act.put,zA,zB,zC,i64_w,i32_w]
     rfl
    refine pure_ (i:=4) (N:=some 51) (v:=?_) (a':=?_) #[true,false,false,false,true,false,false,false,false,false,false,false,false,false,false,false] rfl rfl (any_of HT_.out (by kernel_rfl)) (fun _ _ _ h => h) (Or.inl ⟨by rfl,?_⟩) ?_ ?_
    rotate_left
    ·intro w'
     go_simp
     with_reducible rfl
    rotate_left
    ·simp only [Act.put,zA,zB,zC,i64_w,i32_w]
     rfl
    refine take_ (i:=1) (N:=some 48) (v:=?_) (a':=?_) #[true,true,false,false,true,false,false,false,false,false,false,false,false,false,false,false] rfl rfl (take_ofW HT_.out HW_.out (by kernel_rfl)) (fun _ _ _ h => h) (Or.inl ⟨by rfl,?_⟩) hHeld ?_ ?_
    rotate_left
    ·rintro w' ⟨s0,s1,s2,s3⟩
     go_simp
     with_reducible rfl
    rotate_left
    ·simp only [Act.put,zA,zB,zC,i64_w,i32_w]
     rfl
    refine pure_ (i:=2) (N:=some 49) (v:=?_) (a':=?_) #[true,true,true,false,true,false,false,false,false,false,false,false,false,false,false,false] rfl rfl (any_of HT_.out (by kernel_rfl)) (fun _ _ _ h => h) (Or.inl ⟨by rfl,?_⟩) ?_ ?_
    rotate_left
    ·intro w'
     go_simp
     with_reducible rfl
    rotate_left
    ·simp only [Act.put,zA,zB,zC,i64_w,i32_w]
     rfl
    refine take_ (i:=3) (N:=some 50) (v:=?_) (a':=?_) #[true,true,true,true,true,false,false,false,false,false,false,false,false,false,false,false] rfl rfl (take_ofW HT_.out HW_.out (by kernel_rfl)) (fun _ _ _ h => h) (Or.inl ⟨by rfl,?_⟩) hHeld ?_ ?_
    rotate_left
    ·rintro w' ⟨s0,s1,s2,s3⟩
     go_simp
     with_reducible rfl
    rotate_left
    ·simp only [Act.put,zA,zB,zC,i64_w,i32_w]
     rfl
    refine take_ (i:=5) (N:=some 52) (v:=?_) (a':=?_) #[true,true,true,true,true,true,false,false,false,false,false,false,false,false,false,false] rfl rfl (take_ofW HT_.out HW_.out (by kernel_rfl)) (fun _ _ _ h => h) (Or.inl ⟨by rfl,?_⟩) hHeld ?_ ?_
    rotate_left
    ·rintro w' ⟨s0,s1,s2,s3⟩
     go_simp
     with_reducible rfl
    rotate_left
    ·simp only [Act.put,zA,zB,zC,i64_w,i32_w]
     rfl
    refine pure_ (i:=6) (N:=some 53) (v:=?_) (a':=?_) #[true,true,true,true,true,true,true,false,false,false,false,false,false,false,false,false] rfl rfl (any_of HT_.out (by kernel_rfl)) (fun _ _ _ h => h) (Or.inl ⟨by rfl,?_⟩) ?_ ?_
    rotate_left
    ·intro w'
     go_simp
     with_reducible rfl
    rotate_left
    ·simp only [Act.put,zA,zB,zC,i64_w,i32_w]
     rfl
    refine pure_ (i:=7) (N:=some 54) (v:=?_) (a':=?_) #[true,true,true,true,true,true,true,true,false,false,false,false,false,false,false,false] rfl rfl (any_of HT_.out (by kernel_rfl)) (fun _ _ _ h => h) (Or.inl ⟨by rfl,?_⟩) ?_ ?_
    rotate_left
    ·intro w'
     go_simp
     with_reducible rfl
    rotate_left
    ·simp only [Act.put,zA,zB,zC,i64_w,i32_w]
     rfl
    refine pure_ (i:=8) (N:=some 55) (v:=undef) (a':=?_) #[true,true,true,true,true,true,true,true,true,false,false,false,false,false,false,false] rfl rfl (any_of HT_.out (by kernel_rfl)) (fun _ _ _ h => h) (Or.inr ⟨by rfl,rfl⟩) ?_ ?_
    rotate_left
    ·simp only [Act.put,zA,zB,zC,i64_w,i32_w]
     rfl
    refine pure_ (i:=9) (N:=some 56) (v:=undef) (a':=?_) #[true,true,true,true,true,true,true,true,true,true,false,false,false,false,false,false] rfl rfl (any_of HT_.out (by kernel_rfl)) (fun _ _ _ h => h) (Or.inr ⟨by rfl,rfl⟩) ?_ ?_
    rotate_left
    ·simp only [Act.put,zA,zB,zC,i64_w,i32_w]
     rfl
    refine pure_ (i:=10) (N:=some 57) (v:=undef) (a':=?_) #[true,true,true,true,true,true,true,true,true,true,true,false,false,false,false,false] rfl rfl (any_of HT_.out (by kernel_rfl)) (fun _ _ _ h => h) (Or.inr ⟨by rfl,rfl⟩) ?_ ?_
    rotate_left
    ·simp only [Act.put,zA,zB,zC,i64_w,i32_w]
     rfl
    refine pure_ (i:=11) (N:=some 58) (v:=undef) (a':=?_) #[true,true,true,true,true,true,true,true,true,true,true,true,false,false,false,false] rfl rfl (any_of HT_.out (by kernel_rfl)) (fun _ _ _ h => h) (Or.inr ⟨by rfl,rfl⟩) ?_ ?_
    rotate_left
    ·simp only [Act.put,zA,zB,zC,i64_w,i32_w]
     rfl
    refine pure_ (i:=12) (N:=some 59) (v:=undef) (a':=?_) #[true,true,true,true,true,true,true,true,true,true,true,true,true,false,false,false] rfl rfl (any_of HT_.out (by kernel_rfl)) (fun _ _ _ h => h) (Or.inr ⟨by rfl,rfl⟩) ?_ ?_
    rotate_left
    ·simp only [Act.put,zA,zB,zC,i64_w,i32_w]
     rfl
    refine pure_ (i:=13) (N:=some 60) (v:=undef) (a':=?_) #[true,true,true,true,true,true,true,true,true,true,true,true,true,true,false,false] rfl rfl (any_of HT_.out (by kernel_rfl)) (fun _ _ _ h => h) (Or.inr ⟨by rfl,rfl⟩) ?_ ?_
    rotate_left
    ·simp only [Act.put,zA,zB,zC,i64_w,i32_w]
     rfl
    refine pure_ (i:=14) (N:=some 61) (v:=undef) (a':=?_) #[true,true,true,true,true,true,true,true,true,true,true,true,true,true,true,false] rfl rfl (any_of HT_.out (by kernel_rfl)) (fun _ _ _ h => h) (Or.inr ⟨by rfl,rfl⟩) ?_ ?_
    rotate_left
    ·simp only [Act.put,zA,zB,zC,i64_w,i32_w]
     rfl
    refine pure_ (i:=15) (N:=some 62) (v:=?_) (a':=?_) #[true,true,true,true,true,true,true,true,true,true,true,true,true,true,true,true] rfl rfl (any_of HT_.out (by kernel_rfl)) (fun _ _ _ h => h) (Or.inl ⟨by rfl,?_⟩) ?_ ?_
    rotate_left
    ·intro w'
     go_simp
     with_reducible rfl
    rotate_left
    ·simp only [Act.put,zA,zB,zC,i64_w,i32_w]
     rfl
    refine done_ (done_of HT_.out (by kernel_rfl)) ?_
    try go_wp2
    go_ret
    have e:=Hr.out
    rw [Hc.out,show Pol.inB xv lo hi = false by unfold Pol.inB;exact decide_eq_false (by have:=of_decide_eq_true c1.out;omega)] at e
    exact ⟨by rw [← e];rfl,HB.out⟩
   ·by_cases d2 : hi < xv
    ·have b1:=decide_eq_false d1
     have b2:=decide_eq_true d2
     have c2:=Aside0.mk b2
     clear d1 d2
     go_wp2_with (first | ((with_reducible refine gate_dst (N:=46) rfl ?_);refine H.idx_event (t:=95) (e:=94) (x:=43) (y:=44) (N:=46) (j:=j) rfl rfl rfl rfl rfl Try.underlying95 Try.underlying94 rfl (by kernel_rfl) JL.out Hx.out ?_) | ((with_reducible refine gate_dst (N:=6) rfl ?_);replace HB : Aside0 (Below w.heap.size w wr):=HB;refine box_event ?hg (N:=6) ?hd (cs:=#[.pointer none,.int .i64 0,.int .i64 0]) (t:=94) ?hr ?_;(case hd => rfl);(case hg => rfl);(case hr => first | (go_simp;done) | (go_simp;rfl));intro gx hg W101 hbox hb;have Lgx : Aside0 (w.heap.size ≤ gx):=Aside0.mk (by rw [hg];exact below_size HB.out);have Ngp_gx : Aside0 (gp ≠ gx):=Aside0.mk (by rw [hg];exact Nat.ne_of_lt (blk_lt Kgp.out));have Ngx_gp : Aside0 (gx ≠ gp):=Aside0.mk (fun e => Ngp_gx.out e.symm);replace Kgp:=Aside0.mk (blk_below Kgp.out hb);replace HB : Aside0 (Below w.heap.size w W101):=Aside0.mk (below_step HB.out hb);have Kgx : Aside0 (W101.heap[gx]? = some (.cells #[.pointer none,.int .i64 0,.int .i64 0] 94 (0,0))):=Aside0.mk hbox;clear hb hbox hg;have kgp:=blk_cell Kgp.out;have fgp:=blk_frozen Kgp.out;have kgx:=blk_cell Kgx.out;have fgx:=blk_frozen Kgx.out) | ((with_reducible refine gate_store (t:=94) (p:=6) rfl ?_);replace HB : Aside0 (Below w.heap.size w W101):=HB;refine H.put_event (t:=94) (p:=6) (i:=0) rfl rfl rfl [.pointer (some ⟨gp,ofs,none⟩),.int .i64 lo,.int .i64 hi] Kgx.out rfl rfl (by kernel_rfl) (by kernel_rfl) (by kernel_rfl) ?_;intro W102 hw;replace Kgp:=Aside0.mk (H.far_fill hw Ngp_gx.out Kgp.out);replace Kgx : Aside0 (W102.heap[gx]? = some (.cells #[.pointer (some ⟨gp,ofs,none⟩),.int .i64 lo,.int .i64 hi] 94 (0,0))):=Aside0.mk (H.blk_fill hw Kgx.out (by kernel_rfl));replace HB : Aside0 (Below w.heap.size w W102):=Aside0.mk (H.below_fill hw Lgx.out HB.out);clear kgp fgp kgx fgx;clear hw;have kgp:=blk_cell Kgp.out;have fgp:=blk_frozen Kgp.out;have kgx:=blk_cell Kgx.out;have fgx:=blk_frozen Kgx.out))
     replace Kgp:=Aside0.mk (blk_drew Kgp.out); 
     replace Kgx:=Aside0.mk (blk_drew Kgx.out); 
     replace HB:=Aside0.mk (below_drew1 HB.out); 
     clear kgp fgp kgx fgx
     refine start_ (n:=16) (S:=fun w' => w'.cell? ⟨gx,0,none⟩ = some (.pointer (some ⟨gp,ofs,none⟩)) ∧ w'.cell? ⟨gp,ofs,none⟩ = some (.int .i64 xv) ∧ w'.cell? ⟨gx,1,none⟩ = some (.int .i64 lo) ∧ w'.cell? ⟨gx,2,none⟩ = some (.int .i64 hi)) (ds:=[]) #[false,false,false,false,false,false,false,false,false,false,false,false,false,false,false,false] (by kernel_rfl) rfl rfl ⟨(blk_cell Kgx.out 0).trans rfl,(blk_cell Kgp.out ofs).trans Hf.out,(blk_cell Kgx.out 1).trans rfl,(blk_cell Kgx.out 2).trans rfl⟩ (fun hHeld => ?_)
     refine with_tabW t64_7.tab t64_7.bits (fun HT_ HW_ => ?_)
     generalize W102.drew = W103 at Kgp Kgx HB hHeld ⊢
     refine pure_ (i:=0) (N:=some 47) (v:=?_) (a':=?_) #[true,false,false,false,false,false,false,false,false,false,false,false,false,false,false,false] rfl rfl (any_of HT_.out (by kernel_rfl)) (fun _ _ _ h => h) (Or.inl ⟨by rfl,?_⟩) ?_ ?_
     rotate_left
     ·intro w'
      go_simp
      with_reducible rfl
     rotate_left
     ·simp only [Act.put,zA,zB,zC,i64_w,i32_w]
      rfl
     refine pure_ (i:=4) (N:=some 51) (v:=?_) (a':=?_) #[true,false,false,false,true,false,false,false,false,false,false,false,false,false,false,false] rfl rfl (any_of HT_.out (by kernel_rfl)) (fun _ _ _ h => h) (Or.inl ⟨by rfl,?_⟩) ?_ ?_
     rotate_left
     ·intro w'
      go_simp
      with_reducible rfl
     rotate_left
     ·simp only [Act.put,zA,zB,zC,i64_w,i32_w]
      rfl
     refine take_ (i:=1) (N:=some 48) (v:=?_) (a':=?_) #[true,true,false,false,true,false,false,false,false,false,false,false,false,false,false,false] rfl rfl (take_ofW HT_.out HW_.out (by kernel_rfl)) (fun _ _ _ h => h) (Or.inl ⟨by rfl,?_⟩) hHeld ?_ ?_
     rotate_left
     ·rintro w' ⟨s0,s1,s2,s3⟩
      go_simp
      with_reducible rfl
     rotate_left
     ·simp only [Act.put,zA,zB,zC,i64_w,i32_w]
      rfl
     refine pure_ (i:=2) (N:=some 49) (v:=?_) (a':=?_) #[true,true,true,false,true,false,false,false,false,false,false,false,false,false,false,false] rfl rfl (any_of HT_.out (by kernel_rfl)) (fun _ _ _ h => h) (Or.inl ⟨by rfl,?_⟩) ?_ ?_
     rotate_left
     ·intro w'
      go_simp
      with_reducible rfl
     rotate_left
     ·simp only [Act.put,zA,zB,zC,i64_w,i32_w]
      rfl
     refine take_ (i:=3) (N:=some 50) (v:=?_) (a':=?_) #[true,true,true,true,true,false,false,false,false,false,false,false,false,false,false,false] rfl rfl (take_ofW HT_.out HW_.out (by kernel_rfl)) (fun _ _ _ h => h) (Or.inl ⟨by rfl,?_⟩) hHeld ?_ ?_
     rotate_left
     ·rintro w' ⟨s0,s1,s2,s3⟩
      go_simp
      with_reducible rfl
     rotate_left
     ·simp only [Act.put,zA,zB,zC,i64_w,i32_w]
      rfl
     refine take_ (i:=5) (N:=some 52) (v:=?_) (a':=?_) #[true,true,true,true,true,true,false,false,false,false,false,false,false,false,false,false] rfl rfl (take_ofW HT_.out HW_.out (by kernel_rfl)) (fun _ _ _ h => h) (Or.inl ⟨by rfl,?_⟩) hHeld ?_ ?_
     rotate_left
     ·rintro w' ⟨s0,s1,s2,s3⟩
      go_simp
      with_reducible rfl
     rotate_left
     ·simp only [Act.put,zA,zB,zC,i64_w,i32_w]
      rfl
     refine pure_ (i:=6) (N:=some 53) (v:=?_) (a':=?_) #[true,true,true,true,true,true,true,false,false,false,false,false,false,false,false,false] rfl rfl (any_of HT_.out (by kernel_rfl)) (fun _ _ _ h => h) (Or.inl ⟨by rfl,?_⟩) ?_ ?_
     rotate_left
     ·intro w'
      go_simp
      with_reducible rfl
     rotate_left
     ·simp only [Act.put,zA,zB,zC,i64_w,i32_w]
      rfl
     refine pure_ (i:=7) (N:=some 54) (v:=?_) (a':=?_) #[true,true,true,true,true,true,true,true,false,false,false,false,false,false,false,false] rfl rfl (any_of HT_.out (by kernel_rfl)) (fun _ _ _ h => h) (Or.inl ⟨by rfl,?_⟩) ?_ ?_
     rotate_left
     ·intro w'
      go_simp
      with_reducible rfl
     rotate_left
     ·simp only [Act.put,zA,zB,zC,i64_w,i32_w]
      rfl
     refine pure_ (i:=8) (N:=some 55) (v:=?_) (a':=?_) #[true,true,true,true,true,true,true,true,true,false,false,false,false,false,false,false] rfl rfl (any_of HT_.out (by kernel_rfl)) (fun _ _ _ h => h) (Or.inl ⟨by rfl,?_⟩) ?_ ?_
     rotate_left
     ·intro w'
      go_simp
      with_reducible rfl
     rotate_left
     ·simp only [Act.put,zA,zB,zC,i64_w,i32_w]
      rfl
     refine pure_ (i:=12) (N:=some 59) (v:=?_) (a':=?_) #[true,true,true,true,true,true,true,true,true,false,false,false,true,false,false,false] rfl rfl (any_of HT_.out (by kernel_rfl)) (fun _ _ _ h => h) (Or.inl ⟨by rfl,?_⟩) ?_ ?_
     rotate_left
     ·intro w'
      go_simp
      with_reducible rfl
     rotate_left
     ·simp only [Act.put,zA,zB,zC,i64_w,i32_w]
      rfl
     refine take_ (i:=9) (N:=some 56) (v:=?_) (a':=?_) #[true,true,true,true,true,true,true,true,true,true,false,false,true,false,false,false] rfl rfl (take_ofW HT_.out HW_.out (by kernel_rfl)) (fun _ _ _ h => h) (Or.inl ⟨by rfl,?_⟩) hHeld ?_ ?_
     rotate_left
     ·rintro w' ⟨s0,s1,s2,s3⟩
      go_simp
      with_reducible rfl
     rotate_left
     ·simp only [Act.put,zA,zB,zC,i64_w,i32_w]
      rfl
     refine pure_ (i:=10) (N:=some 57) (v:=?_) (a':=?_) #[true,true,true,true,true,true,true,true,true,true,true,false,true,false,false,false] rfl rfl (any_of HT_.out (by kernel_rfl)) (fun _ _ _ h => h) (Or.inl ⟨by rfl,?_⟩) ?_ ?_
     rotate_left
     ·intro w'
      go_simp
      with_reducible rfl
     rotate_left
     ·simp only [Act.put,zA,zB,zC,i64_w,i32_w]
      rfl
     refine take_ (i:=11) (N:=some 58) (v:=?_) (a':=?_) #[true,true,true,true,true,true,true,true,true,true,true,true,true,false,false,false] rfl rfl (take_ofW HT_.out HW_.out (by kernel_rfl)) (fun _ _ _ h => h) (Or.inl ⟨by rfl,?_⟩) hHeld ?_ ?_
     rotate_left
     ·rintro w' ⟨s0,s1,s2,s3⟩
      go_simp
      with_reducible rfl
     rotate_left
     ·simp only [Act.put,zA,zB,zC,i64_w,i32_w]
      rfl
     refine take_ (i:=13) (N:=some 60) (v:=?_) (a':=?_) #[true,true,true,true,true,true,true,true,true,true,true,true,true,true,false,false] rfl rfl (take_ofW HT_.out HW_.out (by kernel_rfl)) (fun _ _ _ h => h) (Or.inl ⟨by rfl,?_⟩) hHeld ?_ ?_
     rotate_left
     ·rintro w' ⟨s0,s1,s2,s3⟩
      go_simp
      with_reducible rfl
     rotate_left
     ·simp only [Act.put,zA,zB,zC,i64_w,i32_w]
      rfl
     refine pure_ (i:=14) (N:=some 61) (v:=?_) (a':=?_) #[true,true,true,true,true,true,true,true,true,true,true,true,true,true,true,false] rfl rfl (any_of HT_.out (by kernel_rfl)) (fun _ _ _ h => h) (Or.inl ⟨by rfl,?_⟩) ?_ ?_
     rotate_left
     ·intro w'
      go_simp
      with_reducible rfl
     rotate_left
     ·simp only [Act.put,zA,zB,zC,i64_w,i32_w]
      rfl
     refine pure_ (i:=15) (N:=some 62) (v:=?_) (a':=?_) #[true,true,true,true,true,true,true,true,true,true,true,true,true,true,true,true] rfl rfl (any_of HT_.out (by kernel_rfl)) (fun _ _ _ h => h) (Or.inl ⟨by rfl,?_⟩) ?_ ?_
     rotate_left
     ·intro w'
      go_simp
      with_reducible rfl
     rotate_left
     ·simp only [Act.put,zA,zB,zC,i64_w,i32_w]
      rfl
     refine done_ (done_of HT_.out (by kernel_rfl)) ?_
     try go_wp2
     go_ret
     have e:=Hr.out
     rw [Hc.out,show Pol.inB xv lo hi = false by unfold Pol.inB;exact decide_eq_false (by have:=of_decide_eq_true c2.out;omega)] at e
     exact ⟨by rw [← e];rfl,HB.out⟩
    ·have b1:=decide_eq_false d1
     have b2:=decide_eq_false d2
     have c1:=Aside0.mk b1
     have c2:=Aside0.mk b2
     clear d1 d2
     go_wp2_with (first | ((with_reducible refine gate_dst (N:=46) rfl ?_);refine H.idx_event (t:=95) (e:=94) (x:=43) (y:=44) (N:=46) (j:=j) rfl rfl rfl rfl rfl Try.underlying95 Try.underlying94 rfl (by kernel_rfl) JL.out Hx.out ?_) | ((with_reducible refine gate_dst (N:=6) rfl ?_);replace HB : Aside0 (Below w.heap.size w wr):=HB;refine box_event ?hg (N:=6) ?hd (cs:=#[.pointer none,.int .i64 0,.int .i64 0]) (t:=94) ?hr ?_;(case hd => rfl);(case hg => rfl);(case hr => first | (go_simp;done) | (go_simp;rfl));intro gx hg W101 hbox hb;have Lgx : Aside0 (w.heap.size ≤ gx):=Aside0.mk (by rw [hg];exact below_size HB.out);have Ngp_gx : Aside0 (gp ≠ gx):=Aside0.mk (by rw [hg];exact Nat.ne_of_lt (blk_lt Kgp.out));have Ngx_gp : Aside0 (gx ≠ gp):=Aside0.mk (fun e => Ngp_gx.out e.symm);replace Kgp:=Aside0.mk (blk_below Kgp.out hb);replace HB : Aside0 (Below w.heap.size w W101):=Aside0.mk (below_step HB.out hb);have Kgx : Aside0 (W101.heap[gx]? = some (.cells #[.pointer none,.int .i64 0,.int .i64 0] 94 (0,0))):=Aside0.mk hbox;clear hb hbox hg;have kgp:=blk_cell Kgp.out;have fgp:=blk_frozen Kgp.out;have kgx:=blk_cell Kgx.out;have fgx:=blk_frozen Kgx.out) | ((with_reducible refine gate_store (t:=94) (p:=6) rfl ?_);replace HB : Aside0 (Below w.heap.size w W101):=HB;refine H.put_event (t:=94) (p:=6) (i:=0) rfl rfl rfl [.pointer (some ⟨gp,ofs,none⟩),.int .i64 lo,.int .i64 hi] Kgx.out rfl rfl (by kernel_rfl) (by kernel_rfl) (by kernel_rfl) ?_;intro W102 hw;replace Kgp:=Aside0.mk (H.far_fill hw Ngp_gx.out Kgp.out);replace Kgx : Aside0 (W102.heap[gx]? = some (.cells #[.pointer (some ⟨gp,ofs,none⟩),.int .i64 lo,.int .i64 hi] 94 (0,0))):=Aside0.mk (H.blk_fill hw Kgx.out (by kernel_rfl));replace HB : Aside0 (Below w.heap.size w W102):=Aside0.mk (H.below_fill hw Lgx.out HB.out);clear kgp fgp kgx fgx;clear hw;have kgp:=blk_cell Kgp.out;have fgp:=blk_frozen Kgp.out;have kgx:=blk_cell Kgx.out;have fgx:=blk_frozen Kgx.out))
     replace Kgp:=Aside0.mk (blk_drew Kgp.out); 
     replace Kgx:=Aside0.mk (blk_drew Kgx.out); 
     replace HB:=Aside0.mk (below_drew1 HB.out); 
     clear kgp fgp kgx fgx
     refine start_ (n:=16) (S:=fun w' => w'.cell? ⟨gx,0,none⟩ = some (.pointer (some ⟨gp,ofs,none⟩)) ∧ w'.cell? ⟨gp,ofs,none⟩ = some (.int .i64 xv) ∧ w'.cell? ⟨gx,1,none⟩ = some (.int .i64 lo) ∧ w'.cell? ⟨gx,2,none⟩ = some (.int .i64 hi)) (ds:=[]) #[false,false,false,false,false,false,false,false,false,false,false,false,false,false,false,false] (by kernel_rfl) rfl rfl ⟨(blk_cell Kgx.out 0).trans rfl,(blk_cell Kgp.out ofs).trans Hf.out,(blk_cell Kgx.out 1).trans rfl,(blk_cell Kgx.out 2).trans rfl⟩ (fun hHeld => ?_)
     refine with_tabW t64_7.tab t64_7.bits (fun HT_ HW_ => ?_)
     generalize W102.drew = W103 at Kgp Kgx HB hHeld ⊢
     refine pure_ (i:=0) (N:=some 47) (v:=?_) (a':=?_) #[true,false,false,false,false,false,false,false,false,false,false,false,false,false,false,false] rfl rfl (any_of HT_.out (by kernel_rfl)) (fun _ _ _ h => h) (Or.inl ⟨by rfl,?_⟩) ?_ ?_
     rotate_left
     ·intro w'
      go_simp
      with_reducible rfl
     rotate_left
     ·simp only [Act.put,zA,zB,zC,i64_w,i32_w]
      rfl
     refine pure_ (i:=4) (N:=some 51) (v:=?_) (a':=?_) #[true,false,false,false,true,false,false,false,false,false,false,false,false,false,false,false] rfl rfl (any_of HT_.out (by kernel_rfl)) (fun _ _ _ h => h) (Or.inl ⟨by rfl,?_⟩) ?_ ?_
     rotate_left
     ·intro w'
      go_simp
      with_reducible rfl
     rotate_left
     ·simp only [Act.put,zA,zB,zC,i64_w,i32_w]
      rfl
     refine take_ (i:=1) (N:=some 48) (v:=?_) (a':=?_) #[true,true,false,false,true,false,false,false,false,false,false,false,false,false,false,false] rfl rfl (take_ofW HT_.out HW_.out (by kernel_rfl)) (fun _ _ _ h => h) (Or.inl ⟨by rfl,?_⟩) hHeld ?_ ?_
     rotate_left
     ·rintro w' ⟨s0,s1,s2,s3⟩
      go_simp
      with_reducible rfl
     rotate_left
     ·simp only [Act.put,zA,zB,zC,i64_w,i32_w]
      rfl
     refine pure_ (i:=2) (N:=some 49) (v:=?_) (a':=?_) #[true,true,true,false,true,false,false,false,false,false,false,false,false,false,false,false] rfl rfl (any_of HT_.out (by kernel_rfl)) (fun _ _ _ h => h) (Or.inl ⟨by rfl,?_⟩) ?_ ?_
     rotate_left
     ·intro w'
      go_simp
      with_reducible rfl
     rotate_left
     ·simp only [Act.put,zA,zB,zC,i64_w,i32_w]
      rfl
     refine take_ (i:=3) (N:=some 50) (v:=?_) (a':=?_) #[true,true,true,true,true,false,false,false,false,false,false,false,false,false,false,false] rfl rfl (take_ofW HT_.out HW_.out (by kernel_rfl)) (fun _ _ _ h => h) (Or.inl ⟨by rfl,?_⟩) hHeld ?_ ?_
     rotate_left
     ·rintro w' ⟨s0,s1,s2,s3⟩
      go_simp
      with_reducible rfl
     rotate_left
     ·simp only [Act.put,zA,zB,zC,i64_w,i32_w]
      rfl
     refine take_ (i:=5) (N:=some 52) (v:=?_) (a':=?_) #[true,true,true,true,true,true,false,false,false,false,false,false,false,false,false,false] rfl rfl (take_ofW HT_.out HW_.out (by kernel_rfl)) (fun _ _ _ h => h) (Or.inl ⟨by rfl,?_⟩) hHeld ?_ ?_
     rotate_left
     ·rintro w' ⟨s0,s1,s2,s3⟩
      go_simp
      with_reducible rfl
     rotate_left
     ·simp only [Act.put,zA,zB,zC,i64_w,i32_w]
      rfl
     refine pure_ (i:=6) (N:=some 53) (v:=?_) (a':=?_) #[true,true,true,true,true,true,true,false,false,false,false,false,false,false,false,false] rfl rfl (any_of HT_.out (by kernel_rfl)) (fun _ _ _ h => h) (Or.inl ⟨by rfl,?_⟩) ?_ ?_
     rotate_left
     ·intro w'
      go_simp
      with_reducible rfl
     rotate_left
     ·simp only [Act.put,zA,zB,zC,i64_w,i32_w]
      rfl
     refine pure_ (i:=7) (N:=some 54) (v:=?_) (a':=?_) #[true,true,true,true,true,true,true,true,false,false,false,false,false,false,false,false] rfl rfl (any_of HT_.out (by kernel_rfl)) (fun _ _ _ h => h) (Or.inl ⟨by rfl,?_⟩) ?_ ?_
     rotate_left
     ·intro w'
      go_simp
      with_reducible rfl
     rotate_left
     ·simp only [Act.put,zA,zB,zC,i64_w,i32_w]
      rfl
     refine pure_ (i:=8) (N:=some 55) (v:=?_) (a':=?_) #[true,true,true,true,true,true,true,true,true,false,false,false,false,false,false,false] rfl rfl (any_of HT_.out (by kernel_rfl)) (fun _ _ _ h => h) (Or.inl ⟨by rfl,?_⟩) ?_ ?_
     rotate_left
     ·intro w'
      go_simp
      with_reducible rfl
     rotate_left
     ·simp only [Act.put,zA,zB,zC,i64_w,i32_w]
      rfl
     refine pure_ (i:=12) (N:=some 59) (v:=?_) (a':=?_) #[true,true,true,true,true,true,true,true,true,false,false,false,true,false,false,false] rfl rfl (any_of HT_.out (by kernel_rfl)) (fun _ _ _ h => h) (Or.inl ⟨by rfl,?_⟩) ?_ ?_
     rotate_left
     ·intro w'
      go_simp
      with_reducible rfl
     rotate_left
     ·simp only [Act.put,zA,zB,zC,i64_w,i32_w]
      rfl
     refine take_ (i:=9) (N:=some 56) (v:=?_) (a':=?_) #[true,true,true,true,true,true,true,true,true,true,false,false,true,false,false,false] rfl rfl (take_ofW HT_.out HW_.out (by kernel_rfl)) (fun _ _ _ h => h) (Or.inl ⟨by rfl,?_⟩) hHeld ?_ ?_
     rotate_left
     ·rintro w' ⟨s0,s1,s2,s3⟩
      go_simp
      with_reducible rfl
     rotate_left
     ·simp only [Act.put,zA,zB,zC,i64_w,i32_w]
      rfl
     refine pure_ (i:=10) (N:=some 57) (v:=?_) (a':=?_) #[true,true,true,true,true,true,true,true,true,true,true,false,true,false,false,false] rfl rfl (any_of HT_.out (by kernel_rfl)) (fun _ _ _ h => h) (Or.inl ⟨by rfl,?_⟩) ?_ ?_
     rotate_left
     ·intro w'
      go_simp
      with_reducible rfl
     rotate_left
     ·simp only [Act.put,zA,zB,zC,i64_w,i32_w]
      rfl
     refine take_ (i:=11) (N:=some 58) (v:=?_) (a':=?_) #[true,true,true,true,true,true,true,true,true,true,true,true,true,false,false,false] rfl rfl (take_ofW HT_.out HW_.out (by kernel_rfl)) (fun _ _ _ h => h) (Or.inl ⟨by rfl,?_⟩) hHeld ?_ ?_
     rotate_left
     ·rintro w' ⟨s0,s1,s2,s3⟩
      go_simp
      with_reducible rfl
     rotate_left
     ·simp only [Act.put,zA,zB,zC,i64_w,i32_w]
      rfl
     refine take_ (i:=13) (N:=some 60) (v:=?_) (a':=?_) #[true,true,true,true,true,true,true,true,true,true,true,true,true,true,false,false] rfl rfl (take_ofW HT_.out HW_.out (by kernel_rfl)) (fun _ _ _ h => h) (Or.inl ⟨by rfl,?_⟩) hHeld ?_ ?_
     rotate_left
     ·rintro w' ⟨s0,s1,s2,s3⟩
      go_simp
      with_reducible rfl
     rotate_left
     ·simp only [Act.put,zA,zB,zC,i64_w,i32_w]
      rfl
     refine pure_ (i:=14) (N:=some 61) (v:=?_) (a':=?_) #[true,true,true,true,true,true,true,true,true,true,true,true,true,true,true,false] rfl rfl (any_of HT_.out (by kernel_rfl)) (fun _ _ _ h => h) (Or.inl ⟨by rfl,?_⟩) ?_ ?_
     rotate_left
     ·intro w'
      go_simp
      with_reducible rfl
     rotate_left
     ·simp only [Act.put,zA,zB,zC,i64_w,i32_w]
      rfl
     refine pure_ (i:=15) (N:=some 62) (v:=?_) (a':=?_) #[true,true,true,true,true,true,true,true,true,true,true,true,true,true,true,true] rfl rfl (any_of HT_.out (by kernel_rfl)) (fun _ _ _ h => h) (Or.inl ⟨by rfl,?_⟩) ?_ ?_
     rotate_left
     ·intro w'
      go_simp
      with_reducible rfl
     rotate_left
     ·simp only [Act.put,zA,zB,zC,i64_w,i32_w]
      rfl
     refine done_ (done_of HT_.out (by kernel_rfl)) ?_
     try go_wp2
     go_roundg (gk - 1)
     case measure => have:=J2.out;have:=JL.out;omega
     case rel =>
      have e:=Hr.out
      rw [Hc.out,show Pol.inB xv lo hi = true by unfold Pol.inB;exact decide_eq_true (by have:=of_decide_eq_false c1.out;have:=of_decide_eq_false c2.out;omega),Bool.true_and] at e
      exact ⟨j + 1,by go_num,⟨by have:=JL.out;omega,by have:=J2.out;have:=JL.out;omega⟩,⟨e⟩,Kgp,HB⟩
  ·obtain rfl : 8 = j:=by omega
   have e:=Hr.out
   rw [show Pol.chk (Pol.cells p) (Pol.flds1.drop 8) = true from rfl,if_pos rfl] at e
   subst e
   clear hlt j1 j2 Hr
   go_wp2_with fail
   go_ret
   exact ⟨rfl,HB.out⟩
set_option maxHeartbeats 1000000 in
set_option maxRecDepth 100000 in
theorem right_loop2 (p : Pol.Py) (w : World) (hk : p.kind = 2) (hw : p.num = 0) (hc : p.den = 0) :
  Calls Try.prog 64 #[.agg #[.int .i64 2,.int .i64 (p.cap),.int .i64 0,.int .i64 0,.int .i64 (p.width),.int .i64 (p.count),.int .i64 (p.keys),.int .i64 (p.slots),.int .i64 (p.every),.int .i64 (p.seg)]] w fun e w' => e = .returned (.int .i64 (if Pol.chk (Pol.cells p) Pol.flds2 = true then 0 else 40)) ∧ Below w.heap.size w w':=by
 have HK:=Aside0.mk hk
 have HW:=Aside0.mk hw
 have HC:=Aside0.mk hc
 clear hk hw hc
 generalize hr : (if Pol.chk (Pol.cells p) Pol.flds2 = true then (0 : Int) else 40) = r
 have Hr:=Aside0.mk hr
 clear hr
 have HB:=Aside0.mk (Below.refl w.heap.size w)
 go_enter Try.func64,Try.ntmps64
 go_wp2_with (first | ((with_reducible refine gate_dst (N:=1) rfl ?_);replace HB : Aside0 (Below w.heap.size w w):=HB;refine box_event ?hg (N:=1) ?hd (cs:=#[.int .i64 2,.int .i64 (p.cap),.int .i64 0,.int .i64 0,.int .i64 (p.width),.int .i64 (p.count),.int .i64 (p.keys),.int .i64 (p.slots),.int .i64 (p.every),.int .i64 (p.seg)]) (t:=45) ?hr ?_;(case hd => rfl);(case hg => rfl);(case hr => first | (go_simp;done) | (go_simp;rfl));intro gp hg W1 hbox hb;have Lgp : Aside0 (w.heap.size ≤ gp):=Aside0.mk (by rw [hg];exact below_size HB.out);replace HB : Aside0 (Below w.heap.size w W1):=Aside0.mk (below_step HB.out hb);have Kgp : Aside0 (W1.heap[gp]? = some (.cells #[.int .i64 2,.int .i64 (p.cap),.int .i64 0,.int .i64 0,.int .i64 (p.width),.int .i64 (p.count),.int .i64 (p.keys),.int .i64 (p.slots),.int .i64 (p.every),.int .i64 (p.seg)] 45 (0,0))):=Aside0.mk hbox;clear hb hbox hg;have kgp:=blk_cell Kgp.out;have fgp:=blk_frozen Kgp.out) | (go_at_call 74;replace HB : Aside0 (Below w.heap.size w W1):=HB;(with_reducible refine (fields_2 gp _ ((blk_cell Kgp.out 0).trans rfl)).mono ?_);rintro e W2 ⟨rfl,hb⟩;replace Kgp:=Aside0.mk (blk_below Kgp.out hb);replace HB : Aside0 (Below w.heap.size w W2):=Aside0.mk (below_step HB.out hb);clear kgp fgp;clear hb;have kgp:=blk_cell Kgp.out;have fgp:=blk_frozen Kgp.out) | ((with_reducible refine gate_dst (N:=3) rfl ?_);replace HB : Aside0 (Below w.heap.size w W2):=HB;refine box_event ?hg (N:=3) ?hd (cs:=#[.pointer none,.int .i64 0,.int .i64 0,.pointer none,.int .i64 0,.int .i64 0,.pointer none,.int .i64 0,.int .i64 0,.pointer none,.int .i64 0,.int .i64 0,.pointer none,.int .i64 0,.int .i64 0,.pointer none,.int .i64 0,.int .i64 0,.pointer none,.int .i64 0,.int .i64 0,.pointer none,.int .i64 0,.int .i64 0]) (t:=95) ?hr ?_;(case hd => rfl);(case hg => rfl);(case hr => first | (go_simp;done) | (go_simp;rfl));intro gl hg W3 hbox hb;have Lgl : Aside0 (w.heap.size ≤ gl):=Aside0.mk (by rw [hg];exact below_size HB.out);have Ngp_gl : Aside0 (gp ≠ gl):=Aside0.mk (by rw [hg];exact Nat.ne_of_lt (blk_lt Kgp.out));have Ngl_gp : Aside0 (gl ≠ gp):=Aside0.mk (fun e => Ngp_gl.out e.symm);replace Kgp:=Aside0.mk (blk_below Kgp.out hb);replace HB : Aside0 (Below w.heap.size w W3):=Aside0.mk (below_step HB.out hb);clear kgp fgp;have Kgl : Aside0 (W3.heap[gl]? = some (.cells #[.pointer none,.int .i64 0,.int .i64 0,.pointer none,.int .i64 0,.int .i64 0,.pointer none,.int .i64 0,.int .i64 0,.pointer none,.int .i64 0,.int .i64 0,.pointer none,.int .i64 0,.int .i64 0,.pointer none,.int .i64 0,.int .i64 0,.pointer none,.int .i64 0,.int .i64 0,.pointer none,.int .i64 0,.int .i64 0] 95 (0,0))):=Aside0.mk hbox;clear hb hbox hg;have kgp:=blk_cell Kgp.out;have fgp:=blk_frozen Kgp.out;have kgl:=blk_cell Kgl.out;have fgl:=blk_frozen Kgl.out) | ((with_reducible refine gate_store (t:=95) (p:=3) rfl ?_);replace HB : Aside0 (Below w.heap.size w W3):=HB;refine H.put_event (t:=95) (p:=3) (i:=0) rfl rfl rfl [.pointer (some ⟨gp,0,none⟩),.int .i64 1,.int .i64 2,.pointer (some ⟨gp,1,none⟩),.int .i64 1,.int .i64 1048576,.pointer (some ⟨gp,4,none⟩),.int .i64 1,.int .i64 1048576,.pointer (some ⟨gp,5,none⟩),.int .i64 1,.int .i64 32,.pointer (some ⟨gp,6,none⟩),.int .i64 1,.int .i64 1000,.pointer (some ⟨gp,7,none⟩),.int .i64 1,.int .i64 64,.pointer (some ⟨gp,8,none⟩),.int .i64 0,.int .i64 1000,.pointer (some ⟨gp,9,none⟩),.int .i64 1,.int .i64 1000] Kgl.out rfl rfl (by kernel_rfl) (by kernel_rfl) (by kernel_rfl) ?_;intro W4 hw;replace Kgp:=Aside0.mk (H.far_fill hw Ngp_gl.out Kgp.out);replace Kgl : Aside0 (W4.heap[gl]? = some (.cells #[.pointer (some ⟨gp,0,none⟩),.int .i64 1,.int .i64 2,.pointer (some ⟨gp,1,none⟩),.int .i64 1,.int .i64 1048576,.pointer (some ⟨gp,4,none⟩),.int .i64 1,.int .i64 1048576,.pointer (some ⟨gp,5,none⟩),.int .i64 1,.int .i64 32,.pointer (some ⟨gp,6,none⟩),.int .i64 1,.int .i64 1000,.pointer (some ⟨gp,7,none⟩),.int .i64 1,.int .i64 64,.pointer (some ⟨gp,8,none⟩),.int .i64 0,.int .i64 1000,.pointer (some ⟨gp,9,none⟩),.int .i64 1,.int .i64 1000] 95 (0,0))):=Aside0.mk (H.blk_fill hw Kgl.out (by kernel_rfl));replace HB : Aside0 (Below w.heap.size w W4):=Aside0.mk (H.below_fill hw Lgl.out HB.out);clear kgp fgp kgl fgl;clear hw;have kgp:=blk_cell Kgp.out;have fgp:=blk_frozen Kgp.out;have kgl:=blk_cell Kgl.out;have fgl:=blk_frozen Kgl.out) | ((with_reducible refine gate_dst (N:=43) rfl ?_);replace HB : Aside0 (Below w.heap.size w W4):=HB;refine H.get_event (t:=95) (x:=3) (N:=43) (i:=0) rfl rfl rfl [.pointer (some ⟨gp,0,none⟩),.int .i64 1,.int .i64 2,.pointer (some ⟨gp,1,none⟩),.int .i64 1,.int .i64 1048576,.pointer (some ⟨gp,4,none⟩),.int .i64 1,.int .i64 1048576,.pointer (some ⟨gp,5,none⟩),.int .i64 1,.int .i64 32,.pointer (some ⟨gp,6,none⟩),.int .i64 1,.int .i64 1000,.pointer (some ⟨gp,7,none⟩),.int .i64 1,.int .i64 64,.pointer (some ⟨gp,8,none⟩),.int .i64 0,.int .i64 1000,.pointer (some ⟨gp,9,none⟩),.int .i64 1,.int .i64 1000] Kgl.out rfl (by kernel_rfl) Try.underlying95 rfl (by kernel_rfl) ?_))
 clear kgp fgp kgl fgl
 go_loopg [44] 9 (fun kq v44 w' => ∃ j : Nat,v44 = .int .i64 (j : Int) ∧ Aside0 (j ≤ 8 ∧ 8 < kq + j) ∧ Aside0 ((if Pol.chk (Pol.cells p) (Pol.flds2.drop j) = true then (0 : Int) else 40) = r) ∧ Aside0 (w'.heap[gp]? = some (.cells #[.int .i64 2,.int .i64 (p.cap),.int .i64 0,.int .i64 0,.int .i64 (p.width),.int .i64 (p.count),.int .i64 (p.keys),.int .i64 (p.slots),.int .i64 (p.every),.int .i64 (p.seg)] 45 (0,0))) ∧ Aside0 (Below w.heap.size w w'))
 case atStart => exact ⟨0,rfl,⟨by decide,by decide⟩,Hr,Kgp,HB⟩
 case round =>
  clear HB Kgp Kgl Hr
  obtain ⟨j,rfl,hj,Hr,Kgp,HB⟩:=hrel
  obtain ⟨j1,j2⟩:=hj.out
  clear hj
  by_cases hlt : j < 8
  ·obtain ⟨ofs,lo,hi,hf,hof,hex⟩:=fl_at2 gp j hlt
   have hca : (#[.int .i64 2,.int .i64 (p.cap),.int .i64 0,.int .i64 0,.int .i64 (p.width),.int .i64 (p.count),.int .i64 (p.keys),.int .i64 (p.slots),.int .i64 (p.every),.int .i64 (p.seg)] : Array Value)[ofs]? = some (.int .i64 ((Pol.cells p).getD ofs 0)):=by
    have h0:=cell_at p ofs hof
    rw [HK.out,HW.out,HC.out] at h0
    exact h0
   have hch:=Pol.chk_at (cs:=Pol.cells p) hf
   generalize hx : (Pol.cells p).getD ofs 0 = xv at hca hch
   clear hx
   have Hf:=Aside0.mk hca
   have Hx:=Aside0.mk hex
   have Hc:=Aside0.mk hch
   have JL:=Aside0.mk hlt
   have J2:=Aside0.mk j2
   have hlt' : decide ((j : Int) < 8) = true:=decide_eq_true (by omega)
   have hj0 : (0 : Int) ≤ (j : Int):=by omega
   have hj7 : (j : Int) ≤ 7:=by omega
   clear hca hex hch hf hof j1 j2 hlt
   by_cases d1 : xv < lo
   ·have b1:=decide_eq_true d1
    have c1:=Aside0.mk b1
    clear d1
    go_wp2_with (first | ((with_reducible refine gate_dst (N:=46) rfl ?_);refine H.idx_event (t:=95) (e:=94) (x:=43) (y:=44) (N:=46) (j:=j) rfl rfl rfl rfl rfl Try.underlying95 Try.underlying94 rfl (by kernel_rfl) JL.out Hx.out ?_) | ((with_reducible refine gate_dst (N:=6) rfl ?_);replace HB : Aside0 (Below w.heap.size w wr):=HB;refine box_event ?hg (N:=6) ?hd (cs:=#[.pointer none,.int .i64 0,.int .i64 0]) (t:=94) ?hr ?_;(case hd => rfl);(case hg => rfl);(case hr => first | (go_simp;done) | (go_simp;rfl));intro gx hg W101 hbox hb;have Lgx : Aside0 (w.heap.size ≤ gx):=Aside0.mk (by rw [hg];exact below_size HB.out);have Ngp_gx : Aside0 (gp ≠ gx):=Aside0.mk (by rw [hg];exact Nat.ne_of_lt (blk_lt Kgp.out));have Ngx_gp : Aside0 (gx ≠ gp):=Aside0.mk (fun e => Ngp_gx.out e.symm);replace Kgp:=Aside0.mk (blk_below Kgp.out hb);replace HB : Aside0 (Below w.heap.size w W101):=Aside0.mk (below_step HB.out hb);have Kgx : Aside0 (W101.heap[gx]? = some (.cells #[.pointer none,.int .i64 0,.int .i64 0] 94 (0,0))):=Aside0.mk hbox;clear hb hbox hg;have kgp:=blk_cell Kgp.out;have fgp:=blk_frozen Kgp.out;have kgx:=blk_cell Kgx.out;have fgx:=blk_frozen Kgx.out) | ((with_reducible refine gate_store (t:=94) (p:=6) rfl ?_);replace HB : Aside0 (Below w.heap.size w W101):=HB;refine H.put_event (t:=94) (p:=6) (i:=0) rfl rfl rfl [.pointer (some ⟨gp,ofs,none⟩),.int .i64 lo,.int .i64 hi] Kgx.out rfl rfl (by kernel_rfl) (by kernel_rfl) (by kernel_rfl) ?_;intro W102 hw;replace Kgp:=Aside0.mk (H.far_fill hw Ngp_gx.out Kgp.out);replace Kgx : Aside0 (W102.heap[gx]? = some (.cells #[.pointer (some ⟨gp,ofs,none⟩),.int .i64 lo,.int .i64 hi] 94 (0,0))):=Aside0.mk (H.blk_fill hw Kgx.out (by kernel_rfl));replace HB : Aside0 (Below w.heap.size w W102):=Aside0.mk (H.below_fill hw Lgx.out HB.out);clear kgp fgp kgx fgx;clear hw;have kgp:=blk_cell Kgp.out;have fgp:=blk_frozen Kgp.out;have kgx:=blk_cell Kgx.out;have fgx:=blk_frozen Kgx.out))
    replace Kgp:=Aside0.mk (blk_drew Kgp.out); 
    replace Kgx:=Aside0.mk (blk_drew Kgx.out); 
    replace HB:=Aside0.mk (below_drew1 HB.out); 
    clear kgp fgp kgx fgx
    refine start_ (n:=16) (S:=fun w' => w'.cell? ⟨gx,0,none⟩ = some (.pointer (some ⟨gp,ofs,none⟩)) ∧ w'.cell? ⟨gp,ofs,none⟩ = some (.int .i64 xv) ∧ w'.cell? ⟨gx,1,none⟩ = some (.int .i64 lo) ∧ w'.cell? ⟨gx,2,none⟩ = some (.int .i64 hi)) (ds:=[]) #[false,false,false,false,false,false,false,false,false,false,false,false,false,false,false,false] (by kernel_rfl) rfl rfl ⟨(blk_cell Kgx.out 0).trans rfl,(blk_cell Kgp.out ofs).trans Hf.out,(blk_cell Kgx.out 1).trans rfl,(blk_cell Kgx.out 2).trans rfl⟩ (fun hHeld => ?_)
    refine with_tabW t64_7.tab t64_7.bits (fun HT_ HW_ => ?_)
    generalize W102.drew = W103 at Kgp Kgx HB hHeld ⊢
    refine pure_ (i:=0) (N:=some 47) (v:=?_) (a':=?_) #[true,false,false,false,false,false,false,false,false,false,false,false,false,false,false,false] rfl rfl (any_of HT_.out (by kernel_rfl)) (fun _ _ _ h => h) (Or.inl ⟨by rfl,?_⟩) ?_ ?_
    rotate_left
    ·intro w'
     go_simp
     with_reducible rfl
    rotate_left
    ·simp only [Act.put,zA,zB,zC,i64_w,i32_w]
     rfl
    refine pure_ (i:=4) (N:=some 51) (v:=?_) (a':=?_) #[true,false,false,false,true,false,false,false,false,false,false,false,false,false,false,false] rfl rfl (any_of HT_.out (by kernel_rfl)) (fun _ _ _ h => h) (Or.inl ⟨by rfl,?_⟩) ?_ ?_
    rotate_left
    ·intro w'
     go_simp
     with_reducible rfl
    rotate_left
    ·simp only [Act.put,zA,zB,zC,i64_w,i32_w]
     rfl
    refine take_ (i:=1) (N:=some 48) (v:=?_) (a':=?_) #[true,true,false,false,true,false,false,false,false,false,false,false,false,false,false,false] rfl rfl (take_ofW HT_.out HW_.out (by kernel_rfl)) (fun _ _ _ h => h) (Or.inl ⟨by rfl,?_⟩) hHeld ?_ ?_
    rotate_left
    ·rintro w' ⟨s0,s1,s2,s3⟩
     go_simp
     with_reducible rfl
    rotate_left
    ·simp only [Act.put,zA,zB,zC,i64_w,i32_w]
     rfl
    refine pure_ (i:=2) (N:=some 49) (v:=?_) (a':=?_) #[true,true,true,false,true,false,false,false,false,false,false,false,false,false,false,false] rfl rfl (any_of HT_.out (by kernel_rfl)) (fun _ _ _ h => h) (Or.inl ⟨by rfl,?_⟩) ?_ ?_
    rotate_left
    ·intro w'
     go_simp
     with_reducible rfl
    rotate_left
    ·simp only [Act.put,zA,zB,zC,i64_w,i32_w]
     rfl
    refine take_ (i:=3) (N:=some 50) (v:=?_) (a':=?_) #[true,true,true,true,true,false,false,false,false,false,false,false,false,false,false,false] rfl rfl (take_ofW HT_.out HW_.out (by kernel_rfl)) (fun _ _ _ h => h) (Or.inl ⟨by rfl,?_⟩) hHeld ?_ ?_
    rotate_left
    ·rintro w' ⟨s0,s1,s2,s3⟩
     go_simp
     with_reducible rfl
    rotate_left
    ·simp only [Act.put,zA,zB,zC,i64_w,i32_w]
     rfl
    refine take_ (i:=5) (N:=some 52) (v:=?_) (a':=?_) #[true,true,true,true,true,true,false,false,false,false,false,false,false,false,false,false] rfl rfl (take_ofW HT_.out HW_.out (by kernel_rfl)) (fun _ _ _ h => h) (Or.inl ⟨by rfl,?_⟩) hHeld ?_ ?_
    rotate_left
    ·rintro w' ⟨s0,s1,s2,s3⟩
     go_simp
     with_reducible rfl
    rotate_left
    ·simp only [Act.put,zA,zB,zC,i64_w,i32_w]
     rfl
    refine pure_ (i:=6) (N:=some 53) (v:=?_) (a':=?_) #[true,true,true,true,true,true,true,false,false,false,false,false,false,false,false,false] rfl rfl (any_of HT_.out (by kernel_rfl)) (fun _ _ _ h => h) (Or.inl ⟨by rfl,?_⟩) ?_ ?_
    rotate_left
    ·intro w'
     go_simp
     with_reducible rfl
    rotate_left
    ·simp only [Act.put,zA,zB,zC,i64_w,i32_w]
     rfl
    refine pure_ (i:=7) (N:=some 54) (v:=?_) (a':=?_) #[true,true,true,true,true,true,true,true,false,false,false,false,false,false,false,false] rfl rfl (any_of HT_.out (by kernel_rfl)) (fun _ _ _ h => h) (Or.inl ⟨by rfl,?_⟩) ?_ ?_
    rotate_left
    ·intro w'
     go_simp
     with_reducible rfl
    rotate_left
    ·simp only [Act.put,zA,zB,zC,i64_w,i32_w]
     rfl
    refine pure_ (i:=8) (N:=some 55) (v:=undef) (a':=?_) #[true,true,true,true,true,true,true,true,true,false,false,false,false,false,false,false] rfl rfl (any_of HT_.out (by kernel_rfl)) (fun _ _ _ h => h) (Or.inr ⟨by rfl,rfl⟩) ?_ ?_
    rotate_left
    ·simp only [Act.put,zA,zB,zC,i64_w,i32_w]
     rfl
    refine pure_ (i:=9) (N:=some 56) (v:=undef) (a':=?_) #[true,true,true,true,true,true,true,true,true,true,false,false,false,false,false,false] rfl rfl (any_of HT_.out (by kernel_rfl)) (fun _ _ _ h => h) (Or.inr ⟨by rfl,rfl⟩) ?_ ?_
    rotate_left
    ·simp only [Act.put,zA,zB,zC,i64_w,i32_w]
     rfl
    refine pure_ (i:=10) (N:=some 57) (v:=undef) (a':=?_) #[true,true,true,true,true,true,true,true,true,true,true,false,false,false,false,false] rfl rfl (any_of HT_.out (by kernel_rfl)) (fun _ _ _ h => h) (Or.inr ⟨by rfl,rfl⟩) ?_ ?_
    rotate_left
    ·simp only [Act.put,zA,zB,zC,i64_w,i32_w]
     rfl
    refine pure_ (i:=11) (N:=some 58) (v:=undef) (a':=?_) #[true,true,true,true,true,true,true,true,true,true,true,true,false,false,false,false] rfl rfl (any_of HT_.out (by kernel_rfl)) (fun _ _ _ h => h) (Or.inr ⟨by rfl,rfl⟩) ?_ ?_
    rotate_left
    ·simp only [Act.put,zA,zB,zC,i64_w,i32_w]
     rfl
    refine pure_ (i:=12) (N:=some 59) (v:=undef) (a':=?_) #[true,true,true,true,true,true,true,true,true,true,true,true,true,false,false,false] rfl rfl (any_of HT_.out (by kernel_rfl)) (fun _ _ _ h => h) (Or.inr ⟨by rfl,rfl⟩) ?_ ?_
    rotate_left
    ·simp only [Act.put,zA,zB,zC,i64_w,i32_w]
     rfl
    refine pure_ (i:=13) (N:=some 60) (v:=undef) (a':=?_) #[true,true,true,true,true,true,true,true,true,true,true,true,true,true,false,false] rfl rfl (any_of HT_.out (by kernel_rfl)) (fun _ _ _ h => h) (Or.inr ⟨by rfl,rfl⟩) ?_ ?_
    rotate_left
    ·simp only [Act.put,zA,zB,zC,i64_w,i32_w]
     rfl
    refine pure_ (i:=14) (N:=some 61) (v:=undef) (a':=?_) #[true,true,true,true,true,true,true,true,true,true,true,true,true,true,true,false] rfl rfl (any_of HT_.out (by kernel_rfl)) (fun _ _ _ h => h) (Or.inr ⟨by rfl,rfl⟩) ?_ ?_
    rotate_left
    ·simp only [Act.put,zA,zB,zC,i64_w,i32_w]
     rfl
    refine pure_ (i:=15) (N:=some 62) (v:=?_) (a':=?_) #[true,true,true,true,true,true,true,true,true,true,true,true,true,true,true,true] rfl rfl (any_of HT_.out (by kernel_rfl)) (fun _ _ _ h => h) (Or.inl ⟨by rfl,?_⟩) ?_ ?_
    rotate_left
    ·intro w'
     go_simp
     with_reducible rfl
    rotate_left
    ·simp only [Act.put,zA,zB,zC,i64_w,i32_w]
     rfl
    refine done_ (done_of HT_.out (by kernel_rfl)) ?_
    try go_wp2
    go_ret
    have e:=Hr.out
    rw [Hc.out,show Pol.inB xv lo hi = false by unfold Pol.inB;exact decide_eq_false (by have:=of_decide_eq_true c1.out;omega)] at e
    exact ⟨by rw [← e];rfl,HB.out⟩
   ·by_cases d2 : hi < xv
    ·have b1:=decide_eq_false d1
     have b2:=decide_eq_true d2
     have c2:=Aside0.mk b2
     clear d1 d2
     go_wp2_with (first | ((with_reducible refine gate_dst (N:=46) rfl ?_);refine H.idx_event (t:=95) (e:=94) (x:=43) (y:=44) (N:=46) (j:=j) rfl rfl rfl rfl rfl Try.underlying95 Try.underlying94 rfl (by kernel_rfl) JL.out Hx.out ?_) | ((with_reducible refine gate_dst (N:=6) rfl ?_);replace HB : Aside0 (Below w.heap.size w wr):=HB;refine box_event ?hg (N:=6) ?hd (cs:=#[.pointer none,.int .i64 0,.int .i64 0]) (t:=94) ?hr ?_;(case hd => rfl);(case hg => rfl);(case hr => first | (go_simp;done) | (go_simp;rfl));intro gx hg W101 hbox hb;have Lgx : Aside0 (w.heap.size ≤ gx):=Aside0.mk (by rw [hg];exact below_size HB.out);have Ngp_gx : Aside0 (gp ≠ gx):=Aside0.mk (by rw [hg];exact Nat.ne_of_lt (blk_lt Kgp.out));have Ngx_gp : Aside0 (gx ≠ gp):=Aside0.mk (fun e => Ngp_gx.out e.symm);replace Kgp:=Aside0.mk (blk_below Kgp.out hb);replace HB : Aside0 (Below w.heap.size w W101):=Aside0.mk (below_step HB.out hb);have Kgx : Aside0 (W101.heap[gx]? = some (.cells #[.pointer none,.int .i64 0,.int .i64 0] 94 (0,0))):=Aside0.mk hbox;clear hb hbox hg;have kgp:=blk_cell Kgp.out;have fgp:=blk_frozen Kgp.out;have kgx:=blk_cell Kgx.out;have fgx:=blk_frozen Kgx.out) | ((with_reducible refine gate_store (t:=94) (p:=6) rfl ?_);replace HB : Aside0 (Below w.heap.size w W101):=HB;refine H.put_event (t:=94) (p:=6) (i:=0) rfl rfl rfl [.pointer (some ⟨gp,ofs,none⟩),.int .i64 lo,.int .i64 hi] Kgx.out rfl rfl (by kernel_rfl) (by kernel_rfl) (by kernel_rfl) ?_;intro W102 hw;replace Kgp:=Aside0.mk (H.far_fill hw Ngp_gx.out Kgp.out);replace Kgx : Aside0 (W102.heap[gx]? = some (.cells #[.pointer (some ⟨gp,ofs,none⟩),.int .i64 lo,.int .i64 hi] 94 (0,0))):=Aside0.mk (H.blk_fill hw Kgx.out (by kernel_rfl));replace HB : Aside0 (Below w.heap.size w W102):=Aside0.mk (H.below_fill hw Lgx.out HB.out);clear kgp fgp kgx fgx;clear hw;have kgp:=blk_cell Kgp.out;have fgp:=blk_frozen Kgp.out;have kgx:=blk_cell Kgx.out;have fgx:=blk_frozen Kgx.out))
     replace Kgp:=Aside0.mk (blk_drew Kgp.out); 
     replace Kgx:=Aside0.mk (blk_drew Kgx.out); 
     replace HB:=Aside0.mk (below_drew1 HB.out); 
     clear kgp fgp kgx fgx
     refine start_ (n:=16) (S:=fun w' => w'.cell? ⟨gx,0,none⟩ = some (.pointer (some ⟨gp,ofs,none⟩)) ∧ w'.cell? ⟨gp,ofs,none⟩ = some (.int .i64 xv) ∧ w'.cell? ⟨gx,1,none⟩ = some (.int .i64 lo) ∧ w'.cell? ⟨gx,2,none⟩ = some (.int .i64 hi)) (ds:=[]) #[false,false,false,false,false,false,false,false,false,false,false,false,false,false,false,false] (by kernel_rfl) rfl rfl ⟨(blk_cell Kgx.out 0).trans rfl,(blk_cell Kgp.out ofs).trans Hf.out,(blk_cell Kgx.out 1).trans rfl,(blk_cell Kgx.out 2).trans rfl⟩ (fun hHeld => ?_)
     refine with_tabW t64_7.tab t64_7.bits (fun HT_ HW_ => ?_)
     generalize W102.drew = W103 at Kgp Kgx HB hHeld ⊢
     refine pure_ (i:=0) (N:=some 47) (v:=?_) (a':=?_) #[true,false,false,false,false,false,false,false,false,false,false,false,false,false,false,false] rfl rfl (any_of HT_.out (by kernel_rfl)) (fun _ _ _ h => h) (Or.inl ⟨by rfl,?_⟩) ?_ ?_
     rotate_left
     ·intro w'
      go_simp
      with_reducible rfl
     rotate_left
     ·simp only [Act.put,zA,zB,zC,i64_w,i32_w]
      rfl
     refine pure_ (i:=4) (N:=some 51) (v:=?_) (a':=?_) #[true,false,false,false,true,false,false,false,false,false,false,false,false,false,false,false] rfl rfl (any_of HT_.out (by kernel_rfl)) (fun _ _ _ h => h) (Or.inl ⟨by rfl,?_⟩) ?_ ?_
     rotate_left
     ·intro w'
      go_simp
      with_reducible rfl
     rotate_left
     ·simp only [Act.put,zA,zB,zC,i64_w,i32_w]
      rfl
     refine take_ (i:=1) (N:=some 48) (v:=?_) (a':=?_) #[true,true,false,false,true,false,false,false,false,false,false,false,false,false,false,false] rfl rfl (take_ofW HT_.out HW_.out (by kernel_rfl)) (fun _ _ _ h => h) (Or.inl ⟨by rfl,?_⟩) hHeld ?_ ?_
     rotate_left
     ·rintro w' ⟨s0,s1,s2,s3⟩
      go_simp
      with_reducible rfl
     rotate_left
     ·simp only [Act.put,zA,zB,zC,i64_w,i32_w]
      rfl
     refine pure_ (i:=2) (N:=some 49) (v:=?_) (a':=?_) #[true,true,true,false,true,false,false,false,false,false,false,false,false,false,false,false] rfl rfl (any_of HT_.out (by kernel_rfl)) (fun _ _ _ h => h) (Or.inl ⟨by rfl,?_⟩) ?_ ?_
     rotate_left
     ·intro w'
      go_simp
      with_reducible rfl
     rotate_left
     ·simp only [Act.put,zA,zB,zC,i64_w,i32_w]
      rfl
     refine take_ (i:=3) (N:=some 50) (v:=?_) (a':=?_) #[true,true,true,true,true,false,false,false,false,false,false,false,false,false,false,false] rfl rfl (take_ofW HT_.out HW_.out (by kernel_rfl)) (fun _ _ _ h => h) (Or.inl ⟨by rfl,?_⟩) hHeld ?_ ?_
     rotate_left
     ·rintro w' ⟨s0,s1,s2,s3⟩
      go_simp
      with_reducible rfl
     rotate_left
     ·simp only [Act.put,zA,zB,zC,i64_w,i32_w]
      rfl
     refine take_ (i:=5) (N:=some 52) (v:=?_) (a':=?_) #[true,true,true,true,true,true,false,false,false,false,false,false,false,false,false,false] rfl rfl (take_ofW HT_.out HW_.out (by kernel_rfl)) (fun _ _ _ h => h) (Or.inl ⟨by rfl,?_⟩) hHeld ?_ ?_
     rotate_left
     ·rintro w' ⟨s0,s1,s2,s3⟩
      go_simp
      with_reducible rfl
     rotate_left
     ·simp only [Act.put,zA,zB,zC,i64_w,i32_w]
      rfl
     refine pure_ (i:=6) (N:=some 53) (v:=?_) (a':=?_) #[true,true,true,true,true,true,true,false,false,false,false,false,false,false,false,false] rfl rfl (any_of HT_.out (by kernel_rfl)) (fun _ _ _ h => h) (Or.inl ⟨by rfl,?_⟩) ?_ ?_
     rotate_left
     ·intro w'
      go_simp
      with_reducible rfl
     rotate_left
     ·simp only [Act.put,zA,zB,zC,i64_w,i32_w]
      rfl
     refine pure_ (i:=7) (N:=some 54) (v:=?_) (a':=?_) #[true,true,true,true,true,true,true,true,false,false,false,false,false,false,false,false] rfl rfl (any_of HT_.out (by kernel_rfl)) (fun _ _ _ h => h) (Or.inl ⟨by rfl,?_⟩) ?_ ?_
     rotate_left
     ·intro w'
      go_simp
      with_reducible rfl
     rotate_left
     ·simp only [Act.put,zA,zB,zC,i64_w,i32_w]
      rfl
     refine pure_ (i:=8) (N:=some 55) (v:=?_) (a':=?_) #[true,true,true,true,true,true,true,true,true,false,false,false,false,false,false,false] rfl rfl (any_of HT_.out (by kernel_rfl)) (fun _ _ _ h => h) (Or.inl ⟨by rfl,?_⟩) ?_ ?_
     rotate_left
     ·intro w'
      go_simp
      with_reducible rfl
     rotate_left
     ·simp only [Act.put,zA,zB,zC,i64_w,i32_w]
      rfl
     refine pure_ (i:=12) (N:=some 59) (v:=?_) (a':=?_) #[true,true,true,true,true,true,true,true,true,false,false,false,true,false,false,false] rfl rfl (any_of HT_.out (by kernel_rfl)) (fun _ _ _ h => h) (Or.inl ⟨by rfl,?_⟩) ?_ ?_
     rotate_left
     ·intro w'
      go_simp
      with_reducible rfl
     rotate_left
     ·simp only [Act.put,zA,zB,zC,i64_w,i32_w]
      rfl
     refine take_ (i:=9) (N:=some 56) (v:=?_) (a':=?_) #[true,true,true,true,true,true,true,true,true,true,false,false,true,false,false,false] rfl rfl (take_ofW HT_.out HW_.out (by kernel_rfl)) (fun _ _ _ h => h) (Or.inl ⟨by rfl,?_⟩) hHeld ?_ ?_
     rotate_left
     ·rintro w' ⟨s0,s1,s2,s3⟩
      go_simp
      with_reducible rfl
     rotate_left
     ·simp only [Act.put,zA,zB,zC,i64_w,i32_w]
      rfl
     refine pure_ (i:=10) (N:=some 57) (v:=?_) (a':=?_) #[true,true,true,true,true,true,true,true,true,true,true,false,true,false,false,false] rfl rfl (any_of HT_.out (by kernel_rfl)) (fun _ _ _ h => h) (Or.inl ⟨by rfl,?_⟩) ?_ ?_
     rotate_left
     ·intro w'
      go_simp
      with_reducible rfl
     rotate_left
     ·simp only [Act.put,zA,zB,zC,i64_w,i32_w]
      rfl
     refine take_ (i:=11) (N:=some 58) (v:=?_) (a':=?_) #[true,true,true,true,true,true,true,true,true,true,true,true,true,false,false,false] rfl rfl (take_ofW HT_.out HW_.out (by kernel_rfl)) (fun _ _ _ h => h) (Or.inl ⟨by rfl,?_⟩) hHeld ?_ ?_
     rotate_left
     ·rintro w' ⟨s0,s1,s2,s3⟩
      go_simp
      with_reducible rfl
     rotate_left
     ·simp only [Act.put,zA,zB,zC,i64_w,i32_w]
      rfl
     refine take_ (i:=13) (N:=some 60) (v:=?_) (a':=?_) #[true,true,true,true,true,true,true,true,true,true,true,true,true,true,false,false] rfl rfl (take_ofW HT_.out HW_.out (by kernel_rfl)) (fun _ _ _ h => h) (Or.inl ⟨by rfl,?_⟩) hHeld ?_ ?_
     rotate_left
     ·rintro w' ⟨s0,s1,s2,s3⟩
      go_simp
      with_reducible rfl
     rotate_left
     ·simp only [Act.put,zA,zB,zC,i64_w,i32_w]
      rfl
     refine pure_ (i:=14) (N:=some 61) (v:=?_) (a':=?_) #[true,true,true,true,true,true,true,true,true,true,true,true,true,true,true,false] rfl rfl (any_of HT_.out (by kernel_rfl)) (fun _ _ _ h => h) (Or.inl ⟨by rfl,?_⟩) ?_ ?_
     rotate_left
     ·intro w'
      go_simp
      with_reducible rfl
     rotate_left
     ·simp only [Act.put,zA,zB,zC,i64_w,i32_w]
      rfl
     refine pure_ (i:=15) (N:=some 62) (v:=?_) (a':=?_) #[true,true,true,true,true,true,true,true,true,true,true,true,true,true,true,true] rfl rfl (any_of HT_.out (by kernel_rfl)) (fun _ _ _ h => h) (Or.inl ⟨by rfl,?_⟩) ?_ ?_
     rotate_left
     ·intro w'
      go_simp
      with_reducible rfl
     rotate_left
     ·simp only [Act.put,zA,zB,zC,i64_w,i32_w]
      rfl
     refine done_ (done_of HT_.out (by kernel_rfl)) ?_
     try go_wp2
     go_ret
     have e:=Hr.out
     rw [Hc.out,show Pol.inB xv lo hi = false by unfold Pol.inB;exact decide_eq_false (by have:=of_decide_eq_true c2.out;omega)] at e
     exact ⟨by rw [← e];rfl,HB.out⟩
    ·have b1:=decide_eq_false d1
     have b2:=decide_eq_false d2
     have c1:=Aside0.mk b1
     have c2:=Aside0.mk b2
     clear d1 d2
     go_wp2_with (first | ((with_reducible refine gate_dst (N:=46) rfl ?_);refine H.idx_event (t:=95) (e:=94) (x:=43) (y:=44) (N:=46) (j:=j) rfl rfl rfl rfl rfl Try.underlying95 Try.underlying94 rfl (by kernel_rfl) JL.out Hx.out ?_) | ((with_reducible refine gate_dst (N:=6) rfl ?_);replace HB : Aside0 (Below w.heap.size w wr):=HB;refine box_event ?hg (N:=6) ?hd (cs:=#[.pointer none,.int .i64 0,.int .i64 0]) (t:=94) ?hr ?_;(case hd => rfl);(case hg => rfl);(case hr => first | (go_simp;done) | (go_simp;rfl));intro gx hg W101 hbox hb;have Lgx : Aside0 (w.heap.size ≤ gx):=Aside0.mk (by rw [hg];exact below_size HB.out);have Ngp_gx : Aside0 (gp ≠ gx):=Aside0.mk (by rw [hg];exact Nat.ne_of_lt (blk_lt Kgp.out));have Ngx_gp : Aside0 (gx ≠ gp):=Aside0.mk (fun e => Ngp_gx.out e.symm);replace Kgp:=Aside0.mk (blk_below Kgp.out hb);replace HB : Aside0 (Below w.heap.size w W101):=Aside0.mk (below_step HB.out hb);have Kgx : Aside0 (W101.heap[gx]? = some (.cells #[.pointer none,.int .i64 0,.int .i64 0] 94 (0,0))):=Aside0.mk hbox;clear hb hbox hg;have kgp:=blk_cell Kgp.out;have fgp:=blk_frozen Kgp.out;have kgx:=blk_cell Kgx.out;have fgx:=blk_frozen Kgx.out) | ((with_reducible refine gate_store (t:=94) (p:=6) rfl ?_);replace HB : Aside0 (Below w.heap.size w W101):=HB;refine H.put_event (t:=94) (p:=6) (i:=0) rfl rfl rfl [.pointer (some ⟨gp,ofs,none⟩),.int .i64 lo,.int .i64 hi] Kgx.out rfl rfl (by kernel_rfl) (by kernel_rfl) (by kernel_rfl) ?_;intro W102 hw;replace Kgp:=Aside0.mk (H.far_fill hw Ngp_gx.out Kgp.out);replace Kgx : Aside0 (W102.heap[gx]? = some (.cells #[.pointer (some ⟨gp,ofs,none⟩),.int .i64 lo,.int .i64 hi] 94 (0,0))):=Aside0.mk (H.blk_fill hw Kgx.out (by kernel_rfl));replace HB : Aside0 (Below w.heap.size w W102):=Aside0.mk (H.below_fill hw Lgx.out HB.out);clear kgp fgp kgx fgx;clear hw;have kgp:=blk_cell Kgp.out;have fgp:=blk_frozen Kgp.out;have kgx:=blk_cell Kgx.out;have fgx:=blk_frozen Kgx.out))
     replace Kgp:=Aside0.mk (blk_drew Kgp.out); 
     replace Kgx:=Aside0.mk (blk_drew Kgx.out); 
     replace HB:=Aside0.mk (below_drew1 HB.out); 
     clear kgp fgp kgx fgx
     refine start_ (n:=16) (S:=fun w' => w'.cell? ⟨gx,0,none⟩ = some (.pointer (some ⟨gp,ofs,none⟩)) ∧ w'.cell? ⟨gp,ofs,none⟩ = some (.int .i64 xv) ∧ w'.cell? ⟨gx,1,none⟩ = some (.int .i64 lo) ∧ w'.cell? ⟨gx,2,none⟩ = some (.int .i64 hi)) (ds:=[]) #[false,false,false,false,false,false,false,false,false,false,false,false,false,false,false,false] (by kernel_rfl) rfl rfl ⟨(blk_cell Kgx.out 0).trans rfl,(blk_cell Kgp.out ofs).trans Hf.out,(blk_cell Kgx.out 1).trans rfl,(blk_cell Kgx.out 2).trans rfl⟩ (fun hHeld => ?_)
     refine with_tabW t64_7.tab t64_7.bits (fun HT_ HW_ => ?_)
     generalize W102.drew = W103 at Kgp Kgx HB hHeld ⊢
     refine pure_ (i:=0) (N:=some 47) (v:=?_) (a':=?_) #[true,false,false,false,false,false,false,false,false,false,false,false,false,false,false,false] rfl rfl (any_of HT_.out (by kernel_rfl)) (fun _ _ _ h => h) (Or.inl ⟨by rfl,?_⟩) ?_ ?_
     rotate_left
     ·intro w'
      go_simp
      with_reducible rfl
     rotate_left
     ·simp only [Act.put,zA,zB,zC,i64_w,i32_w]
      rfl
     refine pure_ (i:=4) (N:=some 51) (v:=?_) (a':=?_) #[true,false,false,false,true,false,false,false,false,false,false,false,false,false,false,false] rfl rfl (any_of HT_.out (by kernel_rfl)) (fun _ _ _ h => h) (Or.inl ⟨by rfl,?_⟩) ?_ ?_
     rotate_left
     ·intro w'
      go_simp
      with_reducible rfl
     rotate_left
     ·simp only [Act.put,zA,zB,zC,i64_w,i32_w]
      rfl
     refine take_ (i:=1) (N:=some 48) (v:=?_) (a':=?_) #[true,true,false,false,true,false,false,false,false,false,false,false,false,false,false,false] rfl rfl (take_ofW HT_.out HW_.out (by kernel_rfl)) (fun _ _ _ h => h) (Or.inl ⟨by rfl,?_⟩) hHeld ?_ ?_
     rotate_left
     ·rintro w' ⟨s0,s1,s2,s3⟩
      go_simp
      with_reducible rfl
     rotate_left
     ·simp only [Act.put,zA,zB,zC,i64_w,i32_w]
      rfl
     refine pure_ (i:=2) (N:=some 49) (v:=?_) (a':=?_) #[true,true,true,false,true,false,false,false,false,false,false,false,false,false,false,false] rfl rfl (any_of HT_.out (by kernel_rfl)) (fun _ _ _ h => h) (Or.inl ⟨by rfl,?_⟩) ?_ ?_
     rotate_left
     ·intro w'
      go_simp
      with_reducible rfl
     rotate_left
     ·simp only [Act.put,zA,zB,zC,i64_w,i32_w]
      rfl
     refine take_ (i:=3) (N:=some 50) (v:=?_) (a':=?_) #[true,true,true,true,true,false,false,false,false,false,false,false,false,false,false,false] rfl rfl (take_ofW HT_.out HW_.out (by kernel_rfl)) (fun _ _ _ h => h) (Or.inl ⟨by rfl,?_⟩) hHeld ?_ ?_
     rotate_left
     ·rintro w' ⟨s0,s1,s2,s3⟩
      go_simp
      with_reducible rfl
     rotate_left
     ·simp only [Act.put,zA,zB,zC,i64_w,i32_w]
      rfl
     refine take_ (i:=5) (N:=some 52) (v:=?_) (a':=?_) #[true,true,true,true,true,true,false,false,false,false,false,false,false,false,false,false] rfl rfl (take_ofW HT_.out HW_.out (by kernel_rfl)) (fun _ _ _ h => h) (Or.inl ⟨by rfl,?_⟩) hHeld ?_ ?_
     rotate_left
     ·rintro w' ⟨s0,s1,s2,s3⟩
      go_simp
      with_reducible rfl
     rotate_left
     ·simp only [Act.put,zA,zB,zC,i64_w,i32_w]
      rfl
     refine pure_ (i:=6) (N:=some 53) (v:=?_) (a':=?_) #[true,true,true,true,true,true,true,false,false,false,false,false,false,false,false,false] rfl rfl (any_of HT_.out (by kernel_rfl)) (fun _ _ _ h => h) (Or.inl ⟨by rfl,?_⟩) ?_ ?_
     rotate_left
     ·intro w'
      go_simp
      with_reducible rfl
     rotate_left
     ·simp only [Act.put,zA,zB,zC,i64_w,i32_w]
      rfl
     refine pure_ (i:=7) (N:=some 54) (v:=?_) (a':=?_) #[true,true,true,true,true,true,true,true,false,false,false,false,false,false,false,false] rfl rfl (any_of HT_.out (by kernel_rfl)) (fun _ _ _ h => h) (Or.inl ⟨by rfl,?_⟩) ?_ ?_
     rotate_left
     ·intro w'
      go_simp
      with_reducible rfl
     rotate_left
     ·simp only [Act.put,zA,zB,zC,i64_w,i32_w]
      rfl
     refine pure_ (i:=8) (N:=some 55) (v:=?_) (a':=?_) #[true,true,true,true,true,true,true,true,true,false,false,false,false,false,false,false] rfl rfl (any_of HT_.out (by kernel_rfl)) (fun _ _ _ h => h) (Or.inl ⟨by rfl,?_⟩) ?_ ?_
     rotate_left
     ·intro w'
      go_simp
      with_reducible rfl
     rotate_left
     ·simp only [Act.put,zA,zB,zC,i64_w,i32_w]
      rfl
     refine pure_ (i:=12) (N:=some 59) (v:=?_) (a':=?_) #[true,true,true,true,true,true,true,true,true,false,false,false,true,false,false,false] rfl rfl (any_of HT_.out (by kernel_rfl)) (fun _ _ _ h => h) (Or.inl ⟨by rfl,?_⟩) ?_ ?_
     rotate_left
     ·intro w'
      go_simp
      with_reducible rfl
     rotate_left
     ·simp only [Act.put,zA,zB,zC,i64_w,i32_w]
      rfl
     refine take_ (i:=9) (N:=some 56) (v:=?_) (a':=?_) #[true,true,true,true,true,true,true,true,true,true,false,false,true,false,false,false] rfl rfl (take_ofW HT_.out HW_.out (by kernel_rfl)) (fun _ _ _ h => h) (Or.inl ⟨by rfl,?_⟩) hHeld ?_ ?_
     rotate_left
     ·rintro w' ⟨s0,s1,s2,s3⟩
      go_simp
      with_reducible rfl
     rotate_left
     ·simp only [Act.put,zA,zB,zC,i64_w,i32_w]
      rfl
     refine pure_ (i:=10) (N:=some 57) (v:=?_) (a':=?_) #[true,true,true,true,true,true,true,true,true,true,true,false,true,false,false,false] rfl rfl (any_of HT_.out (by kernel_rfl)) (fun _ _ _ h => h) (Or.inl ⟨by rfl,?_⟩) ?_ ?_
     rotate_left
     ·intro w'
      go_simp
      with_reducible rfl
     rotate_left
     ·simp only [Act.put,zA,zB,zC,i64_w,i32_w]
      rfl
     refine take_ (i:=11) (N:=some 58) (v:=?_) (a':=?_) #[true,true,true,true,true,true,true,true,true,true,true,true,true,false,false,false] rfl rfl (take_ofW HT_.out HW_.out (by kernel_rfl)) (fun _ _ _ h => h) (Or.inl ⟨by rfl,?_⟩) hHeld ?_ ?_
     rotate_left
     ·rintro w' ⟨s0,s1,s2,s3⟩
      go_simp
      with_reducible rfl
     rotate_left
     ·simp only [Act.put,zA,zB,zC,i64_w,i32_w]
      rfl
     refine take_ (i:=13) (N:=some 60) (v:=?_) (a':=?_) #[true,true,true,true,true,true,true,true,true,true,true,true,true,true,false,false] rfl rfl (take_ofW HT_.out HW_.out (by kernel_rfl)) (fun _ _ _ h => h) (Or.inl ⟨by rfl,?_⟩) hHeld ?_ ?_
     rotate_left
     ·rintro w' ⟨s0,s1,s2,s3⟩
      go_simp
      with_reducible rfl
     rotate_left
     ·simp only [Act.put,zA,zB,zC,i64_w,i32_w]
      rfl
     refine pure_ (i:=14) (N:=some 61) (v:=?_) (a':=?_) #[true,true,true,true,true,true,true,true,true,true,true,true,true,true,true,false] rfl rfl (any_of HT_.out (by kernel_rfl)) (fun _ _ _ h => h) (Or.inl ⟨by rfl,?_⟩) ?_ ?_
     rotate_left
     ·intro w'
      go_simp
      with_reducible rfl
     rotate_left
     ·simp only [Act.put,zA,zB,zC,i64_w,i32_w]
      rfl
     refine pure_ (i:=15) (N:=some 62) (v:=?_) (a':=?_) #[true,true,true,true,true,true,true,true,true,true,true,true,true,true,true,true] rfl rfl (any_of HT_.out (by kernel_rfl)) (fun _ _ _ h => h) (Or.inl ⟨by rfl,?_⟩) ?_ ?_
     rotate_left
     ·intro w'
      go_simp
      with_reducible rfl
     rotate_left
     ·simp only [Act.put,zA,zB,zC,i64_w,i32_w]
      rfl
     refine done_ (done_of HT_.out (by kernel_rfl)) ?_
     try go_wp2
     go_roundg (gk - 1)
     case measure => have:=J2.out;have:=JL.out;omega
     case rel =>
      have e:=Hr.out
      rw [Hc.out,show Pol.inB xv lo hi = true by unfold Pol.inB;exact decide_eq_true (by have:=of_decide_eq_false c1.out;have:=of_decide_eq_false c2.out;omega),Bool.true_and] at e
      exact ⟨j + 1,by go_num,⟨by have:=JL.out;omega,by have:=J2.out;have:=JL.out;omega⟩,⟨e⟩,Kgp,HB⟩
  ·obtain rfl : 8 = j:=by omega
   have e:=Hr.out
   rw [show Pol.chk (Pol.cells p) (Pol.flds2.drop 8) = true from rfl,if_pos rfl] at e
   subst e
   clear hlt j1 j2 Hr
   go_wp2_with fail
   go_ret
   exact ⟨rfl,HB.out⟩
theorem right_ext (p : Pol.Py) (w : World) :
  Calls Try.prog 64 #[.agg #[.int .i64 (p.kind),.int .i64 (p.cap),.int .i64 (p.num),.int .i64 (p.den),.int .i64 (p.width),.int .i64 (p.count),.int .i64 (p.keys),.int .i64 (p.slots),.int .i64 (p.every),.int .i64 (p.seg)]] w fun e w' => e = .returned (.int .i64 (if Pol.ok p = true then 0 else 40)) ∧ Below w.heap.size w w':=by
 by_cases h1 : p.kind = 1
 ·by_cases h2 : p.width = 0
  ·by_cases h3 : p.count = 0
   ·have:=right_loop1 p w h1 h2 h3
    rw [Pol.ok1 h1 h2 h3]
    rw [h1,h2,h3]
    exact this
   ·have:=right_n2 p w h3
    rw [Pol.ok_no1 h1 (.inr h3)]
    rw [h1,h2]
    exact this
  ·have:=right_n1 p w h2
   rw [Pol.ok_no1 h1 (.inl h2)]
   rw [h1]
   exact this
 ·by_cases h2 : p.kind = 2
  ·by_cases h3 : p.num = 0
   ·by_cases h4 : p.den = 0
    ·have:=right_loop2 p w h2 h3 h4
     rw [Pol.ok2 h2 h3 h4]
     rw [h2,h3,h4]
     exact this
    ·have:=right_n4 p w h4
     rw [Pol.ok_no2 h2 (.inr h4)]
     rw [h2,h3]
     exact this
   ·have:=right_n3 p w h3
    rw [Pol.ok_no2 h2 (.inl h3)]
    rw [h2]
    exact this
  ·have:=right_n0 p w h1 h2
   rw [Pol.ok_no h1 h2]
   exact this
end Go.Proofs.Ytbiijcehgiibeaa.H

/- Proved here: the document's Read of a policy answers Pol.read, for bytes of any length that memory has room for. (Pieces by wip/hrr.py, this session's own.) Laid tighter for a claim's bound by wip/shake.py (SQ=1). -/
import Derived.Test.YtbiijcehgiibeaaKPReadsJQg10
import Derived.Test.YtbiijcehgiibeaaKPReadsPolr
import Derived.Test.YtbiijcehgiibeaaKPReadsJHap
import Derived.Test.YtbiijcehgiibeaaKPReadsJPureE
import Derived.Test.YtbiijcehgiibeaaKPReadsJSix
import Derived.Test.YtbiijcehgiibeaaKPReadsQg11
import Derived.Test.YtbiijcehgiibeaaKPReadsQg3
import Derived.Test.YtbiijcehgiibeaaKPReadsQf36
namespace Go.Proofs.Ytbiijcehgiibeaa.H
open Go.RowKit Go.Proofs.YtbiijcehgiibeaaW.PrintWords Go.Proofs.YtbiijcehgiibeaaW.PrintLast Go.Proofs.YtbiijcehgiibeaaW.PrintMore Go.Proofs.Ytbiijcehgiibeaa.Q
set_option linter.unusedVariables false
set_option linter.unusedSimpArgs false
def t66_15.T : Bool × List (List Nat × List Nat):=(true,[([],[]),([0],[0]),([1],[1]),([],[]),([3],[3]),([4],[4]),([],[]),([6],[6]),([7],[7]),([],[]),([9],[9]),([10],[10]),([],[]),([12],[12]),([13],[13]),([],[]),([15],[15]),([16],[16]),([2,5,8,11,14,17],[2,5,8,11,14,17]),([],[]),([19,18,0,1,2,3,4,5,6,7,8,9,10,11,12,13,14,15,16,17,18,19],[18,19])])
def t66_15.B : List Nat:=[0,1,3,0,8,24,0,64,192,0,512,1536,0,4096,12288,0,32768,98304,262143,0,1048575]
theorem t66_15.tab : rtab .any (opsOf Try.f66 15) = t66_15.T:=by kernel_rfl
theorem t66_15.bits : waitsOk t66_15.T.2 t66_15.B = true:=by kernel_rfl
def t66_27.T : Bool × List (List Nat × List Nat):=(true,[([],[]),([],[]),([],[]),([1,2],[1,2]),([0,3,0],[0,3]),([4],[4]),([5],[5]),([5],[5]),([],[]),([8,6,4,0,1,2,3,4,5,6,8],[6,8]),([7,9,0,1,2,3,4,5,6,7,8,9],[7])])
def t66_27.B : List Nat:=[0,0,0,6,15,31,63,63,0,383,1023]
theorem t66_27.tab : rtab .any (opsOf Try.f66 27) = t66_27.T:=by kernel_rfl
theorem t66_27.bits : waitsOk t66_27.T.2 t66_27.B = true:=by kernel_rfl
set_option maxHeartbeats 4000000 in
set_option maxRecDepth 100000 in
theorem rread_short (A0 : Option Addr) (c0 : Nat) (l0 : List Int) (w : World) (hr0 : Kd.C (Kd.int .u8) w A0 l0.length l0) (hc0 : l0.length ≤ c0) (h4 : l0.length < 4) :
  Calls Try.prog 66 #[.slice A0 l0.length c0] w fun e w' => e = .returned (.tuple #[.agg #[.int .i64 0,.int .i64 0,.int .i64 0,.int .i64 0,.int .i64 0,.int .i64 0,.int .i64 0,.int .i64 0,.int .i64 0,.int .i64 0],.int .i64 0,.agg #[.int .i64 41,.int .i64 0]]) ∧ Below w.heap.size w w':=by
 have HR0:=Aside0.mk hr0
 have HC0:=Aside0.mk hc0
 have HB:=Aside0.mk (Below.refl w.heap.size w)
 have hlt : decide ((l0.length : Int) < 4) = true:=decide_eq_true (by omega)
 clear hr0 hc0 h4
 go_enter Try.func66,Try.ntmps66
 go_wp2_with (first | ((with_reducible refine gate_dst (N:=2) rfl ?_);replace HB : Aside0 (Below w.heap.size w w):=HB;refine box_event ?hg (N:=2) ?hd (cs:=#[.int .i64 0,.int .i64 0,.int .i64 0,.int .i64 0,.int .i64 0,.int .i64 0,.int .i64 0,.int .i64 0,.int .i64 0,.int .i64 0]) (t:=45) ?hr ?_;(case hd => rfl);(case hg => rfl);(case hr => first | (go_simp;done) | (go_simp;rfl));intro gr hg W1 hbox hb;have Lgr : Aside0 (w.heap.size ≤ gr):=Aside0.mk (by rw [hg];exact below_size HB.out);replace HB : Aside0 (Below w.heap.size w W1):=Aside0.mk (below_step HB.out hb);have Kgr : Aside0 (W1.heap[gr]? = some (.cells #[.int .i64 0,.int .i64 0,.int .i64 0,.int .i64 0,.int .i64 0,.int .i64 0,.int .i64 0,.int .i64 0,.int .i64 0,.int .i64 0] 45 (0,0))):=Aside0.mk hbox;clear hb hbox hg;have kgr:=blk_cell Kgr.out;have fgr:=blk_frozen Kgr.out) | ((with_reducible refine gate_dst (N:=4) rfl ?_);replace HB : Aside0 (Below w.heap.size w W1):=HB;refine box_event ?hg (N:=4) ?hd (cs:=#[.int .i64 0,.int .i64 0]) (t:=50) ?hr ?_;(case hd => rfl);(case hg => rfl);(case hr => first | (go_simp;done) | (go_simp;rfl));intro gf hg W2 hbox hb;have Lgf : Aside0 (w.heap.size ≤ gf):=Aside0.mk (by rw [hg];exact below_size HB.out);have Ngr_gf : Aside0 (gr ≠ gf):=Aside0.mk (by rw [hg];exact Nat.ne_of_lt (blk_lt Kgr.out));have Ngf_gr : Aside0 (gf ≠ gr):=Aside0.mk (fun e => Ngr_gf.out e.symm);replace Kgr:=Aside0.mk (blk_below Kgr.out hb);replace HB : Aside0 (Below w.heap.size w W2):=Aside0.mk (below_step HB.out hb);clear kgr fgr;have Kgf : Aside0 (W2.heap[gf]? = some (.cells #[.int .i64 0,.int .i64 0] 50 (0,0))):=Aside0.mk hbox;clear hb hbox hg;have kgr:=blk_cell Kgr.out;have fgr:=blk_frozen Kgr.out;have kgf:=blk_cell Kgf.out;have fgf:=blk_frozen Kgf.out) | ((with_reducible refine gate_store (t:=45) (p:=2) rfl ?_);replace HB : Aside0 (Below w.heap.size w W2):=HB;refine H.put_event (t:=45) (p:=2) (i:=0) rfl rfl rfl [.int .i64 0,.int .i64 0,.int .i64 0,.int .i64 0,.int .i64 0,.int .i64 0,.int .i64 0,.int .i64 0,.int .i64 0,.int .i64 0] Kgr.out rfl rfl (by kernel_rfl) (by kernel_rfl) (by kernel_rfl) ?_;intro W3 hw;replace Kgr : Aside0 (W3.heap[gr]? = some (.cells #[.int .i64 0,.int .i64 0,.int .i64 0,.int .i64 0,.int .i64 0,.int .i64 0,.int .i64 0,.int .i64 0,.int .i64 0,.int .i64 0] 45 (0,0))):=Aside0.mk (H.blk_fill hw Kgr.out (by kernel_rfl));replace Kgf:=Aside0.mk (H.far_fill hw Ngf_gr.out Kgf.out);replace HB : Aside0 (Below w.heap.size w W3):=Aside0.mk (H.below_fill hw Lgr.out HB.out);clear kgr fgr kgf fgf;clear hw;have kgr:=blk_cell Kgr.out;have fgr:=blk_frozen Kgr.out;have kgf:=blk_cell Kgf.out;have fgf:=blk_frozen Kgf.out) | ((with_reducible refine gate_store (t:=50) (p:=4) rfl ?_);replace HB : Aside0 (Below w.heap.size w W3):=HB;refine H.put_event (t:=50) (p:=4) (i:=0) rfl rfl rfl [.int .i64 41,.int .i64 0] Kgf.out rfl rfl (by kernel_rfl) (by kernel_rfl) (by kernel_rfl) ?_;intro W4 hw;replace Kgr:=Aside0.mk (H.far_fill hw Ngr_gf.out Kgr.out);replace Kgf : Aside0 (W4.heap[gf]? = some (.cells #[.int .i64 41,.int .i64 0] 50 (0,0))):=Aside0.mk (H.blk_fill hw Kgf.out (by kernel_rfl));replace HB : Aside0 (Below w.heap.size w W4):=Aside0.mk (H.below_fill hw Lgf.out HB.out);clear kgr fgr kgf fgf;clear hw;have kgr:=blk_cell Kgr.out;have fgr:=blk_frozen Kgr.out;have kgf:=blk_cell Kgf.out;have fgf:=blk_frozen Kgf.out))
 refine bodyPost_ret (results_ctc rfl _ _ gr gf 45 50 #[.int .i64 0,.int .i64 0,.int .i64 0,.int .i64 0,.int .i64 0,.int .i64 0,.int .i64 0,.int .i64 0,.int .i64 0,.int .i64 0] #[.int .i64 41,.int .i64 0] (0,0) (0,0) _ _ rfl Kgr.out Try.underlying45 rfl (by kernel_rfl) rfl Kgf.out Try.underlying50 rfl (by kernel_rfl)) rfl ?_
 exact ⟨rfl,HB.out⟩
set_option maxHeartbeats 4000000 in
set_option maxRecDepth 100000 in
theorem rread_head0 (ad : Addr) (c0 : Nat) (l0 : List Int) (w : World) (hr0 : Kd.C (Kd.int .u8) w (some ad) l0.length l0) (hc0 : l0.length ≤ c0) (h4 : 4 ≤ l0.length)  (bn : l0.getD 0 0 ≠ 82) :
  Calls Try.prog 66 #[.slice (some ad) l0.length c0] w fun e w' => e = .returned (.tuple #[.agg #[.int .i64 0,.int .i64 0,.int .i64 0,.int .i64 0,.int .i64 0,.int .i64 0,.int .i64 0,.int .i64 0,.int .i64 0,.int .i64 0],.int .i64 0,.agg #[.int .i64 41,.int .i64 0]]) ∧ Below w.heap.size w w':=by
 have HR0:=Aside0.mk hr0
 have HC0:=Aside0.mk hc0
 have HB:=Aside0.mk (Below.refl w.heap.size w)
 have hlt : decide ((l0.length : Int) < 4) = false:=decide_eq_false (by omega)
 have hge : 4 ≤ l0.length:=h4
 have hge2 : (4 : Int) ≤ (l0.length : Int):=by omega
 have H4:=Aside0.mk h4
 generalize hxb : l0.getD 0 0 = xb at bn
 have B0:=Aside0.mk hxb
 have bn1 : (xb != 82) = true:=bne_iff_ne.2 bn
 have bn2 : (xb == 82) = false:=beq_eq_false_iff_ne.2 bn
 clear hxb
 clear hr0 hc0 h4 
 go_enter Try.func66,Try.ntmps66
 go_wp2_with (first | ((with_reducible refine gate_dst (N:=2) rfl ?_);replace HB : Aside0 (Below w.heap.size w w):=HB;refine box_event ?hg (N:=2) ?hd (cs:=#[.int .i64 0,.int .i64 0,.int .i64 0,.int .i64 0,.int .i64 0,.int .i64 0,.int .i64 0,.int .i64 0,.int .i64 0,.int .i64 0]) (t:=45) ?hr ?_;(case hd => rfl);(case hg => rfl);(case hr => first | (go_simp;done) | (go_simp;rfl));intro gr hg W1 hbox hb;have Lgr : Aside0 (w.heap.size ≤ gr):=Aside0.mk (by rw [hg];exact below_size HB.out);replace HB : Aside0 (Below w.heap.size w W1):=Aside0.mk (below_step HB.out hb);have Kgr : Aside0 (W1.heap[gr]? = some (.cells #[.int .i64 0,.int .i64 0,.int .i64 0,.int .i64 0,.int .i64 0,.int .i64 0,.int .i64 0,.int .i64 0,.int .i64 0,.int .i64 0] 45 (0,0))):=Aside0.mk hbox;clear hb hbox hg;have kgr:=blk_cell Kgr.out;have fgr:=blk_frozen Kgr.out) | ((with_reducible refine gate_dst (N:=4) rfl ?_);replace HB : Aside0 (Below w.heap.size w W1):=HB;refine box_event ?hg (N:=4) ?hd (cs:=#[.int .i64 0,.int .i64 0]) (t:=50) ?hr ?_;(case hd => rfl);(case hg => rfl);(case hr => first | (go_simp;done) | (go_simp;rfl));intro gf hg W2 hbox hb;have Lgf : Aside0 (w.heap.size ≤ gf):=Aside0.mk (by rw [hg];exact below_size HB.out);have Ngr_gf : Aside0 (gr ≠ gf):=Aside0.mk (by rw [hg];exact Nat.ne_of_lt (blk_lt Kgr.out));have Ngf_gr : Aside0 (gf ≠ gr):=Aside0.mk (fun e => Ngr_gf.out e.symm);replace Kgr:=Aside0.mk (blk_below Kgr.out hb);replace HB : Aside0 (Below w.heap.size w W2):=Aside0.mk (below_step HB.out hb);clear kgr fgr;have Kgf : Aside0 (W2.heap[gf]? = some (.cells #[.int .i64 0,.int .i64 0] 50 (0,0))):=Aside0.mk hbox;clear hb hbox hg;have kgr:=blk_cell Kgr.out;have fgr:=blk_frozen Kgr.out;have kgf:=blk_cell Kgf.out;have fgf:=blk_frozen Kgf.out;have kb:=byte_in0 HR0.out H4.out HB.out B0.out) | ((with_reducible refine gate_store (t:=45) (p:=2) rfl ?_);replace HB : Aside0 (Below w.heap.size w W2):=HB;refine H.put_event (t:=45) (p:=2) (i:=0) rfl rfl rfl [.int .i64 0,.int .i64 0,.int .i64 0,.int .i64 0,.int .i64 0,.int .i64 0,.int .i64 0,.int .i64 0,.int .i64 0,.int .i64 0] Kgr.out rfl rfl (by kernel_rfl) (by kernel_rfl) (by kernel_rfl) ?_;intro W3 hw;replace Kgr : Aside0 (W3.heap[gr]? = some (.cells #[.int .i64 0,.int .i64 0,.int .i64 0,.int .i64 0,.int .i64 0,.int .i64 0,.int .i64 0,.int .i64 0,.int .i64 0,.int .i64 0] 45 (0,0))):=Aside0.mk (H.blk_fill hw Kgr.out (by kernel_rfl));replace Kgf:=Aside0.mk (H.far_fill hw Ngf_gr.out Kgf.out);replace HB : Aside0 (Below w.heap.size w W3):=Aside0.mk (H.below_fill hw Lgr.out HB.out);clear kgr fgr kgf fgf kb;clear hw;have kgr:=blk_cell Kgr.out;have fgr:=blk_frozen Kgr.out;have kgf:=blk_cell Kgf.out;have fgf:=blk_frozen Kgf.out) | ((with_reducible refine gate_store (t:=50) (p:=4) rfl ?_);replace HB : Aside0 (Below w.heap.size w W3):=HB;refine H.put_event (t:=50) (p:=4) (i:=0) rfl rfl rfl [.int .i64 41,.int .i64 0] Kgf.out rfl rfl (by kernel_rfl) (by kernel_rfl) (by kernel_rfl) ?_;intro W4 hw;replace Kgr:=Aside0.mk (H.far_fill hw Ngr_gf.out Kgr.out);replace Kgf : Aside0 (W4.heap[gf]? = some (.cells #[.int .i64 41,.int .i64 0] 50 (0,0))):=Aside0.mk (H.blk_fill hw Kgf.out (by kernel_rfl));replace HB : Aside0 (Below w.heap.size w W4):=Aside0.mk (H.below_fill hw Lgf.out HB.out);clear kgr fgr kgf fgf;clear hw;have kgr:=blk_cell Kgr.out;have fgr:=blk_frozen Kgr.out;have kgf:=blk_cell Kgf.out;have fgf:=blk_frozen Kgf.out))
 refine bodyPost_ret (results_ctc rfl _ _ gr gf 45 50 #[.int .i64 0,.int .i64 0,.int .i64 0,.int .i64 0,.int .i64 0,.int .i64 0,.int .i64 0,.int .i64 0,.int .i64 0,.int .i64 0] #[.int .i64 41,.int .i64 0] (0,0) (0,0) _ _ rfl Kgr.out Try.underlying45 rfl (by kernel_rfl) rfl Kgf.out Try.underlying50 rfl (by kernel_rfl)) rfl ?_
 exact ⟨rfl,HB.out⟩
set_option maxHeartbeats 4000000 in
set_option maxRecDepth 100000 in
theorem rread_head1 (ad : Addr) (c0 : Nat) (l0 : List Int) (w : World) (hr0 : Kd.C (Kd.int .u8) w (some ad) l0.length l0) (hc0 : l0.length ≤ c0) (h4 : 4 ≤ l0.length) (b0 : l0.getD 0 0 = 82) (bn : l0.getD 1 0 ≠ 69) :
  Calls Try.prog 66 #[.slice (some ad) l0.length c0] w fun e w' => e = .returned (.tuple #[.agg #[.int .i64 0,.int .i64 0,.int .i64 0,.int .i64 0,.int .i64 0,.int .i64 0,.int .i64 0,.int .i64 0,.int .i64 0,.int .i64 0],.int .i64 0,.agg #[.int .i64 41,.int .i64 0]]) ∧ Below w.heap.size w w':=by
 have HR0:=Aside0.mk hr0
 have HC0:=Aside0.mk hc0
 have HB:=Aside0.mk (Below.refl w.heap.size w)
 have hlt : decide ((l0.length : Int) < 4) = false:=decide_eq_false (by omega)
 have hge : 4 ≤ l0.length:=h4
 have hge2 : (4 : Int) ≤ (l0.length : Int):=by omega
 have H4:=Aside0.mk h4
 have B0:=Aside0.mk b0
 generalize hxb : l0.getD 1 0 = xb at bn
 have B1:=Aside0.mk hxb
 have bn1 : (xb != 69) = true:=bne_iff_ne.2 bn
 have bn2 : (xb == 69) = false:=beq_eq_false_iff_ne.2 bn
 clear hxb
 clear hr0 hc0 h4 b0
 go_enter Try.func66,Try.ntmps66
 go_wp2_with (first | ((with_reducible refine gate_dst (N:=2) rfl ?_);replace HB : Aside0 (Below w.heap.size w w):=HB;refine box_event ?hg (N:=2) ?hd (cs:=#[.int .i64 0,.int .i64 0,.int .i64 0,.int .i64 0,.int .i64 0,.int .i64 0,.int .i64 0,.int .i64 0,.int .i64 0,.int .i64 0]) (t:=45) ?hr ?_;(case hd => rfl);(case hg => rfl);(case hr => first | (go_simp;done) | (go_simp;rfl));intro gr hg W1 hbox hb;have Lgr : Aside0 (w.heap.size ≤ gr):=Aside0.mk (by rw [hg];exact below_size HB.out);replace HB : Aside0 (Below w.heap.size w W1):=Aside0.mk (below_step HB.out hb);have Kgr : Aside0 (W1.heap[gr]? = some (.cells #[.int .i64 0,.int .i64 0,.int .i64 0,.int .i64 0,.int .i64 0,.int .i64 0,.int .i64 0,.int .i64 0,.int .i64 0,.int .i64 0] 45 (0,0))):=Aside0.mk hbox;clear hb hbox hg;have kgr:=blk_cell Kgr.out;have fgr:=blk_frozen Kgr.out) | ((with_reducible refine gate_dst (N:=4) rfl ?_);replace HB : Aside0 (Below w.heap.size w W1):=HB;refine box_event ?hg (N:=4) ?hd (cs:=#[.int .i64 0,.int .i64 0]) (t:=50) ?hr ?_;(case hd => rfl);(case hg => rfl);(case hr => first | (go_simp;done) | (go_simp;rfl));intro gf hg W2 hbox hb;have Lgf : Aside0 (w.heap.size ≤ gf):=Aside0.mk (by rw [hg];exact below_size HB.out);have Ngr_gf : Aside0 (gr ≠ gf):=Aside0.mk (by rw [hg];exact Nat.ne_of_lt (blk_lt Kgr.out));have Ngf_gr : Aside0 (gf ≠ gr):=Aside0.mk (fun e => Ngr_gf.out e.symm);replace Kgr:=Aside0.mk (blk_below Kgr.out hb);replace HB : Aside0 (Below w.heap.size w W2):=Aside0.mk (below_step HB.out hb);clear kgr fgr;have Kgf : Aside0 (W2.heap[gf]? = some (.cells #[.int .i64 0,.int .i64 0] 50 (0,0))):=Aside0.mk hbox;clear hb hbox hg;have kgr:=blk_cell Kgr.out;have fgr:=blk_frozen Kgr.out;have kgf:=blk_cell Kgf.out;have fgf:=blk_frozen Kgf.out;have kb1:=byte_in1 HR0.out H4.out HB.out 1 (by decide) (by decide) B1.out;have kb:=byte_in0 HR0.out H4.out HB.out B0.out) | ((with_reducible refine gate_store (t:=45) (p:=2) rfl ?_);replace HB : Aside0 (Below w.heap.size w W2):=HB;refine H.put_event (t:=45) (p:=2) (i:=0) rfl rfl rfl [.int .i64 0,.int .i64 0,.int .i64 0,.int .i64 0,.int .i64 0,.int .i64 0,.int .i64 0,.int .i64 0,.int .i64 0,.int .i64 0] Kgr.out rfl rfl (by kernel_rfl) (by kernel_rfl) (by kernel_rfl) ?_;intro W3 hw;replace Kgr : Aside0 (W3.heap[gr]? = some (.cells #[.int .i64 0,.int .i64 0,.int .i64 0,.int .i64 0,.int .i64 0,.int .i64 0,.int .i64 0,.int .i64 0,.int .i64 0,.int .i64 0] 45 (0,0))):=Aside0.mk (H.blk_fill hw Kgr.out (by kernel_rfl));replace Kgf:=Aside0.mk (H.far_fill hw Ngf_gr.out Kgf.out);replace HB : Aside0 (Below w.heap.size w W3):=Aside0.mk (H.below_fill hw Lgr.out HB.out);clear kgr fgr kgf fgf kb1 kb;clear hw;have kgr:=blk_cell Kgr.out;have fgr:=blk_frozen Kgr.out;have kgf:=blk_cell Kgf.out;have fgf:=blk_frozen Kgf.out) | ((with_reducible refine gate_store (t:=50) (p:=4) rfl ?_);replace HB : Aside0 (Below w.heap.size w W3):=HB;refine H.put_event (t:=50) (p:=4) (i:=0) rfl rfl rfl [.int .i64 41,.int .i64 0] Kgf.out rfl rfl (by kernel_rfl) (by kernel_rfl) (by kernel_rfl) ?_;intro W4 hw;replace Kgr:=Aside0.mk (H.far_fill hw Ngr_gf.out Kgr.out);replace Kgf : Aside0 (W4.heap[gf]? = some (.cells #[.int .i64 41,.int .i64 0] 50 (0,0))):=Aside0.mk (H.blk_fill hw Kgf.out (by kernel_rfl));replace HB : Aside0 (Below w.heap.size w W4):=Aside0.mk (H.below_fill hw Lgf.out HB.out);clear kgr fgr kgf fgf;clear hw;have kgr:=blk_cell Kgr.out;have fgr:=blk_frozen Kgr.out;have kgf:=blk_cell Kgf.out;have fgf:=blk_frozen Kgf.out))
 refine bodyPost_ret (results_ctc rfl _ _ gr gf 45 50 #[.int .i64 0,.int .i64 0,.int .i64 0,.int .i64 0,.int .i64 0,.int .i64 0,.int .i64 0,.int .i64 0,.int .i64 0,.int .i64 0] #[.int .i64 41,.int .i64 0] (0,0) (0,0) _ _ rfl Kgr.out Try.underlying45 rfl (by kernel_rfl) rfl Kgf.out Try.underlying50 rfl (by kernel_rfl)) rfl ?_
 exact ⟨rfl,HB.out⟩
set_option maxHeartbeats 4000000 in
set_option maxRecDepth 100000 in
theorem rread_head2 (ad : Addr) (c0 : Nat) (l0 : List Int) (w : World) (hr0 : Kd.C (Kd.int .u8) w (some ad) l0.length l0) (hc0 : l0.length ≤ c0) (h4 : 4 ≤ l0.length) (b0 : l0.getD 0 0 = 82) (b1 : l0.getD 1 0 = 69) (bn : l0.getD 2 0 ≠ 69) :
  Calls Try.prog 66 #[.slice (some ad) l0.length c0] w fun e w' => e = .returned (.tuple #[.agg #[.int .i64 0,.int .i64 0,.int .i64 0,.int .i64 0,.int .i64 0,.int .i64 0,.int .i64 0,.int .i64 0,.int .i64 0,.int .i64 0],.int .i64 0,.agg #[.int .i64 41,.int .i64 0]]) ∧ Below w.heap.size w w':=by
 have HR0:=Aside0.mk hr0
 have HC0:=Aside0.mk hc0
 have HB:=Aside0.mk (Below.refl w.heap.size w)
 have hlt : decide ((l0.length : Int) < 4) = false:=decide_eq_false (by omega)
 have hge : 4 ≤ l0.length:=h4
 have hge2 : (4 : Int) ≤ (l0.length : Int):=by omega
 have H4:=Aside0.mk h4
 have B0:=Aside0.mk b0
 have B1:=Aside0.mk b1
 generalize hxb : l0.getD 2 0 = xb at bn
 have B2:=Aside0.mk hxb
 have bn1 : (xb != 69) = true:=bne_iff_ne.2 bn
 have bn2 : (xb == 69) = false:=beq_eq_false_iff_ne.2 bn
 clear hxb
 clear hr0 hc0 h4 b0 b1
 go_enter Try.func66,Try.ntmps66
 go_wp2_with (first | ((with_reducible refine gate_dst (N:=2) rfl ?_);replace HB : Aside0 (Below w.heap.size w w):=HB;refine box_event ?hg (N:=2) ?hd (cs:=#[.int .i64 0,.int .i64 0,.int .i64 0,.int .i64 0,.int .i64 0,.int .i64 0,.int .i64 0,.int .i64 0,.int .i64 0,.int .i64 0]) (t:=45) ?hr ?_;(case hd => rfl);(case hg => rfl);(case hr => first | (go_simp;done) | (go_simp;rfl));intro gr hg W1 hbox hb;have Lgr : Aside0 (w.heap.size ≤ gr):=Aside0.mk (by rw [hg];exact below_size HB.out);replace HB : Aside0 (Below w.heap.size w W1):=Aside0.mk (below_step HB.out hb);have Kgr : Aside0 (W1.heap[gr]? = some (.cells #[.int .i64 0,.int .i64 0,.int .i64 0,.int .i64 0,.int .i64 0,.int .i64 0,.int .i64 0,.int .i64 0,.int .i64 0,.int .i64 0] 45 (0,0))):=Aside0.mk hbox;clear hb hbox hg;have kgr:=blk_cell Kgr.out;have fgr:=blk_frozen Kgr.out) | ((with_reducible refine gate_dst (N:=4) rfl ?_);replace HB : Aside0 (Below w.heap.size w W1):=HB;refine box_event ?hg (N:=4) ?hd (cs:=#[.int .i64 0,.int .i64 0]) (t:=50) ?hr ?_;(case hd => rfl);(case hg => rfl);(case hr => first | (go_simp;done) | (go_simp;rfl));intro gf hg W2 hbox hb;have Lgf : Aside0 (w.heap.size ≤ gf):=Aside0.mk (by rw [hg];exact below_size HB.out);have Ngr_gf : Aside0 (gr ≠ gf):=Aside0.mk (by rw [hg];exact Nat.ne_of_lt (blk_lt Kgr.out));have Ngf_gr : Aside0 (gf ≠ gr):=Aside0.mk (fun e => Ngr_gf.out e.symm);replace Kgr:=Aside0.mk (blk_below Kgr.out hb);replace HB : Aside0 (Below w.heap.size w W2):=Aside0.mk (below_step HB.out hb);clear kgr fgr;have Kgf : Aside0 (W2.heap[gf]? = some (.cells #[.int .i64 0,.int .i64 0] 50 (0,0))):=Aside0.mk hbox;clear hb hbox hg;have kgr:=blk_cell Kgr.out;have fgr:=blk_frozen Kgr.out;have kgf:=blk_cell Kgf.out;have fgf:=blk_frozen Kgf.out;have kb1:=byte_in1 HR0.out H4.out HB.out 1 (by decide) (by decide) B1.out;have kb2:=byte_in1 HR0.out H4.out HB.out 2 (by decide) (by decide) B2.out;have kb:=byte_in0 HR0.out H4.out HB.out B0.out) | ((with_reducible refine gate_store (t:=45) (p:=2) rfl ?_);replace HB : Aside0 (Below w.heap.size w W2):=HB;refine H.put_event (t:=45) (p:=2) (i:=0) rfl rfl rfl [.int .i64 0,.int .i64 0,.int .i64 0,.int .i64 0,.int .i64 0,.int .i64 0,.int .i64 0,.int .i64 0,.int .i64 0,.int .i64 0] Kgr.out rfl rfl (by kernel_rfl) (by kernel_rfl) (by kernel_rfl) ?_;intro W3 hw;replace Kgr : Aside0 (W3.heap[gr]? = some (.cells #[.int .i64 0,.int .i64 0,.int .i64 0,.int .i64 0,.int .i64 0,.int .i64 0,.int .i64 0,.int .i64 0,.int .i64 0,.int .i64 0] 45 (0,0))):=Aside0.mk (H.blk_fill hw Kgr.out (by kernel_rfl));replace Kgf:=Aside0.mk (H.far_fill hw Ngf_gr.out Kgf.out);replace HB : Aside0 (Below w.heap.size w W3):=Aside0.mk (H.below_fill hw Lgr.out HB.out);clear kgr fgr kgf fgf kb1 kb2 kb;clear hw;have kgr:=blk_cell Kgr.out;have fgr:=blk_frozen Kgr.out;have kgf:=blk_cell Kgf.out;have fgf:=blk_frozen Kgf.out) | ((with_reducible refine gate_store (t:=50) (p:=4) rfl ?_);replace HB : Aside0 (Below w.heap.size w W3):=HB;refine H.put_event (t:=50) (p:=4) (i:=0) rfl rfl rfl [.int .i64 41,.int .i64 0] Kgf.out rfl rfl (by kernel_rfl) (by kernel_rfl) (by kernel_rfl) ?_;intro W4 hw;replace Kgr:=Aside0.mk (H.far_fill hw Ngr_gf.out Kgr.out);replace Kgf : Aside0 (W4.heap[gf]? = some (.cells #[.int .i64 41,.int .i64 0] 50 (0,0))):=Aside0.mk (H.blk_fill hw Kgf.out (by kernel_rfl));replace HB : Aside0 (Below w.heap.size w W4):=Aside0.mk (H.below_fill hw Lgf.out HB.out);clear kgr fgr kgf fgf;clear hw;have kgr:=blk_cell Kgr.out;have fgr:=blk_frozen Kgr.out;have kgf:=blk_cell Kgf.out;have fgf:=blk_frozen Kgf.out))
 refine bodyPost_ret (results_ctc rfl _ _ gr gf 45 50 #[.int .i64 0,.int .i64 0,.int .i64 0,.int .i64 0,.int .i64 0,.int .i64 0,.int .i64 0,.int .i64 0,.int .i64 0,.int .i64 0] #[.int .i64 41,.int .i64 0] (0,0) (0,0) _ _ rfl Kgr.out Try.underlying45 rfl (by kernel_rfl) rfl Kgf.out Try.underlying50 rfl (by kernel_rfl)) rfl ?_
 exact ⟨rfl,HB.out⟩
set_option maxHeartbeats 4000000 in
set_option maxRecDepth 100000 in
theorem rread_head3 (ad : Addr) (c0 : Nat) (l0 : List Int) (w : World) (hr0 : Kd.C (Kd.int .u8) w (some ad) l0.length l0) (hc0 : l0.length ≤ c0) (h4 : 4 ≤ l0.length) (b0 : l0.getD 0 0 = 82) (b1 : l0.getD 1 0 = 69) (b2 : l0.getD 2 0 = 69) (bn : l0.getD 3 0 ≠ 76) :
  Calls Try.prog 66 #[.slice (some ad) l0.length c0] w fun e w' => e = .returned (.tuple #[.agg #[.int .i64 0,.int .i64 0,.int .i64 0,.int .i64 0,.int .i64 0,.int .i64 0,.int .i64 0,.int .i64 0,.int .i64 0,.int .i64 0],.int .i64 0,.agg #[.int .i64 41,.int .i64 0]]) ∧ Below w.heap.size w w':=by
 have HR0:=Aside0.mk hr0
 have HC0:=Aside0.mk hc0
 have HB:=Aside0.mk (Below.refl w.heap.size w)
 have hlt : decide ((l0.length : Int) < 4) = false:=decide_eq_false (by omega)
 have hge : 4 ≤ l0.length:=h4
 have hge2 : (4 : Int) ≤ (l0.length : Int):=by omega
 have H4:=Aside0.mk h4
 have B0:=Aside0.mk b0
 have B1:=Aside0.mk b1
 have B2:=Aside0.mk b2
 generalize hxb : l0.getD 3 0 = xb at bn
 have B3:=Aside0.mk hxb
 have bn1 : (xb != 76) = true:=bne_iff_ne.2 bn
 have bn2 : (xb == 76) = false:=beq_eq_false_iff_ne.2 bn
 clear hxb
 clear hr0 hc0 h4 b0 b1 b2
 go_enter Try.func66,Try.ntmps66
 go_wp2_with (first | ((with_reducible refine gate_dst (N:=2) rfl ?_);replace HB : Aside0 (Below w.heap.size w w):=HB;refine box_event ?hg (N:=2) ?hd (cs:=#[.int .i64 0,.int .i64 0,.int .i64 0,.int .i64 0,.int .i64 0,.int .i64 0,.int .i64 0,.int .i64 0,.int .i64 0,.int .i64 0]) (t:=45) ?hr ?_;(case hd => rfl);(case hg => rfl);(case hr => first | (go_simp;done) | (go_simp;rfl));intro gr hg W1 hbox hb;have Lgr : Aside0 (w.heap.size ≤ gr):=Aside0.mk (by rw [hg];exact below_size HB.out);replace HB : Aside0 (Below w.heap.size w W1):=Aside0.mk (below_step HB.out hb);have Kgr : Aside0 (W1.heap[gr]? = some (.cells #[.int .i64 0,.int .i64 0,.int .i64 0,.int .i64 0,.int .i64 0,.int .i64 0,.int .i64 0,.int .i64 0,.int .i64 0,.int .i64 0] 45 (0,0))):=Aside0.mk hbox;clear hb hbox hg;have kgr:=blk_cell Kgr.out;have fgr:=blk_frozen Kgr.out) | ((with_reducible refine gate_dst (N:=4) rfl ?_);replace HB : Aside0 (Below w.heap.size w W1):=HB;refine box_event ?hg (N:=4) ?hd (cs:=#[.int .i64 0,.int .i64 0]) (t:=50) ?hr ?_;(case hd => rfl);(case hg => rfl);(case hr => first | (go_simp;done) | (go_simp;rfl));intro gf hg W2 hbox hb;have Lgf : Aside0 (w.heap.size ≤ gf):=Aside0.mk (by rw [hg];exact below_size HB.out);have Ngr_gf : Aside0 (gr ≠ gf):=Aside0.mk (by rw [hg];exact Nat.ne_of_lt (blk_lt Kgr.out));have Ngf_gr : Aside0 (gf ≠ gr):=Aside0.mk (fun e => Ngr_gf.out e.symm);replace Kgr:=Aside0.mk (blk_below Kgr.out hb);replace HB : Aside0 (Below w.heap.size w W2):=Aside0.mk (below_step HB.out hb);clear kgr fgr;have Kgf : Aside0 (W2.heap[gf]? = some (.cells #[.int .i64 0,.int .i64 0] 50 (0,0))):=Aside0.mk hbox;clear hb hbox hg;have kgr:=blk_cell Kgr.out;have fgr:=blk_frozen Kgr.out;have kgf:=blk_cell Kgf.out;have fgf:=blk_frozen Kgf.out;have kb1:=byte_in1 HR0.out H4.out HB.out 1 (by decide) (by decide) B1.out;have kb2:=byte_in1 HR0.out H4.out HB.out 2 (by decide) (by decide) B2.out;have kb3:=byte_in1 HR0.out H4.out HB.out 3 (by decide) (by decide) B3.out;have kb:=byte_in0 HR0.out H4.out HB.out B0.out) | ((with_reducible refine gate_store (t:=45) (p:=2) rfl ?_);replace HB : Aside0 (Below w.heap.size w W2):=HB;refine H.put_event (t:=45) (p:=2) (i:=0) rfl rfl rfl [.int .i64 0,.int .i64 0,.int .i64 0,.int .i64 0,.int .i64 0,.int .i64 0,.int .i64 0,.int .i64 0,.int .i64 0,.int .i64 0] Kgr.out rfl rfl (by kernel_rfl) (by kernel_rfl) (by kernel_rfl) ?_;intro W3 hw;replace Kgr : Aside0 (W3.heap[gr]? = some (.cells #[.int .i64 0,.int .i64 0,.int .i64 0,.int .i64 0,.int .i64 0,.int .i64 0,.int .i64 0,.int .i64 0,.int .i64 0,.int .i64 0] 45 (0,0))):=Aside0.mk (H.blk_fill hw Kgr.out (by kernel_rfl));replace Kgf:=Aside0.mk (H.far_fill hw Ngf_gr.out Kgf.out);replace HB : Aside0 (Below w.heap.size w W3):=Aside0.mk (H.below_fill hw Lgr.out HB.out);clear kgr fgr kgf fgf kb1 kb2 kb3 kb;clear hw;have kgr:=blk_cell Kgr.out;have fgr:=blk_frozen Kgr.out;have kgf:=blk_cell Kgf.out;have fgf:=blk_frozen Kgf.out) | ((with_reducible refine gate_store (t:=50) (p:=4) rfl ?_);replace HB : Aside0 (Below w.heap.size w W3):=HB;refine H.put_event (t:=50) (p:=4) (i:=0) rfl rfl rfl [.int .i64 41,.int .i64 0] Kgf.out rfl rfl (by kernel_rfl) (by kernel_rfl) (by kernel_rfl) ?_;intro W4 hw;replace Kgr:=Aside0.mk (H.far_fill hw Ngr_gf.out Kgr.out);replace Kgf : Aside0 (W4.heap[gf]? = some (.cells #[.int .i64 41,.int .i64 0] 50 (0,0))):=Aside0.mk (H.blk_fill hw Kgf.out (by kernel_rfl));replace HB : Aside0 (Below w.heap.size w W4):=Aside0.mk (H.below_fill hw Lgf.out HB.out);clear kgr fgr kgf fgf;clear hw;have kgr:=blk_cell Kgr.out;have fgr:=blk_frozen Kgr.out;have kgf:=blk_cell Kgf.out;have fgf:=blk_frozen Kgf.out))
 refine bodyPost_ret (results_ctc rfl _ _ gr gf 45 50 #[.int .i64 0,.int .i64 0,.int .i64 0,.int .i64 0,.int .i64 0,.int .i64 0,.int .i64 0,.int .i64 0,.int .i64 0,.int .i64 0] #[.int .i64 41,.int .i64 0] (0,0) (0,0) _ _ rfl Kgr.out Try.underlying45 rfl (by kernel_rfl) rfl Kgf.out Try.underlying50 rfl (by kernel_rfl)) rfl ?_
 exact ⟨rfl,HB.out⟩
set_option maxHeartbeats 4000000 in
set_option maxRecDepth 100000 in
theorem rread_loop (ad : Addr) (c0 : Nat) (l0 : List Int) (R : Pol.Py × Int × Int × Int) (w : World) (hr0 : Kd.C (Kd.int .u8) w (some ad) l0.length l0) (hc0 : l0.length ≤ c0) (h4 : 4 ≤ l0.length) (hby : M.bytes l0 = true) (hnl : (l0.length : Int) ≤ 4611686018427387904) (hS : l0.take 4 = Pol.reel) (b0 : l0.getD 0 0 = 82) (b1 : l0.getD 1 0 = 69) (b2 : l0.getD 2 0 = 69) (b3 : l0.getD 3 0 = 76) (hR : Pol.read l0 = R) :
  Calls Try.prog 66 #[.slice (some ad) l0.length c0] w fun e w' => e = .returned (.tuple #[.agg #[.int .i64 (R.1.kind),.int .i64 (R.1.cap),.int .i64 (R.1.num),.int .i64 (R.1.den),.int .i64 (R.1.width),.int .i64 (R.1.count),.int .i64 (R.1.keys),.int .i64 (R.1.slots),.int .i64 (R.1.every),.int .i64 (R.1.seg)],.int .i64 R.2.1,.agg #[.int .i64 R.2.2.1,.int .i64 R.2.2.2]]) ∧ Below w.heap.size w w':=by
 have HS:=Aside0.mk hS
 have HR:=Aside0.mk hR
 have HY:=Aside0.mk hby
 have HN:=Aside0.mk hnl
 clear hS hR hby hnl
 have HR0:=Aside0.mk hr0
 have HC0:=Aside0.mk hc0
 have HB:=Aside0.mk (Below.refl w.heap.size w)
 have hlt : decide ((l0.length : Int) < 4) = false:=decide_eq_false (by omega)
 have hge : 4 ≤ l0.length:=h4
 have hge2 : (4 : Int) ≤ (l0.length : Int):=by omega
 have H4:=Aside0.mk h4
 have B0:=Aside0.mk b0
 have B1:=Aside0.mk b1
 have B2:=Aside0.mk b2
 have B3:=Aside0.mk b3
 clear hr0 hc0 h4 b0 b1 b2 b3
 go_enter Try.func66,Try.ntmps66
 go_wp2_with (first | ((with_reducible refine gate_dst (N:=2) rfl ?_);replace HB : Aside0 (Below w.heap.size w w):=HB;refine box_event ?hg (N:=2) ?hd (cs:=#[.int .i64 0,.int .i64 0,.int .i64 0,.int .i64 0,.int .i64 0,.int .i64 0,.int .i64 0,.int .i64 0,.int .i64 0,.int .i64 0]) (t:=45) ?hr ?_;(case hd => rfl);(case hg => rfl);(case hr => first | (go_simp;done) | (go_simp;rfl));intro gr hg W1 hbox hb;have Lgr : Aside0 (w.heap.size ≤ gr):=Aside0.mk (by rw [hg];exact below_size HB.out);replace HB : Aside0 (Below w.heap.size w W1):=Aside0.mk (below_step HB.out hb);have Kgr : Aside0 (W1.heap[gr]? = some (.cells #[.int .i64 0,.int .i64 0,.int .i64 0,.int .i64 0,.int .i64 0,.int .i64 0,.int .i64 0,.int .i64 0,.int .i64 0,.int .i64 0] 45 (0,0))):=Aside0.mk hbox;clear hb hbox hg;have kgr:=blk_cell Kgr.out;have fgr:=blk_frozen Kgr.out) | ((with_reducible refine gate_dst (N:=4) rfl ?_);replace HB : Aside0 (Below w.heap.size w W1):=HB;refine box_event ?hg (N:=4) ?hd (cs:=#[.int .i64 0,.int .i64 0]) (t:=50) ?hr ?_;(case hd => rfl);(case hg => rfl);(case hr => first | (go_simp;done) | (go_simp;rfl));intro gf hg W2 hbox hb;have Lgf : Aside0 (w.heap.size ≤ gf):=Aside0.mk (by rw [hg];exact below_size HB.out);have Ngr_gf : Aside0 (gr ≠ gf):=Aside0.mk (by rw [hg];exact Nat.ne_of_lt (blk_lt Kgr.out));have Ngf_gr : Aside0 (gf ≠ gr):=Aside0.mk (fun e => Ngr_gf.out e.symm);replace Kgr:=Aside0.mk (blk_below Kgr.out hb);replace HB : Aside0 (Below w.heap.size w W2):=Aside0.mk (below_step HB.out hb);clear kgr fgr;have Kgf : Aside0 (W2.heap[gf]? = some (.cells #[.int .i64 0,.int .i64 0] 50 (0,0))):=Aside0.mk hbox;clear hb hbox hg;have kgr:=blk_cell Kgr.out;have fgr:=blk_frozen Kgr.out;have kgf:=blk_cell Kgf.out;have fgf:=blk_frozen Kgf.out;have kb1:=byte_in1 HR0.out H4.out HB.out 1 (by decide) (by decide) B1.out;have kb2:=byte_in1 HR0.out H4.out HB.out 2 (by decide) (by decide) B2.out;have kb3:=byte_in1 HR0.out H4.out HB.out 3 (by decide) (by decide) B3.out;have kb:=byte_in0 HR0.out H4.out HB.out B0.out))
 clear kgr fgr kgf fgf kb1 kb2 kb3 kb
 go_loopg [5,6,7] 9 (fun kq v5 v6 v7 w' => ∃ (j : Nat) (a : Int) (xs : List Int),v7 = .int .i64 (j : Int) ∧ v6 = .int .i64 a ∧ Aside0 (j ≤ 8 ∧ 8 < kq + j ∧ xs.length = j) ∧ Aside0 (0 ≤ a ∧ a ≤ (l0.length : Int)) ∧ Aside0 ((j = 0 ∧ a = 4) ∨ (0 < j ∧ Pol.fin8 l0 xs (8 - j) a = R)) ∧ Aside0 (R3 w.heap.size w' v5 xs) ∧ Aside0 (w'.heap[gr]? = some (.cells #[.int .i64 0,.int .i64 0,.int .i64 0,.int .i64 0,.int .i64 0,.int .i64 0,.int .i64 0,.int .i64 0,.int .i64 0,.int .i64 0] 45 (0,0))) ∧ Aside0 (w'.heap[gf]? = some (.cells #[.int .i64 0,.int .i64 0] 50 (0,0))) ∧ Aside0 (Below w.heap.size w w'))
 case atStart => exact ⟨0,4,[],rfl,rfl,⟨by decide,by decide,rfl⟩,⟨by decide,by have:=H4.out;omega⟩,⟨.inl ⟨rfl,rfl⟩⟩,⟨Kd.R_nil _ _ _ _ _⟩,Kgr,Kgf,HB⟩
 case round =>
  clear HB Kgr Kgf
  obtain ⟨j,a,xs,rfl,rfl,hj,HX,HI,HV,Kgr,Kgf,HB⟩:=hrel
  obtain ⟨j1,j2,j3⟩:=hj.out
  clear hj
  by_cases hlt : j < 8
  ·have HL:=Aside0.mk (show xs.length ≤ 1000 by omega)
   have JL:=Aside0.mk hlt
   have J2:=Aside0.mk j2
   have J3:=Aside0.mk j3
   have hlt' : decide ((j : Int) < 8) = true:=decide_eq_true (by omega)
   have hj0 : (0 : Int) ≤ (j : Int):=by omega
   have hj7 : (j : Int) ≤ 7:=by omega
   have hbr:=Pure.rread HY.out HN.out a (k:=40) (by decide)
   have hnx:=fun h => Pure.readn_next HY.out (a:=a) h
   by_cases hz : j = 0
   ·subst hz
    obtain rfl : a = 4:=HI.out.elim (fun h => h.2) (fun h => absurd h.1 (by decide))
    obtain rfl : xs = []:=List.eq_nil_of_length_eq_zero j3
    have hrd:=Pol.read_fin8 (l:=l0) HS.out
    have hr0 : (Pure.readn l0 4).2.2 ≠ 0 → Pol.read l0 = (Pol.zero,0,(Pure.readn l0 4).2.2,4):=fun h => by unfold Pol.read;rw [if_pos HS.out,if_neg h]
    have hr1 : (Pure.readn l0 4).2.2 = 0 → ¬ ((Pure.readn l0 4).1 = 1 ∨ (Pure.readn l0 4).1 = 2) → Pol.read l0 = (Pol.zero,0,40,4):=fun h h' => by unfold Pol.read;rw [if_pos HS.out,if_pos h,if_neg h']
    rw [HR.out] at hrd hr0 hr1
    clear HI j1 j2 j3 hlt
    generalize Pure.readn l0 4 = q at hbr hnx hrd hr0 hr1
    obtain ⟨n,m,er⟩:=q
    simp only at hnx hrd hr0 hr1
    have A2:=Aside0.mk hbr
    clear hbr
    by_cases he : er = 0
    ·subst he
     have Hm:=Aside0.mk (hnx rfl)
     by_cases n1 : n = 1
     ·subst n1
      have HG:=Aside0.mk (hrd rfl (.inl rfl)).symm
      clear hrd hr0 hr1 hnx
      go_wp2_with (first | (go_at_call 83;replace HB : Aside0 (Below w.heap.size w wr):=HB;(with_reducible refine (reeveref01_Read.calls 40 _ _ l0 4 1 m 0 _ ?qA21 ?qA22 A2.out).mono ?_);(case qA21 => exact Kd.C_below HR0.out HB.out);(case qA22 => exact HC0.out);rintro e W101 ⟨rfl,hd⟩;have hb:=Drawn0.below hd;clear hd;replace Kgr:=Aside0.mk (blk_below Kgr.out hb);replace Kgf:=Aside0.mk (blk_below Kgf.out hb);have nHV:=Aside0.mk (R3.below HV.out hb);replace HB : Aside0 (Below w.heap.size w W101):=Aside0.mk (below_step HB.out hb);clear HV;have HV:=nHV;clear nHV;clear hb;have kgr:=blk_cell Kgr.out;have fgr:=blk_frozen Kgr.out;have kgf:=blk_cell Kgf.out;have fgf:=blk_frozen Kgf.out) | ((with_reducible refine gate_dst (N:=80) rfl ?_);replace HB : Aside0 (Below w.heap.size w W101):=HB;refine H.slice_event (n:=1) ?hg (N:=80) ?hd (cs:=#[.int .i64 1]) (t:=3) ?hr ?_;(case hd => rfl);(case hg => rfl);(case hr => first | (go_simp;done) | (go_simp;rfl));intro gy hg W102 hbox hb;have Lgy : Aside0 (w.heap.size ≤ gy):=Aside0.mk (by rw [hg];exact below_size HB.out);have Ngr_gy : Aside0 (gr ≠ gy):=Aside0.mk (by rw [hg];exact Nat.ne_of_lt (blk_lt Kgr.out));have Ngy_gr : Aside0 (gy ≠ gr):=Aside0.mk (fun e => Ngr_gy.out e.symm);have Ngf_gy : Aside0 (gf ≠ gy):=Aside0.mk (by rw [hg];exact Nat.ne_of_lt (blk_lt Kgf.out));have Ngy_gf : Aside0 (gy ≠ gf):=Aside0.mk (fun e => Ngf_gy.out e.symm);replace Kgr:=Aside0.mk (blk_below Kgr.out hb);replace Kgf:=Aside0.mk (blk_below Kgf.out hb);have nHV:=Aside0.mk (R3.below HV.out hb);replace HB : Aside0 (Below w.heap.size w W102):=Aside0.mk (below_step HB.out hb);clear kgr fgr kgf fgf;clear HV;have HV:=nHV;clear nHV;have Kgy : Aside0 (W102.heap[gy]? = some (.cells #[.int .i64 1] 3 (0,0))):=Aside0.mk hbox;clear hb hbox hg;have kgr:=blk_cell Kgr.out;have fgr:=blk_frozen Kgr.out;have kgf:=blk_cell Kgf.out;have fgf:=blk_frozen Kgf.out;have kgy:=blk_cell Kgy.out;have fgy:=blk_frozen Kgy.out) | (refine ints_append (w0:=w) rfl (.tmp 78) (.tmp 80) rfl rfl rfl HV.out Kgy.out HB.out HL.out ?_;intro v1 W103 hr hB hk;clear HV;have HV:=Aside0.mk hr;replace Kgr : Aside0 (W103.heap[gr]? = some (.cells #[.int .i64 0,.int .i64 0,.int .i64 0,.int .i64 0,.int .i64 0,.int .i64 0,.int .i64 0,.int .i64 0,.int .i64 0,.int .i64 0] 45 (0,0))):=Aside0.mk (hk _ _ _ Kgr.out (by decide));replace Kgf : Aside0 (W103.heap[gf]? = some (.cells #[.int .i64 0,.int .i64 0] 50 (0,0))):=Aside0.mk (hk _ _ _ Kgf.out (by decide));replace HB : Aside0 (Below w.heap.size w W103):=Aside0.mk (hB);clear kgr fgr kgf fgf kgy fgy;clear hr hB hk Kgy;have kgr:=blk_cell Kgr.out;have fgr:=blk_frozen Kgr.out;have kgf:=blk_cell Kgf.out;have fgf:=blk_frozen Kgf.out))
      go_roundg (gk - 1)
      case measure => have:=J2.out;have:=JL.out;omega
      case rel =>
       exact ⟨0 + 1,m,[] ++ [1],by go_num,rfl,⟨by have:=JL.out;omega,by have:=J2.out;have:=JL.out;omega,rfl⟩,⟨by have:=Hm.out;omega,by have:=Hm.out;omega⟩,⟨.inr ⟨by omega,by simpa using HG.out⟩⟩,HV,Kgr,Kgf,HB⟩
     ·by_cases n2 : n = 2
      ·subst n2
       have HG:=Aside0.mk (hrd rfl (.inr rfl)).symm
       clear hrd hr0 hr1 hnx n1
       go_wp2_with (first | (go_at_call 83;replace HB : Aside0 (Below w.heap.size w wr):=HB;(with_reducible refine (reeveref01_Read.calls 40 _ _ l0 4 2 m 0 _ ?qA21 ?qA22 A2.out).mono ?_);(case qA21 => exact Kd.C_below HR0.out HB.out);(case qA22 => exact HC0.out);rintro e W101 ⟨rfl,hd⟩;have hb:=Drawn0.below hd;clear hd;replace Kgr:=Aside0.mk (blk_below Kgr.out hb);replace Kgf:=Aside0.mk (blk_below Kgf.out hb);have nHV:=Aside0.mk (R3.below HV.out hb);replace HB : Aside0 (Below w.heap.size w W101):=Aside0.mk (below_step HB.out hb);clear HV;have HV:=nHV;clear nHV;clear hb;have kgr:=blk_cell Kgr.out;have fgr:=blk_frozen Kgr.out;have kgf:=blk_cell Kgf.out;have fgf:=blk_frozen Kgf.out) | ((with_reducible refine gate_dst (N:=80) rfl ?_);replace HB : Aside0 (Below w.heap.size w W101):=HB;refine H.slice_event (n:=1) ?hg (N:=80) ?hd (cs:=#[.int .i64 2]) (t:=3) ?hr ?_;(case hd => rfl);(case hg => rfl);(case hr => first | (go_simp;done) | (go_simp;rfl));intro gy hg W102 hbox hb;have Lgy : Aside0 (w.heap.size ≤ gy):=Aside0.mk (by rw [hg];exact below_size HB.out);have Ngr_gy : Aside0 (gr ≠ gy):=Aside0.mk (by rw [hg];exact Nat.ne_of_lt (blk_lt Kgr.out));have Ngy_gr : Aside0 (gy ≠ gr):=Aside0.mk (fun e => Ngr_gy.out e.symm);have Ngf_gy : Aside0 (gf ≠ gy):=Aside0.mk (by rw [hg];exact Nat.ne_of_lt (blk_lt Kgf.out));have Ngy_gf : Aside0 (gy ≠ gf):=Aside0.mk (fun e => Ngf_gy.out e.symm);replace Kgr:=Aside0.mk (blk_below Kgr.out hb);replace Kgf:=Aside0.mk (blk_below Kgf.out hb);have nHV:=Aside0.mk (R3.below HV.out hb);replace HB : Aside0 (Below w.heap.size w W102):=Aside0.mk (below_step HB.out hb);clear kgr fgr kgf fgf;clear HV;have HV:=nHV;clear nHV;have Kgy : Aside0 (W102.heap[gy]? = some (.cells #[.int .i64 2] 3 (0,0))):=Aside0.mk hbox;clear hb hbox hg;have kgr:=blk_cell Kgr.out;have fgr:=blk_frozen Kgr.out;have kgf:=blk_cell Kgf.out;have fgf:=blk_frozen Kgf.out;have kgy:=blk_cell Kgy.out;have fgy:=blk_frozen Kgy.out) | (refine ints_append (w0:=w) rfl (.tmp 78) (.tmp 80) rfl rfl rfl HV.out Kgy.out HB.out HL.out ?_;intro v1 W103 hr hB hk;clear HV;have HV:=Aside0.mk hr;replace Kgr : Aside0 (W103.heap[gr]? = some (.cells #[.int .i64 0,.int .i64 0,.int .i64 0,.int .i64 0,.int .i64 0,.int .i64 0,.int .i64 0,.int .i64 0,.int .i64 0,.int .i64 0] 45 (0,0))):=Aside0.mk (hk _ _ _ Kgr.out (by decide));replace Kgf : Aside0 (W103.heap[gf]? = some (.cells #[.int .i64 0,.int .i64 0] 50 (0,0))):=Aside0.mk (hk _ _ _ Kgf.out (by decide));replace HB : Aside0 (Below w.heap.size w W103):=Aside0.mk (hB);clear kgr fgr kgf fgf kgy fgy;clear hr hB hk Kgy;have kgr:=blk_cell Kgr.out;have fgr:=blk_frozen Kgr.out;have kgf:=blk_cell Kgf.out;have fgf:=blk_frozen Kgf.out))
       go_roundg (gk - 1)
       case measure => have:=J2.out;have:=JL.out;omega
       case rel =>
        exact ⟨0 + 1,m,[] ++ [2],by go_num,rfl,⟨by have:=JL.out;omega,by have:=J2.out;have:=JL.out;omega,rfl⟩,⟨by have:=Hm.out;omega,by have:=Hm.out;omega⟩,⟨.inr ⟨by omega,by simpa using HG.out⟩⟩,HV,Kgr,Kgf,HB⟩
      ·have HQ:=Aside0.mk (hr1 rfl (fun h => h.elim n1 n2)).symm
       have nb1 : (n != 1) = true:=bne_iff_ne.2 n1
       have nb2 : (n != 2) = true:=bne_iff_ne.2 n2
       clear hrd hr0 hr1 hnx n1 n2
       go_wp2_with (first | (go_at_call 83;replace HB : Aside0 (Below w.heap.size w wr):=HB;(with_reducible refine (reeveref01_Read.calls 40 _ _ l0 4 n m 0 _ ?qA21 ?qA22 A2.out).mono ?_);(case qA21 => exact Kd.C_below HR0.out HB.out);(case qA22 => exact HC0.out);rintro e W101 ⟨rfl,hd⟩;have hb:=Drawn0.below hd;clear hd;replace Kgr:=Aside0.mk (blk_below Kgr.out hb);replace Kgf:=Aside0.mk (blk_below Kgf.out hb);have nHV:=Aside0.mk (R3.below HV.out hb);replace HB : Aside0 (Below w.heap.size w W101):=Aside0.mk (below_step HB.out hb);clear HV;have HV:=nHV;clear nHV;clear hb;have kgr:=blk_cell Kgr.out;have fgr:=blk_frozen Kgr.out;have kgf:=blk_cell Kgf.out;have fgf:=blk_frozen Kgf.out) | ((with_reducible refine gate_store (t:=45) (p:=2) rfl ?_);replace HB : Aside0 (Below w.heap.size w W101):=HB;refine H.put_event (t:=45) (p:=2) (i:=0) rfl rfl rfl [.int .i64 0,.int .i64 0,.int .i64 0,.int .i64 0,.int .i64 0,.int .i64 0,.int .i64 0,.int .i64 0,.int .i64 0,.int .i64 0] Kgr.out rfl rfl (by kernel_rfl) (by kernel_rfl) (by kernel_rfl) ?_;intro W102 hw;replace Kgr : Aside0 (W102.heap[gr]? = some (.cells #[.int .i64 0,.int .i64 0,.int .i64 0,.int .i64 0,.int .i64 0,.int .i64 0,.int .i64 0,.int .i64 0,.int .i64 0,.int .i64 0] 45 (0,0))):=Aside0.mk (H.blk_fill hw Kgr.out (by kernel_rfl));replace Kgf:=Aside0.mk (H.far_fill hw Ngf_gr.out Kgf.out);replace HB : Aside0 (Below w.heap.size w W102):=Aside0.mk (H.below_fill hw Lgr.out HB.out);clear kgr fgr kgf fgf;clear hw;have kgr:=blk_cell Kgr.out;have fgr:=blk_frozen Kgr.out;have kgf:=blk_cell Kgf.out;have fgf:=blk_frozen Kgf.out) | ((with_reducible refine gate_store (t:=50) (p:=4) rfl ?_);replace HB : Aside0 (Below w.heap.size w W102):=HB;refine H.put_event (t:=50) (p:=4) (i:=0) rfl rfl rfl [.int .i64 40,.int .i64 4] Kgf.out rfl rfl (by kernel_rfl) (by kernel_rfl) (by kernel_rfl) ?_;intro W103 hw;replace Kgr:=Aside0.mk (H.far_fill hw Ngr_gf.out Kgr.out);replace Kgf : Aside0 (W103.heap[gf]? = some (.cells #[.int .i64 40,.int .i64 4] 50 (0,0))):=Aside0.mk (H.blk_fill hw Kgf.out (by kernel_rfl));replace HB : Aside0 (Below w.heap.size w W103):=Aside0.mk (H.below_fill hw Lgf.out HB.out);clear kgr fgr kgf fgf;clear hw;have kgr:=blk_cell Kgr.out;have fgr:=blk_frozen Kgr.out;have kgf:=blk_cell Kgf.out;have fgf:=blk_frozen Kgf.out))
       rw [← HQ.out]
       refine bodyPost_ret (results_ctc rfl _ _ gr gf 45 50 #[.int .i64 0,.int .i64 0,.int .i64 0,.int .i64 0,.int .i64 0,.int .i64 0,.int .i64 0,.int .i64 0,.int .i64 0,.int .i64 0] #[.int .i64 40,.int .i64 4] (0,0) (0,0) _ _ rfl Kgr.out Try.underlying45 rfl (by kernel_rfl) rfl Kgf.out Try.underlying50 rfl (by kernel_rfl)) rfl ?_
       exact ⟨rfl,HB.out⟩
    ·have HQ:=Aside0.mk (hr0 he).symm
     clear hrd hr0 hr1 hnx
     go_wp2_with (first | (go_at_call 83;replace HB : Aside0 (Below w.heap.size w wr):=HB;(with_reducible refine (reeveref01_Read.calls 40 _ _ l0 4 n m er _ ?qA21 ?qA22 A2.out).mono ?_);(case qA21 => exact Kd.C_below HR0.out HB.out);(case qA22 => exact HC0.out);rintro e W101 ⟨rfl,hd⟩;have hb:=Drawn0.below hd;clear hd;replace Kgr:=Aside0.mk (blk_below Kgr.out hb);replace Kgf:=Aside0.mk (blk_below Kgf.out hb);have nHV:=Aside0.mk (R3.below HV.out hb);replace HB : Aside0 (Below w.heap.size w W101):=Aside0.mk (below_step HB.out hb);clear HV;have HV:=nHV;clear nHV;clear hb;have kgr:=blk_cell Kgr.out;have fgr:=blk_frozen Kgr.out;have kgf:=blk_cell Kgf.out;have fgf:=blk_frozen Kgf.out) | ((with_reducible refine gate_store (t:=45) (p:=2) rfl ?_);replace HB : Aside0 (Below w.heap.size w W101):=HB;refine H.put_event (t:=45) (p:=2) (i:=0) rfl rfl rfl [.int .i64 0,.int .i64 0,.int .i64 0,.int .i64 0,.int .i64 0,.int .i64 0,.int .i64 0,.int .i64 0,.int .i64 0,.int .i64 0] Kgr.out rfl rfl (by kernel_rfl) (by kernel_rfl) (by kernel_rfl) ?_;intro W102 hw;replace Kgr : Aside0 (W102.heap[gr]? = some (.cells #[.int .i64 0,.int .i64 0,.int .i64 0,.int .i64 0,.int .i64 0,.int .i64 0,.int .i64 0,.int .i64 0,.int .i64 0,.int .i64 0] 45 (0,0))):=Aside0.mk (H.blk_fill hw Kgr.out (by kernel_rfl));replace Kgf:=Aside0.mk (H.far_fill hw Ngf_gr.out Kgf.out);replace HB : Aside0 (Below w.heap.size w W102):=Aside0.mk (H.below_fill hw Lgr.out HB.out);clear kgr fgr kgf fgf;clear hw;have kgr:=blk_cell Kgr.out;have fgr:=blk_frozen Kgr.out;have kgf:=blk_cell Kgf.out;have fgf:=blk_frozen Kgf.out) | ((with_reducible refine gate_store (t:=50) (p:=4) rfl ?_);replace HB : Aside0 (Below w.heap.size w W102):=HB;refine H.put_event (t:=50) (p:=4) (i:=0) rfl rfl rfl [.int .i64 er,.int .i64 4] Kgf.out rfl rfl (by kernel_rfl) (by kernel_rfl) (by kernel_rfl) ?_;intro W103 hw;replace Kgr:=Aside0.mk (H.far_fill hw Ngr_gf.out Kgr.out);replace Kgf : Aside0 (W103.heap[gf]? = some (.cells #[.int .i64 er,.int .i64 4] 50 (0,0))):=Aside0.mk (H.blk_fill hw Kgf.out (by kernel_rfl));replace HB : Aside0 (Below w.heap.size w W103):=Aside0.mk (H.below_fill hw Lgf.out HB.out);clear kgr fgr kgf fgf;clear hw;have kgr:=blk_cell Kgr.out;have fgr:=blk_frozen Kgr.out;have kgf:=blk_cell Kgf.out;have fgf:=blk_frozen Kgf.out))
     rw [← HQ.out]
     refine bodyPost_ret (results_ctc rfl _ _ gr gf 45 50 #[.int .i64 0,.int .i64 0,.int .i64 0,.int .i64 0,.int .i64 0,.int .i64 0,.int .i64 0,.int .i64 0,.int .i64 0,.int .i64 0] #[.int .i64 er,.int .i64 4] (0,0) (0,0) _ _ rfl Kgr.out Try.underlying45 rfl (by kernel_rfl) rfl Kgf.out Try.underlying50 rfl (by kernel_rfl)) rfl ?_
     exact ⟨rfl,HB.out⟩
   ·have hI:=HI.out.elim (fun h => absurd h.1 hz) (fun h => h.2)
    obtain ⟨y0,ys,rfl⟩ : ∃ y0 ys,xs = y0 :: ys:=by
     cases xs with
     | nil => exact absurd j3.symm hz
     | cons y0 ys => exact ⟨y0,ys,rfl⟩
    rw [show 8 - j = (8 - (j + 1)) + 1 by omega,Pol.fin8_succ] at hI
    clear HI
    generalize Pure.readn l0 a = q at hbr hnx hI
    obtain ⟨n,m,er⟩:=q
    simp only at hnx hI
    have A2:=Aside0.mk hbr
    have hz1 : ((j : Int) == 0) = false:=beq_eq_false_iff_ne.2 (by omega)
    have hz2 : ¬ (j : Int) = 0:=by omega
    have hz3 : (1 : Int) ≤ (j : Int):=by omega
    clear hbr hlt j1 j2 j3
    by_cases he : er = 0
    ·subst he
     have Hm:=Aside0.mk (hnx rfl)
     rw [if_pos rfl] at hI
     have HG:=Aside0.mk hI
     clear hI hnx hz
     go_wp2_with (first | (go_at_call 83;replace HB : Aside0 (Below w.heap.size w wr):=HB;(with_reducible refine (reeveref01_Read.calls 40 _ _ l0 a n m 0 _ ?qA21 ?qA22 A2.out).mono ?_);(case qA21 => exact Kd.C_below HR0.out HB.out);(case qA22 => exact HC0.out);rintro e W101 ⟨rfl,hd⟩;have hb:=Drawn0.below hd;clear hd;replace Kgr:=Aside0.mk (blk_below Kgr.out hb);replace Kgf:=Aside0.mk (blk_below Kgf.out hb);have nHV:=Aside0.mk (R3.below HV.out hb);replace HB : Aside0 (Below w.heap.size w W101):=Aside0.mk (below_step HB.out hb);clear HV;have HV:=nHV;clear nHV;clear hb;have kgr:=blk_cell Kgr.out;have fgr:=blk_frozen Kgr.out;have kgf:=blk_cell Kgf.out;have fgf:=blk_frozen Kgf.out) | ((with_reducible refine gate_dst (N:=80) rfl ?_);replace HB : Aside0 (Below w.heap.size w W101):=HB;refine H.slice_event (n:=1) ?hg (N:=80) ?hd (cs:=#[.int .i64 n]) (t:=3) ?hr ?_;(case hd => rfl);(case hg => rfl);(case hr => first | (go_simp;done) | (go_simp;rfl));intro gy hg W102 hbox hb;have Lgy : Aside0 (w.heap.size ≤ gy):=Aside0.mk (by rw [hg];exact below_size HB.out);have Ngr_gy : Aside0 (gr ≠ gy):=Aside0.mk (by rw [hg];exact Nat.ne_of_lt (blk_lt Kgr.out));have Ngy_gr : Aside0 (gy ≠ gr):=Aside0.mk (fun e => Ngr_gy.out e.symm);have Ngf_gy : Aside0 (gf ≠ gy):=Aside0.mk (by rw [hg];exact Nat.ne_of_lt (blk_lt Kgf.out));have Ngy_gf : Aside0 (gy ≠ gf):=Aside0.mk (fun e => Ngf_gy.out e.symm);replace Kgr:=Aside0.mk (blk_below Kgr.out hb);replace Kgf:=Aside0.mk (blk_below Kgf.out hb);have nHV:=Aside0.mk (R3.below HV.out hb);replace HB : Aside0 (Below w.heap.size w W102):=Aside0.mk (below_step HB.out hb);clear kgr fgr kgf fgf;clear HV;have HV:=nHV;clear nHV;have Kgy : Aside0 (W102.heap[gy]? = some (.cells #[.int .i64 n] 3 (0,0))):=Aside0.mk hbox;clear hb hbox hg;have kgr:=blk_cell Kgr.out;have fgr:=blk_frozen Kgr.out;have kgf:=blk_cell Kgf.out;have fgf:=blk_frozen Kgf.out;have kgy:=blk_cell Kgy.out;have fgy:=blk_frozen Kgy.out) | (refine ints_append (w0:=w) rfl (.tmp 78) (.tmp 80) rfl rfl rfl HV.out Kgy.out HB.out HL.out ?_;intro v1 W103 hr hB hk;clear HV;have HV:=Aside0.mk hr;replace Kgr : Aside0 (W103.heap[gr]? = some (.cells #[.int .i64 0,.int .i64 0,.int .i64 0,.int .i64 0,.int .i64 0,.int .i64 0,.int .i64 0,.int .i64 0,.int .i64 0,.int .i64 0] 45 (0,0))):=Aside0.mk (hk _ _ _ Kgr.out (by decide));replace Kgf : Aside0 (W103.heap[gf]? = some (.cells #[.int .i64 0,.int .i64 0] 50 (0,0))):=Aside0.mk (hk _ _ _ Kgf.out (by decide));replace HB : Aside0 (Below w.heap.size w W103):=Aside0.mk (hB);clear kgr fgr kgf fgf kgy fgy;clear hr hB hk Kgy;have kgr:=blk_cell Kgr.out;have fgr:=blk_frozen Kgr.out;have kgf:=blk_cell Kgf.out;have fgf:=blk_frozen Kgf.out))
     go_roundg (gk - 1)
     case measure => have:=J2.out;have:=JL.out;omega
     case rel =>
      exact ⟨j + 1,m,(y0 :: ys) ++ [n],by go_num,rfl,⟨by have:=JL.out;omega,by have:=J2.out;have:=JL.out;omega,by have:=J3.out;rw [List.length_append,List.length_singleton];omega⟩,⟨by have:=Hm.out;omega,by have:=Hm.out;omega⟩,⟨.inr ⟨by omega,HG.out⟩⟩,HV,Kgr,Kgf,HB⟩
    ·rw [if_neg he] at hI
     have HQ:=Aside0.mk hI
     clear hI hnx hz
     go_wp2_with (first | (go_at_call 83;replace HB : Aside0 (Below w.heap.size w wr):=HB;(with_reducible refine (reeveref01_Read.calls 40 _ _ l0 a n m er _ ?qA21 ?qA22 A2.out).mono ?_);(case qA21 => exact Kd.C_below HR0.out HB.out);(case qA22 => exact HC0.out);rintro e W101 ⟨rfl,hd⟩;have hb:=Drawn0.below hd;clear hd;replace Kgr:=Aside0.mk (blk_below Kgr.out hb);replace Kgf:=Aside0.mk (blk_below Kgf.out hb);have nHV:=Aside0.mk (R3.below HV.out hb);replace HB : Aside0 (Below w.heap.size w W101):=Aside0.mk (below_step HB.out hb);clear HV;have HV:=nHV;clear nHV;clear hb;have kgr:=blk_cell Kgr.out;have fgr:=blk_frozen Kgr.out;have kgf:=blk_cell Kgf.out;have fgf:=blk_frozen Kgf.out) | ((with_reducible refine gate_store (t:=45) (p:=2) rfl ?_);replace HB : Aside0 (Below w.heap.size w W101):=HB;refine H.put_event (t:=45) (p:=2) (i:=0) rfl rfl rfl [.int .i64 0,.int .i64 0,.int .i64 0,.int .i64 0,.int .i64 0,.int .i64 0,.int .i64 0,.int .i64 0,.int .i64 0,.int .i64 0] Kgr.out rfl rfl (by kernel_rfl) (by kernel_rfl) (by kernel_rfl) ?_;intro W102 hw;replace Kgr : Aside0 (W102.heap[gr]? = some (.cells #[.int .i64 0,.int .i64 0,.int .i64 0,.int .i64 0,.int .i64 0,.int .i64 0,.int .i64 0,.int .i64 0,.int .i64 0,.int .i64 0] 45 (0,0))):=Aside0.mk (H.blk_fill hw Kgr.out (by kernel_rfl));replace Kgf:=Aside0.mk (H.far_fill hw Ngf_gr.out Kgf.out);replace HB : Aside0 (Below w.heap.size w W102):=Aside0.mk (H.below_fill hw Lgr.out HB.out);clear kgr fgr kgf fgf;clear hw;have kgr:=blk_cell Kgr.out;have fgr:=blk_frozen Kgr.out;have kgf:=blk_cell Kgf.out;have fgf:=blk_frozen Kgf.out) | ((with_reducible refine gate_store (t:=50) (p:=4) rfl ?_);replace HB : Aside0 (Below w.heap.size w W102):=HB;refine H.put_event (t:=50) (p:=4) (i:=0) rfl rfl rfl [.int .i64 er,.int .i64 a] Kgf.out rfl rfl (by kernel_rfl) (by kernel_rfl) (by kernel_rfl) ?_;intro W103 hw;replace Kgr:=Aside0.mk (H.far_fill hw Ngr_gf.out Kgr.out);replace Kgf : Aside0 (W103.heap[gf]? = some (.cells #[.int .i64 er,.int .i64 a] 50 (0,0))):=Aside0.mk (H.blk_fill hw Kgf.out (by kernel_rfl));replace HB : Aside0 (Below w.heap.size w W103):=Aside0.mk (H.below_fill hw Lgf.out HB.out);clear kgr fgr kgf fgf;clear hw;have kgr:=blk_cell Kgr.out;have fgr:=blk_frozen Kgr.out;have kgf:=blk_cell Kgf.out;have fgf:=blk_frozen Kgf.out))
     rw [← HQ.out]
     refine bodyPost_ret (results_ctc rfl _ _ gr gf 45 50 #[.int .i64 0,.int .i64 0,.int .i64 0,.int .i64 0,.int .i64 0,.int .i64 0,.int .i64 0,.int .i64 0,.int .i64 0,.int .i64 0] #[.int .i64 er,.int .i64 a] (0,0) (0,0) _ _ rfl Kgr.out Try.underlying45 rfl (by kernel_rfl) rfl Kgf.out Try.underlying50 rfl (by kernel_rfl)) rfl ?_
     exact ⟨rfl,HB.out⟩
  ·obtain rfl : 8 = j:=by omega
   have hI:=HI.out.elim (fun h => absurd h.1 (by decide)) (fun h => h.2)
   obtain ⟨x0,x1,x2,x3,x4,x5,x6,x7,rfl⟩:=Pol.eight_of j3
   change Pol.tail l0 (Pol.make x0 [x1,x2,x3,x4,x5,x6,x7]) a = R at hI
   obtain ⟨gv,cv,cur,rfl,hgv,hcur,hel⟩:=R3.open HV.out (by simp)
   have e0:=hel 0 x0 rfl
   have e1:=hel 1 x1 rfl
   have e2:=hel 2 x2 rfl
   have e3:=hel 3 x3 rfl
   have e4:=hel 4 x4 rfl
   have e5:=hel 5 x5 rfl
   have e6:=hel 6 x6 rfl
   have e7:=hel 7 x7 rfl
   have Kgv : Aside0 (wr.heap[gv]? = some (Obj.cells cur 3 (0,0))):=Aside0.mk hcur
   have Lgv : Aside0 (w.heap.size ≤ gv):=Aside0.mk hgv
   have Ngr_gv : Aside0 (gr ≠ gv):=Aside0.mk (fun e => by have h1:=Kgr.out;rw [e,hcur] at h1;injection h1 with h1;injection h1 with _ h1 _;exact absurd h1 (by decide))
   have Ngf_gv : Aside0 (gf ≠ gv):=Aside0.mk (fun e => by have h1:=Kgf.out;rw [e,hcur] at h1;injection h1 with h1;injection h1 with _ h1 _;exact absurd h1 (by decide))
   have Ngv_gr : Aside0 (gv ≠ gr):=Aside0.mk (fun e => Ngr_gv.out e.symm)
   have Ngv_gf : Aside0 (gv ≠ gf):=Aside0.mk (fun e => Ngf_gv.out e.symm)
   have E0:=Aside0.mk e0
   have E1:=Aside0.mk e1
   have E2:=Aside0.mk e2
   have E3:=Aside0.mk e3
   have E4:=Aside0.mk e4
   have E5:=Aside0.mk e5
   have E6:=Aside0.mk e6
   have E7:=Aside0.mk e7
   clear hel e0 e1 e2 e3 e4 e5 e6 e7 hcur hgv HI HV hlt j1 j2 j3 HS HR
   have HI:=Aside0.mk hI
   clear hI
   go_wp2_with fail
   replace Kgr:=Aside0.mk (blk_drew Kgr.out); 
   replace Kgf:=Aside0.mk (blk_drew Kgf.out); 
   replace Kgv:=Aside0.mk (blk_drew Kgv.out); 
   replace HB:=Aside0.mk (below_drew1 HB.out); 
   refine start_ (n:=21) (S:=fun w' => w'.cell? ⟨gv,0,none⟩ = some (.int .i64 x0) ∧ w'.cell? ⟨gv,1,none⟩ = some (.int .i64 x1) ∧ w'.cell? ⟨gv,4,none⟩ = some (.int .i64 x4) ∧ w'.cell? ⟨gv,5,none⟩ = some (.int .i64 x5) ∧ w'.cell? ⟨gv,6,none⟩ = some (.int .i64 x6) ∧ w'.cell? ⟨gv,7,none⟩ = some (.int .i64 x7)) (ds:=[]) #[false,false,false,false,false,false,false,false,false,false,false,false,false,false,false,false,false,false,false,false,false] (by kernel_rfl) rfl rfl ⟨(blk_cell Kgv.out 0).trans E0.out,(blk_cell Kgv.out 1).trans E1.out,(blk_cell Kgv.out 4).trans E4.out,(blk_cell Kgv.out 5).trans E5.out,(blk_cell Kgv.out 6).trans E6.out,(blk_cell Kgv.out 7).trans E7.out⟩ (fun hHeld => ?_)
   refine with_tabW t66_15.tab t66_15.bits (fun HT_ HW_ => ?_)
   generalize wr.drew = W201 at Kgr Kgf Kgv HB hHeld ⊢
   refine pure_ (i:=0) (N:=some 83) (v:=?_) (a':=?_) #[true,false,false,false,false,false,false,false,false,false,false,false,false,false,false,false,false,false,false,false,false] rfl rfl (any_of HT_.out (by kernel_rfl)) (fun _ _ _ h => h) (Or.inl ⟨by rfl,?_⟩) ?_ ?_
   rotate_left
   ·intro w'
    go_simp
    with_reducible rfl
   rotate_left
   ·simp only [Act.put,zA,zB,zC,i64_w,i32_w]
    rfl
   refine pure_ (i:=1) (N:=some 84) (v:=?_) (a':=?_) #[true,true,false,false,false,false,false,false,false,false,false,false,false,false,false,false,false,false,false,false,false] rfl rfl (any_of HT_.out (by kernel_rfl)) (fun _ _ _ h => h) (Or.inl ⟨by rfl,?_⟩) ?_ ?_
   rotate_left
   ·intro w'
    go_simp
    with_reducible rfl
   rotate_left
   ·simp only [Act.put,zA,zB,zC,i64_w,i32_w]
    rfl
   refine pure_ (i:=3) (N:=some 86) (v:=?_) (a':=?_) #[true,true,false,true,false,false,false,false,false,false,false,false,false,false,false,false,false,false,false,false,false] rfl rfl (any_of HT_.out (by kernel_rfl)) (fun _ _ _ h => h) (Or.inl ⟨by rfl,?_⟩) ?_ ?_
   rotate_left
   ·intro w'
    go_simp
    with_reducible rfl
   rotate_left
   ·simp only [Act.put,zA,zB,zC,i64_w,i32_w]
    rfl
   refine pure_ (i:=4) (N:=some 87) (v:=?_) (a':=?_) #[true,true,false,true,true,false,false,false,false,false,false,false,false,false,false,false,false,false,false,false,false] rfl rfl (any_of HT_.out (by kernel_rfl)) (fun _ _ _ h => h) (Or.inl ⟨by rfl,?_⟩) ?_ ?_
   rotate_left
   ·intro w'
    go_simp
    with_reducible rfl
   rotate_left
   ·simp only [Act.put,zA,zB,zC,i64_w,i32_w]
    rfl
   refine pure_ (i:=6) (N:=some 89) (v:=?_) (a':=?_) #[true,true,false,true,true,false,true,false,false,false,false,false,false,false,false,false,false,false,false,false,false] rfl rfl (any_of HT_.out (by kernel_rfl)) (fun _ _ _ h => h) (Or.inl ⟨by rfl,?_⟩) ?_ ?_
   rotate_left
   ·intro w'
    go_simp
    with_reducible rfl
   rotate_left
   ·simp only [Act.put,zA,zB,zC,i64_w,i32_w]
    rfl
   refine pure_ (i:=7) (N:=some 90) (v:=?_) (a':=?_) #[true,true,false,true,true,false,true,true,false,false,false,false,false,false,false,false,false,false,false,false,false] rfl rfl (any_of HT_.out (by kernel_rfl)) (fun _ _ _ h => h) (Or.inl ⟨by rfl,?_⟩) ?_ ?_
   rotate_left
   ·intro w'
    go_simp
    with_reducible rfl
   rotate_left
   ·simp only [Act.put,zA,zB,zC,i64_w,i32_w]
    rfl
   refine pure_ (i:=9) (N:=some 92) (v:=?_) (a':=?_) #[true,true,false,true,true,false,true,true,false,true,false,false,false,false,false,false,false,false,false,false,false] rfl rfl (any_of HT_.out (by kernel_rfl)) (fun _ _ _ h => h) (Or.inl ⟨by rfl,?_⟩) ?_ ?_
   rotate_left
   ·intro w'
    go_simp
    with_reducible rfl
   rotate_left
   ·simp only [Act.put,zA,zB,zC,i64_w,i32_w]
    rfl
   refine pure_ (i:=10) (N:=some 93) (v:=?_) (a':=?_) #[true,true,false,true,true,false,true,true,false,true,true,false,false,false,false,false,false,false,false,false,false] rfl rfl (any_of HT_.out (by kernel_rfl)) (fun _ _ _ h => h) (Or.inl ⟨by rfl,?_⟩) ?_ ?_
   rotate_left
   ·intro w'
    go_simp
    with_reducible rfl
   rotate_left
   ·simp only [Act.put,zA,zB,zC,i64_w,i32_w]
    rfl
   refine pure_ (i:=12) (N:=some 95) (v:=?_) (a':=?_) #[true,true,false,true,true,false,true,true,false,true,true,false,true,false,false,false,false,false,false,false,false] rfl rfl (any_of HT_.out (by kernel_rfl)) (fun _ _ _ h => h) (Or.inl ⟨by rfl,?_⟩) ?_ ?_
   rotate_left
   ·intro w'
    go_simp
    with_reducible rfl
   rotate_left
   ·simp only [Act.put,zA,zB,zC,i64_w,i32_w]
    rfl
   refine pure_ (i:=13) (N:=some 96) (v:=?_) (a':=?_) #[true,true,false,true,true,false,true,true,false,true,true,false,true,true,false,false,false,false,false,false,false] rfl rfl (any_of HT_.out (by kernel_rfl)) (fun _ _ _ h => h) (Or.inl ⟨by rfl,?_⟩) ?_ ?_
   rotate_left
   ·intro w'
    go_simp
    with_reducible rfl
   rotate_left
   ·simp only [Act.put,zA,zB,zC,i64_w,i32_w]
    rfl
   refine pure_ (i:=15) (N:=some 98) (v:=?_) (a':=?_) #[true,true,false,true,true,false,true,true,false,true,true,false,true,true,false,true,false,false,false,false,false] rfl rfl (any_of HT_.out (by kernel_rfl)) (fun _ _ _ h => h) (Or.inl ⟨by rfl,?_⟩) ?_ ?_
   rotate_left
   ·intro w'
    go_simp
    with_reducible rfl
   rotate_left
   ·simp only [Act.put,zA,zB,zC,i64_w,i32_w]
    rfl
   refine pure_ (i:=16) (N:=some 99) (v:=?_) (a':=?_) #[true,true,false,true,true,false,true,true,false,true,true,false,true,true,false,true,true,false,false,false,false] rfl rfl (any_of HT_.out (by kernel_rfl)) (fun _ _ _ h => h) (Or.inl ⟨by rfl,?_⟩) ?_ ?_
   rotate_left
   ·intro w'
    go_simp
    with_reducible rfl
   rotate_left
   ·simp only [Act.put,zA,zB,zC,i64_w,i32_w]
    rfl
   refine take_ (i:=2) (N:=some 85) (v:=?_) (a':=?_) #[true,true,true,true,true,false,true,true,false,true,true,false,true,true,false,true,true,false,false,false,false] rfl rfl (take_ofW HT_.out HW_.out (by kernel_rfl)) (fun _ _ _ h => h) (Or.inl ⟨by rfl,?_⟩) hHeld ?_ ?_
   rotate_left
   ·rintro w' ⟨s0,s1,s2,s3,s4,s5⟩
    go_simp
    with_reducible rfl
   rotate_left
   ·simp only [Act.put,zA,zB,zC,i64_w,i32_w]
    rfl
   refine take_ (i:=5) (N:=some 88) (v:=?_) (a':=?_) #[true,true,true,true,true,true,true,true,false,true,true,false,true,true,false,true,true,false,false,false,false] rfl rfl (take_ofW HT_.out HW_.out (by kernel_rfl)) (fun _ _ _ h => h) (Or.inl ⟨by rfl,?_⟩) hHeld ?_ ?_
   rotate_left
   ·rintro w' ⟨s0,s1,s2,s3,s4,s5⟩
    go_simp
    with_reducible rfl
   rotate_left
   ·simp only [Act.put,zA,zB,zC,i64_w,i32_w]
    rfl
   refine take_ (i:=8) (N:=some 91) (v:=?_) (a':=?_) #[true,true,true,true,true,true,true,true,true,true,true,false,true,true,false,true,true,false,false,false,false] rfl rfl (take_ofW HT_.out HW_.out (by kernel_rfl)) (fun _ _ _ h => h) (Or.inl ⟨by rfl,?_⟩) hHeld ?_ ?_
   rotate_left
   ·rintro w' ⟨s0,s1,s2,s3,s4,s5⟩
    go_simp
    with_reducible rfl
   rotate_left
   ·simp only [Act.put,zA,zB,zC,i64_w,i32_w]
    rfl
   refine take_ (i:=11) (N:=some 94) (v:=?_) (a':=?_) #[true,true,true,true,true,true,true,true,true,true,true,true,true,true,false,true,true,false,false,false,false] rfl rfl (take_ofW HT_.out HW_.out (by kernel_rfl)) (fun _ _ _ h => h) (Or.inl ⟨by rfl,?_⟩) hHeld ?_ ?_
   rotate_left
   ·rintro w' ⟨s0,s1,s2,s3,s4,s5⟩
    go_simp
    with_reducible rfl
   rotate_left
   ·simp only [Act.put,zA,zB,zC,i64_w,i32_w]
    rfl
   refine take_ (i:=14) (N:=some 97) (v:=?_) (a':=?_) #[true,true,true,true,true,true,true,true,true,true,true,true,true,true,true,true,true,false,false,false,false] rfl rfl (take_ofW HT_.out HW_.out (by kernel_rfl)) (fun _ _ _ h => h) (Or.inl ⟨by rfl,?_⟩) hHeld ?_ ?_
   rotate_left
   ·rintro w' ⟨s0,s1,s2,s3,s4,s5⟩
    go_simp
    with_reducible rfl
   rotate_left
   ·simp only [Act.put,zA,zB,zC,i64_w,i32_w]
    rfl
   refine take_ (i:=17) (N:=some 100) (v:=?_) (a':=?_) #[true,true,true,true,true,true,true,true,true,true,true,true,true,true,true,true,true,true,false,false,false] rfl rfl (take_ofW HT_.out HW_.out (by kernel_rfl)) (fun _ _ _ h => h) (Or.inl ⟨by rfl,?_⟩) hHeld ?_ ?_
   rotate_left
   ·rintro w' ⟨s0,s1,s2,s3,s4,s5⟩
    go_simp
    with_reducible rfl
   rotate_left
   ·simp only [Act.put,zA,zB,zC,i64_w,i32_w]
    rfl
   refine pure_ (i:=18) (N:=some 101) (v:=?_) (a':=?_) #[true,true,true,true,true,true,true,true,true,true,true,true,true,true,true,true,true,true,true,false,false] rfl rfl (any_of HT_.out (by kernel_rfl)) (fun _ _ _ h => h) (Or.inl ⟨by rfl,?_⟩) ?_ ?_
   rotate_left
   ·intro w'
    go_simp
    with_reducible rfl
   rotate_left
   ·simp only [Act.put,zA,zB,zC,i64_w,i32_w]
    rfl
   refine one_ (i:=19) (N:=some 11) #[true,true,true,true,true,true,true,true,true,true,true,true,true,true,true,true,true,true,true,true,false] rfl rfl (one_of HT_.out (by kernel_rfl)) (by decide) (fun K hK => ?_)
   refine H.box_step (by rfl) rfl (cs:=#[.int .i64 0,.int .i64 0,.int .i64 0,.int .i64 0,.int .i64 0,.int .i64 0,.int .i64 0,.int .i64 0,.int .i64 0,.int .i64 0]) (t:=45) ?_ ?_
   ·first | (go_simp;done) | (go_simp;rfl)
   intro gq hg W202 hbox hb
   have Lgq : Aside0 (w.heap.size ≤ gq):=Aside0.mk (by rw [hg];exact below_size HB.out)
   have Ngr_gq : Aside0 (gr ≠ gq):=Aside0.mk (by rw [hg];exact Nat.ne_of_lt (blk_lt Kgr.out));have Ngq_gr : Aside0 (gq ≠ gr):=Aside0.mk (fun e => Ngr_gq.out e.symm)
   have Ngf_gq : Aside0 (gf ≠ gq):=Aside0.mk (by rw [hg];exact Nat.ne_of_lt (blk_lt Kgf.out));have Ngq_gf : Aside0 (gq ≠ gf):=Aside0.mk (fun e => Ngf_gq.out e.symm)
   have Ngv_gq : Aside0 (gv ≠ gq):=Aside0.mk (by rw [hg];exact Nat.ne_of_lt (blk_lt Kgv.out));have Ngq_gv : Aside0 (gq ≠ gv):=Aside0.mk (fun e => Ngv_gq.out e.symm)
   have ngr:=Aside0.mk (blk_below Kgr.out hb)
   have ngf:=Aside0.mk (blk_below Kgf.out hb)
   have ngv:=Aside0.mk (blk_below Kgv.out hb)
   have nB : Aside0 (Below w.heap.size w W202):=Aside0.mk (below_step HB.out hb)
   clear Kgr;have Kgr:=ngr;clear ngr
   clear Kgf;have Kgf:=ngf;clear ngf
   clear Kgv;have Kgv:=ngv;clear ngv
   clear HB;have HB:=nB;clear nB
   have Kgq : Aside0 (W202.heap[gq]? = some (.cells #[.int .i64 0,.int .i64 0,.int .i64 0,.int .i64 0,.int .i64 0,.int .i64 0,.int .i64 0,.int .i64 0,.int .i64 0,.int .i64 0] 45 (0,0))):=Aside0.mk hbox
   clear hb hbox hg
   have kgr:=blk_cell Kgr.out;have fgr:=blk_frozen Kgr.out
   have kgf:=blk_cell Kgf.out;have fgf:=blk_frozen Kgf.out
   have kgq:=blk_cell Kgq.out;have fgq:=blk_frozen Kgq.out
   refine hK.out _ _ ⟨(blk_cell Kgv.out 0).trans E0.out,(blk_cell Kgv.out 1).trans E1.out,(blk_cell Kgv.out 4).trans E4.out,(blk_cell Kgv.out 5).trans E5.out,(blk_cell Kgv.out 6).trans E6.out,(blk_cell Kgv.out 7).trans E7.out⟩ (fun hHeld => ?_)
   clear hK K
   refine norm_ (a':=?_) ?_ ?_
   rotate_left
   ·show Act.put _ (some 11) _ = _
    simp only [Act.put,zA,zB,zC,i64_w,i32_w]
    rfl
   refine one_ (i:=20) (N:=none) #[true,true,true,true,true,true,true,true,true,true,true,true,true,true,true,true,true,true,true,true,true] rfl rfl (one_of HT_.out (by kernel_rfl)) (by decide) (fun K hK => ?_)
   refine H.put_step (by rfl) rfl rfl (i:=0) [.int .i64 x0,.int .i64 x1,.int .i64 0,.int .i64 0,.int .i64 0,.int .i64 0,.int .i64 x4,.int .i64 x5,.int .i64 x6,.int .i64 x7] Kgq.out rfl rfl (by kernel_rfl) (by kernel_rfl) (by kernel_rfl) ?_
   intro W203 hw
   have ngr:=Aside0.mk (H.far_fill hw Ngr_gq.out Kgr.out)
   have ngf:=Aside0.mk (H.far_fill hw Ngf_gq.out Kgf.out)
   have ngv:=Aside0.mk (H.far_fill hw Ngv_gq.out Kgv.out)
   have ngq : Aside0 (W203.heap[gq]? = some (.cells #[.int .i64 x0,.int .i64 x1,.int .i64 0,.int .i64 0,.int .i64 0,.int .i64 0,.int .i64 x4,.int .i64 x5,.int .i64 x6,.int .i64 x7] 45 (0,0))):=Aside0.mk (H.blk_fill hw Kgq.out (by kernel_rfl))
   have nB : Aside0 (Below w.heap.size w W203):=Aside0.mk (H.below_fill hw Lgq.out HB.out)
   clear kgr fgr kgf fgf kgq fgq
   clear Kgr;have Kgr:=ngr;clear ngr
   clear Kgf;have Kgf:=ngf;clear ngf
   clear Kgv;have Kgv:=ngv;clear ngv
   clear Kgq;have Kgq:=ngq;clear ngq
   clear HB;have HB:=nB;clear nB
   clear hw
   have kgr:=blk_cell Kgr.out;have fgr:=blk_frozen Kgr.out
   have kgf:=blk_cell Kgf.out;have fgf:=blk_frozen Kgf.out
   have kgq:=blk_cell Kgq.out;have fgq:=blk_frozen Kgq.out
   refine hK.out _ _ ⟨(blk_cell Kgv.out 0).trans E0.out,(blk_cell Kgv.out 1).trans E1.out,(blk_cell Kgv.out 4).trans E4.out,(blk_cell Kgv.out 5).trans E5.out,(blk_cell Kgv.out 6).trans E6.out,(blk_cell Kgv.out 7).trans E7.out⟩ (fun hHeld => ?_)
   clear hK K
   refine done_ (done_of HT_.out (by kernel_rfl)) ?_
   by_cases k1 : x0 = 1
   ·subst k1
    have kv2:=(blk_cell Kgv.out 2).trans E2.out
    have kv3:=(blk_cell Kgv.out 3).trans E3.out
    have cR:=fun w => reeveref04_Right.calls 5 1 x1 x2 x3 0 0 x4 x5 x6 x7 (if Pol.ok ⟨1,x1,x2,x3,0,0,x4,x5,x6,x7⟩ = true then 0 else 40) w (Pol.rright (k:=5) ⟨1,x1,x2,x3,0,0,x4,x5,x6,x7⟩ (by decide))
    have hI:=HI.out
    clear HI
    rw [show Pol.make 1 [x1,x2,x3,x4,x5,x6,x7] = ⟨1,x1,x2,x3,0,0,x4,x5,x6,x7⟩ from rfl] at hI
    unfold Pol.tail at hI
    generalize hP : (⟨1,x1,x2,x3,0,0,x4,x5,x6,x7⟩ : Pol.Py) = p at hI cR
    by_cases c1 : Pol.ok p = true
    ·rw [if_pos c1] at hI
     rw [c1] at cR
     simp only [if_true] at cR
     obtain ⟨a0,a1⟩:=HX.out
     have hrd:=Pure.rread6 (l:=l0) (i:=a) 39 HY.out HN.out (by omega) (by have:=HN.out;omega)
     generalize M.rd6 l0 a = q at hI hrd
     obtain ⟨s1,s2,m,er⟩:=q
     simp only at hI
     have htb : M.bytes (l0.take a.toNat) = true:=by
      have:=HY.out
      unfold M.bytes at this ⊢
      rw [List.all_eq_true] at this ⊢
      exact fun z hz => this z (List.mem_of_mem_take hz)
     have hadd : reeveref02_Add.f (l0.length + 1) 1 2 (l0.take a.toNat) = some ((M.add (1,2) (l0.take a.toNat)).1,(M.add (1,2) (l0.take a.toNat)).2,0):=Pure.radd (z:=(1,2)) (by decide) htb (by have:=HN.out;rw [List.length_take];omega) (by rw [List.length_take];omega)
     have hcut2:=cutn (some ad) l0 c0 a a0 a1 HC0.out
     have TL:=Aside0.mk (show a.toNat ≤ l0.length by omega)
     generalize hT : l0.take a.toNat = tl at hcut2 hadd hI htb
     have HT:=Aside0.mk hT
     clear hT
     generalize hkk : l0.length + 1 = kk at hadd
     clear hkk
     generalize M.add (1,2) tl = du at hI hadd
     obtain ⟨d1,d2⟩:=du
     have A3:=Aside0.mk hrd
     have HA:=Aside0.mk hadd
     have HG:=Aside0.mk hI
     clear hrd hadd htb a0 a1 c1 hI
     have hu23:=Try.underlying23
     have HP:=Aside0.mk hP
     clear hP
     by_cases he : er = 0
     ·subst he
      go_wp2_with (first | ((with_reducible refine gate_store (t:=3) (p:=108) rfl ?_);replace HB : Aside0 (Below w.heap.size w W203):=HB;refine store_event (t:=3) (p:=108) (v:=?vo1) (w1:=(World.setCells W203 gq 2 [.int .i64 x2])) ?hg ?ho ?hn ?hr ?_;(case ho => rfl);(case hg => rfl);(case hn => rfl);(case hr => go_simp;kernel_rfl);intro W204 hw;replace Kgr:=Aside0.mk (H.far_fill hw Ngr_gq.out Kgr.out);replace Kgf:=Aside0.mk (H.far_fill hw Ngf_gq.out Kgf.out);replace Kgv:=Aside0.mk (H.far_fill hw Ngv_gq.out Kgv.out);replace Kgq : Aside0 (W204.heap[gq]? = some (.cells #[.int .i64 1,.int .i64 x1,.int .i64 x2,.int .i64 0,.int .i64 0,.int .i64 0,.int .i64 x4,.int .i64 x5,.int .i64 x6,.int .i64 x7] 45 (0,0))):=Aside0.mk (H.blk_fill hw Kgq.out (by kernel_rfl));replace HB : Aside0 (Below w.heap.size w W204):=Aside0.mk (H.below_fill hw Lgq.out HB.out);clear kgr fgr kgf fgf kgq fgq kv2 kv3;clear hw;have kgr:=blk_cell Kgr.out;have fgr:=blk_frozen Kgr.out;have kgf:=blk_cell Kgf.out;have fgf:=blk_frozen Kgf.out;have kgq:=blk_cell Kgq.out;have fgq:=blk_frozen Kgq.out;have kv2:=(blk_cell Kgv.out 2).trans E2.out;have kv3:=(blk_cell Kgv.out 3).trans E3.out) | ((with_reducible refine gate_store (t:=3) (p:=112) rfl ?_);replace HB : Aside0 (Below w.heap.size w W204):=HB;refine store_event (t:=3) (p:=112) (v:=?vo2) (w1:=(World.setCells W204 gq 3 [.int .i64 x3])) ?hg ?ho ?hn ?hr ?_;(case ho => rfl);(case hg => rfl);(case hn => rfl);(case hr => go_simp;kernel_rfl);intro W205 hw;replace Kgr:=Aside0.mk (H.far_fill hw Ngr_gq.out Kgr.out);replace Kgf:=Aside0.mk (H.far_fill hw Ngf_gq.out Kgf.out);replace Kgv:=Aside0.mk (H.far_fill hw Ngv_gq.out Kgv.out);replace Kgq : Aside0 (W205.heap[gq]? = some (.cells #[.int .i64 1,.int .i64 x1,.int .i64 x2,.int .i64 x3,.int .i64 0,.int .i64 0,.int .i64 x4,.int .i64 x5,.int .i64 x6,.int .i64 x7] 45 (0,0))):=Aside0.mk (H.blk_fill hw Kgq.out (by kernel_rfl));replace HB : Aside0 (Below w.heap.size w W205):=Aside0.mk (H.below_fill hw Lgq.out HB.out);clear kgr fgr kgf fgf kgq fgq kv2 kv3;clear hw;have kgr:=blk_cell Kgr.out;have fgr:=blk_frozen Kgr.out;have kgf:=blk_cell Kgf.out;have fgf:=blk_frozen Kgf.out;have kgq:=blk_cell Kgq.out;have fgq:=blk_frozen Kgq.out;have kv2:=(blk_cell Kgv.out 2).trans E2.out;have kv3:=(blk_cell Kgv.out 3).trans E3.out) | ((with_reducible refine gate_dst (N:=121) rfl ?_);replace HB : Aside0 (Below w.heap.size w W205):=HB;refine H.get_event (t:=45) (x:=11) (N:=121) (i:=0) rfl rfl rfl [.int .i64 1,.int .i64 x1,.int .i64 x2,.int .i64 x3,.int .i64 0,.int .i64 0,.int .i64 x4,.int .i64 x5,.int .i64 x6,.int .i64 x7] Kgq.out rfl (by kernel_rfl) Try.underlying45 rfl (by kernel_rfl) ?_) | (go_at_call 65;replace HB : Aside0 (Below w.heap.size w W205):=HB;(with_reducible refine (cR _).mono ?_);rintro e W206 ⟨rfl,hb⟩;replace Kgr:=Aside0.mk (blk_below Kgr.out hb);replace Kgf:=Aside0.mk (blk_below Kgf.out hb);replace Kgv:=Aside0.mk (blk_below Kgv.out hb);replace Kgq:=Aside0.mk (blk_below Kgq.out hb);replace HB : Aside0 (Below w.heap.size w W206):=Aside0.mk (below_step HB.out hb);clear kgr fgr kgf fgf kgq fgq kv2 kv3;clear hb;have kgr:=blk_cell Kgr.out;have fgr:=blk_frozen Kgr.out;have kgf:=blk_cell Kgf.out;have fgf:=blk_frozen Kgf.out;have kgq:=blk_cell Kgq.out;have fgq:=blk_frozen Kgq.out) | (go_at_call 36;replace HB : Aside0 (Below w.heap.size w W206):=HB;(with_reducible refine (reeveref02_Read.calls 40 _ _ l0 a s1 s2 m 0 _ ?u1 ?u2 A3.out).mono ?_);(case u1 => exact Kd.C_below HR0.out HB.out);(case u2 => exact HC0.out);rintro e W207 ⟨rfl,hb⟩;replace Kgr:=Aside0.mk (blk_below Kgr.out hb);replace Kgf:=Aside0.mk (blk_below Kgf.out hb);replace Kgv:=Aside0.mk (blk_below Kgv.out hb);replace Kgq:=Aside0.mk (blk_below Kgq.out hb);replace HB : Aside0 (Below w.heap.size w W207):=Aside0.mk (below_step HB.out hb);clear kgr fgr kgf fgf kgq fgq;clear hb;have kgr:=blk_cell Kgr.out;have fgr:=blk_frozen Kgr.out;have kgf:=blk_cell Kgf.out;have fgf:=blk_frozen Kgf.out;have kgq:=blk_cell Kgq.out;have fgq:=blk_frozen Kgq.out) | ((with_reducible refine gate_dst (N:=13) rfl ?_);replace HB : Aside0 (Below w.heap.size w W207):=HB;refine box_event ?hg (N:=13) ?hd (cs:=#[.int .i64 0,.int .i64 0]) (t:=23) ?hr ?_;(case hd => rfl);(case hg => rfl);(case hr => first | (go_simp;done) | (go_simp;rfl));intro gu hg W208 hbox hb;have Lgu : Aside0 (w.heap.size ≤ gu):=Aside0.mk (by rw [hg];exact below_size HB.out);have Ngr_gu : Aside0 (gr ≠ gu):=Aside0.mk (by rw [hg];exact Nat.ne_of_lt (blk_lt Kgr.out));have Ngu_gr : Aside0 (gu ≠ gr):=Aside0.mk (fun e => Ngr_gu.out e.symm);have Ngf_gu : Aside0 (gf ≠ gu):=Aside0.mk (by rw [hg];exact Nat.ne_of_lt (blk_lt Kgf.out));have Ngu_gf : Aside0 (gu ≠ gf):=Aside0.mk (fun e => Ngf_gu.out e.symm);have Ngv_gu : Aside0 (gv ≠ gu):=Aside0.mk (by rw [hg];exact Nat.ne_of_lt (blk_lt Kgv.out));have Ngu_gv : Aside0 (gu ≠ gv):=Aside0.mk (fun e => Ngv_gu.out e.symm);have Ngq_gu : Aside0 (gq ≠ gu):=Aside0.mk (by rw [hg];exact Nat.ne_of_lt (blk_lt Kgq.out));have Ngu_gq : Aside0 (gu ≠ gq):=Aside0.mk (fun e => Ngq_gu.out e.symm);replace Kgr:=Aside0.mk (blk_below Kgr.out hb);replace Kgf:=Aside0.mk (blk_below Kgf.out hb);replace Kgv:=Aside0.mk (blk_below Kgv.out hb);replace Kgq:=Aside0.mk (blk_below Kgq.out hb);replace HB : Aside0 (Below w.heap.size w W208):=Aside0.mk (below_step HB.out hb);clear kgr fgr kgf fgf kgq fgq;have Kgu : Aside0 (W208.heap[gu]? = some (.cells #[.int .i64 0,.int .i64 0] 23 (0,0))):=Aside0.mk hbox;clear hb hbox hg;have kgr:=blk_cell Kgr.out;have fgr:=blk_frozen Kgr.out;have kgf:=blk_cell Kgf.out;have fgf:=blk_frozen Kgf.out;have kgq:=blk_cell Kgq.out;have fgq:=blk_frozen Kgq.out;have kgu:=blk_cell Kgu.out;have fgu:=blk_frozen Kgu.out) | ((with_reducible refine gate_store (t:=23) (p:=13) rfl ?_);replace HB : Aside0 (Below w.heap.size w W208):=HB;refine H.put_event (t:=23) (p:=13) (i:=0) rfl rfl rfl [.int .i64 s1,.int .i64 s2] Kgu.out rfl rfl (by kernel_rfl) (by kernel_rfl) (by kernel_rfl) ?_;intro W209 hw;replace Kgr:=Aside0.mk (H.far_fill hw Ngr_gu.out Kgr.out);replace Kgf:=Aside0.mk (H.far_fill hw Ngf_gu.out Kgf.out);replace Kgv:=Aside0.mk (H.far_fill hw Ngv_gu.out Kgv.out);replace Kgq:=Aside0.mk (H.far_fill hw Ngq_gu.out Kgq.out);replace Kgu : Aside0 (W209.heap[gu]? = some (.cells #[.int .i64 s1,.int .i64 s2] 23 (0,0))):=Aside0.mk (H.blk_fill hw Kgu.out (by kernel_rfl));replace HB : Aside0 (Below w.heap.size w W209):=Aside0.mk (H.below_fill hw Lgu.out HB.out);clear kgr fgr kgf fgf kgq fgq kgu fgu;clear hw;have kgr:=blk_cell Kgr.out;have fgr:=blk_frozen Kgr.out;have kgf:=blk_cell Kgf.out;have fgf:=blk_frozen Kgf.out;have kgq:=blk_cell Kgq.out;have fgq:=blk_frozen Kgq.out;have kgu:=blk_cell Kgu.out;have fgu:=blk_frozen Kgu.out))
      replace Kgr:=Aside0.mk (blk_drew Kgr.out); 
      replace Kgf:=Aside0.mk (blk_drew Kgf.out); 
      replace Kgv:=Aside0.mk (blk_drew Kgv.out); 
      replace Kgq:=Aside0.mk (blk_drew Kgq.out); 
      replace Kgu:=Aside0.mk (blk_drew Kgu.out); 
      replace HB:=Aside0.mk (below_drew1 HB.out); 
      clear kgr fgr kgf fgf kgq fgq kgu fgu
      refine start_ (n:=11) (S:=fun w' => True) (ds:=[]) #[false,false,false,false,false,false,false,false,false,false,false] (by kernel_rfl) rfl rfl trivial (fun hHeld => ?_)
      refine with_tabW t66_27.tab t66_27.bits (fun HT_ HW_ => ?_)
      generalize W209.drew = W210 at Kgr Kgf Kgv Kgq Kgu HB ⊢
      refine pure_ (i:=1) (N:=some 143) (v:=?_) (a':=?_) #[false,true,false,false,false,false,false,false,false,false,false] rfl rfl (any_of HT_.out (by kernel_rfl)) (fun _ _ _ h => h) (Or.inl ⟨by rfl,?_⟩) ?_ ?_
      rotate_left
      ·intro w'
       go_simp
       with_reducible rfl
      rotate_left
      ·simp only [Act.put,zA,zB,zC,i64_w,i32_w]
       rfl
      refine pure_ (i:=2) (N:=some 144) (v:=?_) (a':=?_) #[false,true,true,false,false,false,false,false,false,false,false] rfl rfl (any_of HT_.out (by kernel_rfl)) (fun _ _ _ h => h) (Or.inl ⟨by rfl,?_⟩) ?_ ?_
      rotate_left
      ·intro w'
       go_simp
       with_reducible rfl
      rotate_left
      ·simp only [Act.put,zA,zB,zC,i64_w,i32_w]
       rfl
      refine pure_ (i:=3) (N:=some 145) (v:=?_) (a':=?_) #[false,true,true,true,false,false,false,false,false,false,false] rfl rfl (any_of HT_.out (by kernel_rfl)) (fun _ _ _ h => h) (Or.inl ⟨by rfl,?_⟩) ?_ ?_
      rotate_left
      ·intro w'
       go_simp
       with_reducible rfl
      rotate_left
      ·simp only [Act.put,zA,zB,zC,i64_w,i32_w]
       rfl
      refine join_ (σ:=Nat) 2 #[true,true,true,true,true,true,true,true,true,false,false] (fun gw => [(142,.agg #[.int .i64 1,.int .i64 2]),(146,.tuple #[.agg #[.int .i64 d1,.int .i64 d2],.int .i64 0]),(141,.tuple #[.agg #[.int .i64 d1,.int .i64 d2],.int .i64 0]),(147,.agg #[.int .i64 d1,.int .i64 d2]),(148,.int .i64 0),(16,.pointer (some ⟨gw,0,none⟩))]) (fun gw w' => Aside0 (w'.heap[gr]? = some (.cells #[.int .i64 0,.int .i64 0,.int .i64 0,.int .i64 0,.int .i64 0,.int .i64 0,.int .i64 0,.int .i64 0,.int .i64 0,.int .i64 0] 45 (0,0))) ∧ Aside0 (w'.heap[gf]? = some (.cells #[.int .i64 0,.int .i64 0] 50 (0,0))) ∧ Aside0 (w'.heap[gv]? = some (.cells cur 3 (0,0))) ∧ Aside0 (w'.heap[gq]? = some (.cells #[.int .i64 1,.int .i64 x1,.int .i64 x2,.int .i64 x3,.int .i64 0,.int .i64 0,.int .i64 x4,.int .i64 x5,.int .i64 x6,.int .i64 x7] 45 (0,0))) ∧ Aside0 (w'.heap[gu]? = some (.cells #[.int .i64 s1,.int .i64 s2] 23 (0,0))) ∧ Aside0 (w'.heap[gw]? = some (.cells #[.int .i64 0,.int .i64 0] 23 (0,0))) ∧ Aside0 (Below w.heap.size w w') ∧ Aside0 (w.heap.size ≤ gw) ∧ Aside0 (gr ≠ gw) ∧ Aside0 (gf ≠ gw) ∧ Aside0 (gv ≠ gw) ∧ Aside0 (gq ≠ gw) ∧ Aside0 (gu ≠ gw) ∧ Aside0 (gw ≠ gr) ∧ Aside0 (gw ≠ gf) ∧ Aside0 (gw ≠ gv) ∧ Aside0 (gw ≠ gq) ∧ Aside0 (gw ≠ gu)) ?_ ?_
      rotate_left
      ·intro hCont
       refine two_ (i:=0) (j:=8) (Ni:=some 142) (Nj:=some 16) #[true,true,true,true,false,false,false,false,false,false,false] #[false,true,true,true,false,false,false,false,true,false,false] rfl rfl rfl rfl (two_of HT_.out (by kernel_rfl)) (by decide) (by decide) (fun K hK => ?_) (fun K hK => ?_)
       ·skip
        refine goes_ Try.func32 (by kernel_rfl) rfl #[] (by rfl) rfl rfl (by (try simp only [List.map_toArray,List.map_cons,List.map_nil]);first | done | rfl) ?_
        with_reducible refine (reeveref02_Start.calls 1 2 _ rfl).mono ?_
        rintro e W261 ⟨rfl,hb⟩
        refine ⟨_,rfl,?_⟩
        have ngr:=Aside0.mk (blk_below Kgr.out hb)
        have ngf:=Aside0.mk (blk_below Kgf.out hb)
        have ngv:=Aside0.mk (blk_below Kgv.out hb)
        have ngq:=Aside0.mk (blk_below Kgq.out hb)
        have ngu:=Aside0.mk (blk_below Kgu.out hb)
        have nB : Aside0 (Below w.heap.size w W261):=Aside0.mk (below_step HB.out hb)
        clear Kgr;have Kgr:=ngr;clear ngr
        clear Kgf;have Kgf:=ngf;clear ngf
        clear Kgv;have Kgv:=ngv;clear ngv
        clear Kgq;have Kgq:=ngq;clear ngq
        clear Kgu;have Kgu:=ngu;clear ngu
        clear HB;have HB:=nB;clear nB
        clear hb
        refine hK.out _ _ trivial (fun hHeld => ?_)
        clear hK K
        refine norm_ (a':=?_) ?_ ?_
        rotate_left
        ·show Act.put _ (some 142) _ = _
         simp only [Act.put,zA,zB,zC,i64_w,i32_w]
         rfl
        refine two_ (i:=4) (j:=8) (Ni:=some 146) (Nj:=some 16) #[true,true,true,true,true,false,false,false,false,false,false] #[true,true,true,true,false,false,false,false,true,false,false] rfl rfl rfl rfl (two_of HT_.out (by kernel_rfl)) (by decide) (by decide) (fun K hK => ?_) (fun K hK => ?_)
        ·skip
         refine goes_ Try.func25 (by kernel_rfl) rfl #[.agg #[.int .i64 1,.int .i64 2],.slice (some ad) tl.length c0] (by rfl) rfl rfl (by (try simp only [List.map_toArray,List.map_cons,List.map_nil]);first | done | rfl) ?_
         with_reducible refine (reeveref02_Add.calls kk 1 2 _ _ tl d1 d2 0 _ (by rw [← HT.out];exact take_C (Kd.C_below HR0.out HB.out) TL.out) (by have:=HC0.out;rw [← HT.out,List.length_take];omega) HA.out).mono ?_
         rintro e W262 ⟨rfl,hb⟩
         refine ⟨_,rfl,?_⟩
         have ngr:=Aside0.mk (blk_below Kgr.out hb)
         have ngf:=Aside0.mk (blk_below Kgf.out hb)
         have ngv:=Aside0.mk (blk_below Kgv.out hb)
         have ngq:=Aside0.mk (blk_below Kgq.out hb)
         have ngu:=Aside0.mk (blk_below Kgu.out hb)
         have nB : Aside0 (Below w.heap.size w W262):=Aside0.mk (below_step HB.out hb)
         clear Kgr;have Kgr:=ngr;clear ngr
         clear Kgf;have Kgf:=ngf;clear ngf
         clear Kgv;have Kgv:=ngv;clear ngv
         clear Kgq;have Kgq:=ngq;clear ngq
         clear Kgu;have Kgu:=ngu;clear ngu
         clear HB;have HB:=nB;clear nB
         clear hb
         refine hK.out _ _ trivial (fun hHeld => ?_)
         clear hK K
         refine norm_ (a':=?_) ?_ ?_
         rotate_left
         ·show Act.put _ (some 146) _ = _
          simp only [Act.put,zA,zB,zC,i64_w,i32_w]
          rfl
         refine pure_ (i:=5) (N:=some 141) (v:=?_) (a':=?_) #[true,true,true,true,true,true,false,false,false,false,false] rfl rfl (any_of HT_.out (by kernel_rfl)) (fun _ _ _ h => h) (Or.inl ⟨by rfl,?_⟩) ?_ ?_
         rotate_left
         ·intro w'
          go_simp
          with_reducible rfl
         rotate_left
         ·simp only [Act.put,zA,zB,zC,i64_w,i32_w]
          rfl
         refine pure_ (i:=6) (N:=some 147) (v:=?_) (a':=?_) #[true,true,true,true,true,true,true,false,false,false,false] rfl rfl (any_of HT_.out (by kernel_rfl)) (fun _ _ _ h => h) (Or.inl ⟨by rfl,?_⟩) ?_ ?_
         rotate_left
         ·intro w'
          go_simp
          with_reducible rfl
         rotate_left
         ·simp only [Act.put,zA,zB,zC,i64_w,i32_w]
          rfl
         refine pure_ (i:=7) (N:=some 148) (v:=?_) (a':=?_) #[true,true,true,true,true,true,true,true,false,false,false] rfl rfl (any_of HT_.out (by kernel_rfl)) (fun _ _ _ h => h) (Or.inl ⟨by rfl,?_⟩) ?_ ?_
         rotate_left
         ·intro w'
          go_simp
          with_reducible rfl
         rotate_left
         ·simp only [Act.put,zA,zB,zC,i64_w,i32_w]
          rfl
         refine one_ (i:=8) (N:=some 16) #[true,true,true,true,true,true,true,true,true,false,false] rfl rfl (one_of HT_.out (by kernel_rfl)) (by decide) (fun K hK => ?_)
         refine H.box_step (by rfl) rfl (cs:=#[.int .i64 0,.int .i64 0]) (t:=23) ?_ ?_
         ·first | (go_simp;done) | (go_simp;rfl)
         intro gw hg W263 hbox hb
         have Lgw : Aside0 (w.heap.size ≤ gw):=Aside0.mk (by rw [hg];exact below_size HB.out)
         have Ngr_gw : Aside0 (gr ≠ gw):=Aside0.mk (by rw [hg];exact Nat.ne_of_lt (blk_lt Kgr.out));have Ngw_gr : Aside0 (gw ≠ gr):=Aside0.mk (fun e => Ngr_gw.out e.symm)
         have Ngf_gw : Aside0 (gf ≠ gw):=Aside0.mk (by rw [hg];exact Nat.ne_of_lt (blk_lt Kgf.out));have Ngw_gf : Aside0 (gw ≠ gf):=Aside0.mk (fun e => Ngf_gw.out e.symm)
         have Ngv_gw : Aside0 (gv ≠ gw):=Aside0.mk (by rw [hg];exact Nat.ne_of_lt (blk_lt Kgv.out));have Ngw_gv : Aside0 (gw ≠ gv):=Aside0.mk (fun e => Ngv_gw.out e.symm)
         have Ngq_gw : Aside0 (gq ≠ gw):=Aside0.mk (by rw [hg];exact Nat.ne_of_lt (blk_lt Kgq.out));have Ngw_gq : Aside0 (gw ≠ gq):=Aside0.mk (fun e => Ngq_gw.out e.symm)
         have Ngu_gw : Aside0 (gu ≠ gw):=Aside0.mk (by rw [hg];exact Nat.ne_of_lt (blk_lt Kgu.out));have Ngw_gu : Aside0 (gw ≠ gu):=Aside0.mk (fun e => Ngu_gw.out e.symm)
         have ngr:=Aside0.mk (blk_below Kgr.out hb)
         have ngf:=Aside0.mk (blk_below Kgf.out hb)
         have ngv:=Aside0.mk (blk_below Kgv.out hb)
         have ngq:=Aside0.mk (blk_below Kgq.out hb)
         have ngu:=Aside0.mk (blk_below Kgu.out hb)
         have nB : Aside0 (Below w.heap.size w W263):=Aside0.mk (below_step HB.out hb)
         clear Kgr;have Kgr:=ngr;clear ngr
         clear Kgf;have Kgf:=ngf;clear ngf
         clear Kgv;have Kgv:=ngv;clear ngv
         clear Kgq;have Kgq:=ngq;clear ngq
         clear Kgu;have Kgu:=ngu;clear ngu
         clear HB;have HB:=nB;clear nB
         have Kgw : Aside0 (W263.heap[gw]? = some (.cells #[.int .i64 0,.int .i64 0] 23 (0,0))):=Aside0.mk hbox
         clear hb hbox hg
         refine hK.out _ _ trivial (fun hHeld => ?_)
         clear hK K
         refine norm_ (a':=?_) ?_ ?_
         rotate_left
         ·show Act.put _ (some 16) _ = _
          simp only [Act.put,zA,zB,zC,i64_w,i32_w]
          rfl
         exact norm_ (by simp only [putAll,Act.put,List.setIfInBounds_toArray,List.set_cons_zero,List.set_cons_succ]) (hCont gw _ ⟨Kgr,Kgf,Kgv,Kgq,Kgu,Kgw,HB,Lgw,Ngr_gw,Ngf_gw,Ngv_gw,Ngq_gw,Ngu_gw,Ngw_gr,Ngw_gf,Ngw_gv,Ngw_gq,Ngw_gu⟩)
        ·skip
         refine H.box_step (by rfl) rfl (cs:=#[.int .i64 0,.int .i64 0]) (t:=23) ?_ ?_
         ·first | (go_simp;done) | (go_simp;rfl)
         intro gw hg W264 hbox hb
         have Lgw : Aside0 (w.heap.size ≤ gw):=Aside0.mk (by rw [hg];exact below_size HB.out)
         have Ngr_gw : Aside0 (gr ≠ gw):=Aside0.mk (by rw [hg];exact Nat.ne_of_lt (blk_lt Kgr.out));have Ngw_gr : Aside0 (gw ≠ gr):=Aside0.mk (fun e => Ngr_gw.out e.symm)
         have Ngf_gw : Aside0 (gf ≠ gw):=Aside0.mk (by rw [hg];exact Nat.ne_of_lt (blk_lt Kgf.out));have Ngw_gf : Aside0 (gw ≠ gf):=Aside0.mk (fun e => Ngf_gw.out e.symm)
         have Ngv_gw : Aside0 (gv ≠ gw):=Aside0.mk (by rw [hg];exact Nat.ne_of_lt (blk_lt Kgv.out));have Ngw_gv : Aside0 (gw ≠ gv):=Aside0.mk (fun e => Ngv_gw.out e.symm)
         have Ngq_gw : Aside0 (gq ≠ gw):=Aside0.mk (by rw [hg];exact Nat.ne_of_lt (blk_lt Kgq.out));have Ngw_gq : Aside0 (gw ≠ gq):=Aside0.mk (fun e => Ngq_gw.out e.symm)
         have Ngu_gw : Aside0 (gu ≠ gw):=Aside0.mk (by rw [hg];exact Nat.ne_of_lt (blk_lt Kgu.out));have Ngw_gu : Aside0 (gw ≠ gu):=Aside0.mk (fun e => Ngu_gw.out e.symm)
         have ngr:=Aside0.mk (blk_below Kgr.out hb)
         have ngf:=Aside0.mk (blk_below Kgf.out hb)
         have ngv:=Aside0.mk (blk_below Kgv.out hb)
         have ngq:=Aside0.mk (blk_below Kgq.out hb)
         have ngu:=Aside0.mk (blk_below Kgu.out hb)
         have nB : Aside0 (Below w.heap.size w W264):=Aside0.mk (below_step HB.out hb)
         clear Kgr;have Kgr:=ngr;clear ngr
         clear Kgf;have Kgf:=ngf;clear ngf
         clear Kgv;have Kgv:=ngv;clear ngv
         clear Kgq;have Kgq:=ngq;clear ngq
         clear Kgu;have Kgu:=ngu;clear ngu
         clear HB;have HB:=nB;clear nB
         have Kgw : Aside0 (W264.heap[gw]? = some (.cells #[.int .i64 0,.int .i64 0] 23 (0,0))):=Aside0.mk hbox
         clear hb hbox hg
         refine hK.out _ _ trivial (fun hHeld => ?_)
         clear hK K
         refine norm_ (a':=?_) ?_ ?_
         rotate_left
         ·show Act.put _ (some 16) _ = _
          simp only [Act.put,zA,zB,zC,i64_w,i32_w]
          rfl
         refine one_ (i:=4) (N:=some 146) #[true,true,true,true,true,false,false,false,true,false,false] rfl rfl (one_of HT_.out (by kernel_rfl)) (by decide) (fun K hK => ?_)
         refine goes_ Try.func25 (by kernel_rfl) rfl #[.agg #[.int .i64 1,.int .i64 2],.slice (some ad) tl.length c0] (by rfl) rfl rfl (by (try simp only [List.map_toArray,List.map_cons,List.map_nil]);first | done | rfl) ?_
         with_reducible refine (reeveref02_Add.calls kk 1 2 _ _ tl d1 d2 0 _ (by rw [← HT.out];exact take_C (Kd.C_below HR0.out HB.out) TL.out) (by have:=HC0.out;rw [← HT.out,List.length_take];omega) HA.out).mono ?_
         rintro e W265 ⟨rfl,hb⟩
         refine ⟨_,rfl,?_⟩
         have ngr:=Aside0.mk (blk_below Kgr.out hb)
         have ngf:=Aside0.mk (blk_below Kgf.out hb)
         have ngv:=Aside0.mk (blk_below Kgv.out hb)
         have ngq:=Aside0.mk (blk_below Kgq.out hb)
         have ngu:=Aside0.mk (blk_below Kgu.out hb)
         have ngw:=Aside0.mk (blk_below Kgw.out hb)
         have nB : Aside0 (Below w.heap.size w W265):=Aside0.mk (below_step HB.out hb)
         clear Kgr;have Kgr:=ngr;clear ngr
         clear Kgf;have Kgf:=ngf;clear ngf
         clear Kgv;have Kgv:=ngv;clear ngv
         clear Kgq;have Kgq:=ngq;clear ngq
         clear Kgu;have Kgu:=ngu;clear ngu
         clear Kgw;have Kgw:=ngw;clear ngw
         clear HB;have HB:=nB;clear nB
         clear hb
         refine hK.out _ _ trivial (fun hHeld => ?_)
         clear hK K
         refine norm_ (a':=?_) ?_ ?_
         rotate_left
         ·show Act.put _ (some 146) _ = _
          simp only [Act.put,zA,zB,zC,i64_w,i32_w]
          rfl
         refine pure_ (i:=5) (N:=some 141) (v:=?_) (a':=?_) #[true,true,true,true,true,true,false,false,true,false,false] rfl rfl (any_of HT_.out (by kernel_rfl)) (fun _ _ _ h => h) (Or.inl ⟨by rfl,?_⟩) ?_ ?_
         rotate_left
         ·intro w'
          go_simp
          with_reducible rfl
         rotate_left
         ·simp only [Act.put,zA,zB,zC,i64_w,i32_w]
          rfl
         refine pure_ (i:=6) (N:=some 147) (v:=?_) (a':=?_) #[true,true,true,true,true,true,true,false,true,false,false] rfl rfl (any_of HT_.out (by kernel_rfl)) (fun _ _ _ h => h) (Or.inl ⟨by rfl,?_⟩) ?_ ?_
         rotate_left
         ·intro w'
          go_simp
          with_reducible rfl
         rotate_left
         ·simp only [Act.put,zA,zB,zC,i64_w,i32_w]
          rfl
         refine pure_ (i:=7) (N:=some 148) (v:=?_) (a':=?_) #[true,true,true,true,true,true,true,true,true,false,false] rfl rfl (any_of HT_.out (by kernel_rfl)) (fun _ _ _ h => h) (Or.inl ⟨by rfl,?_⟩) ?_ ?_
         rotate_left
         ·intro w'
          go_simp
          with_reducible rfl
         rotate_left
         ·simp only [Act.put,zA,zB,zC,i64_w,i32_w]
          rfl
         exact norm_ (by simp only [putAll,Act.put,List.setIfInBounds_toArray,List.set_cons_zero,List.set_cons_succ]) (hCont gw _ ⟨Kgr,Kgf,Kgv,Kgq,Kgu,Kgw,HB,Lgw,Ngr_gw,Ngf_gw,Ngv_gw,Ngq_gw,Ngu_gw,Ngw_gr,Ngw_gf,Ngw_gv,Ngw_gq,Ngw_gu⟩)
       ·skip
        refine H.box_step (by rfl) rfl (cs:=#[.int .i64 0,.int .i64 0]) (t:=23) ?_ ?_
        ·first | (go_simp;done) | (go_simp;rfl)
        intro gw hg W266 hbox hb
        have Lgw : Aside0 (w.heap.size ≤ gw):=Aside0.mk (by rw [hg];exact below_size HB.out)
        have Ngr_gw : Aside0 (gr ≠ gw):=Aside0.mk (by rw [hg];exact Nat.ne_of_lt (blk_lt Kgr.out));have Ngw_gr : Aside0 (gw ≠ gr):=Aside0.mk (fun e => Ngr_gw.out e.symm)
        have Ngf_gw : Aside0 (gf ≠ gw):=Aside0.mk (by rw [hg];exact Nat.ne_of_lt (blk_lt Kgf.out));have Ngw_gf : Aside0 (gw ≠ gf):=Aside0.mk (fun e => Ngf_gw.out e.symm)
        have Ngv_gw : Aside0 (gv ≠ gw):=Aside0.mk (by rw [hg];exact Nat.ne_of_lt (blk_lt Kgv.out));have Ngw_gv : Aside0 (gw ≠ gv):=Aside0.mk (fun e => Ngv_gw.out e.symm)
        have Ngq_gw : Aside0 (gq ≠ gw):=Aside0.mk (by rw [hg];exact Nat.ne_of_lt (blk_lt Kgq.out));have Ngw_gq : Aside0 (gw ≠ gq):=Aside0.mk (fun e => Ngq_gw.out e.symm)
        have Ngu_gw : Aside0 (gu ≠ gw):=Aside0.mk (by rw [hg];exact Nat.ne_of_lt (blk_lt Kgu.out));have Ngw_gu : Aside0 (gw ≠ gu):=Aside0.mk (fun e => Ngu_gw.out e.symm)
        have ngr:=Aside0.mk (blk_below Kgr.out hb)
        have ngf:=Aside0.mk (blk_below Kgf.out hb)
        have ngv:=Aside0.mk (blk_below Kgv.out hb)
        have ngq:=Aside0.mk (blk_below Kgq.out hb)
        have ngu:=Aside0.mk (blk_below Kgu.out hb)
        have nB : Aside0 (Below w.heap.size w W266):=Aside0.mk (below_step HB.out hb)
        clear Kgr;have Kgr:=ngr;clear ngr
        clear Kgf;have Kgf:=ngf;clear ngf
        clear Kgv;have Kgv:=ngv;clear ngv
        clear Kgq;have Kgq:=ngq;clear ngq
        clear Kgu;have Kgu:=ngu;clear ngu
        clear HB;have HB:=nB;clear nB
        have Kgw : Aside0 (W266.heap[gw]? = some (.cells #[.int .i64 0,.int .i64 0] 23 (0,0))):=Aside0.mk hbox
        clear hb hbox hg
        refine hK.out _ _ trivial (fun hHeld => ?_)
        clear hK K
        refine norm_ (a':=?_) ?_ ?_
        rotate_left
        ·show Act.put _ (some 16) _ = _
         simp only [Act.put,zA,zB,zC,i64_w,i32_w]
         rfl
        refine one_ (i:=0) (N:=some 142) #[true,true,true,true,false,false,false,false,true,false,false] rfl rfl (one_of HT_.out (by kernel_rfl)) (by decide) (fun K hK => ?_)
        refine goes_ Try.func32 (by kernel_rfl) rfl #[] (by rfl) rfl rfl (by (try simp only [List.map_toArray,List.map_cons,List.map_nil]);first | done | rfl) ?_
        with_reducible refine (reeveref02_Start.calls 1 2 _ rfl).mono ?_
        rintro e W267 ⟨rfl,hb⟩
        refine ⟨_,rfl,?_⟩
        have ngr:=Aside0.mk (blk_below Kgr.out hb)
        have ngf:=Aside0.mk (blk_below Kgf.out hb)
        have ngv:=Aside0.mk (blk_below Kgv.out hb)
        have ngq:=Aside0.mk (blk_below Kgq.out hb)
        have ngu:=Aside0.mk (blk_below Kgu.out hb)
        have ngw:=Aside0.mk (blk_below Kgw.out hb)
        have nB : Aside0 (Below w.heap.size w W267):=Aside0.mk (below_step HB.out hb)
        clear Kgr;have Kgr:=ngr;clear ngr
        clear Kgf;have Kgf:=ngf;clear ngf
        clear Kgv;have Kgv:=ngv;clear ngv
        clear Kgq;have Kgq:=ngq;clear ngq
        clear Kgu;have Kgu:=ngu;clear ngu
        clear Kgw;have Kgw:=ngw;clear ngw
        clear HB;have HB:=nB;clear nB
        clear hb
        refine hK.out _ _ trivial (fun hHeld => ?_)
        clear hK K
        refine norm_ (a':=?_) ?_ ?_
        rotate_left
        ·show Act.put _ (some 142) _ = _
         simp only [Act.put,zA,zB,zC,i64_w,i32_w]
         rfl
        refine one_ (i:=4) (N:=some 146) #[true,true,true,true,true,false,false,false,true,false,false] rfl rfl (one_of HT_.out (by kernel_rfl)) (by decide) (fun K hK => ?_)
        refine goes_ Try.func25 (by kernel_rfl) rfl #[.agg #[.int .i64 1,.int .i64 2],.slice (some ad) tl.length c0] (by rfl) rfl rfl (by (try simp only [List.map_toArray,List.map_cons,List.map_nil]);first | done | rfl) ?_
        with_reducible refine (reeveref02_Add.calls kk 1 2 _ _ tl d1 d2 0 _ (by rw [← HT.out];exact take_C (Kd.C_below HR0.out HB.out) TL.out) (by have:=HC0.out;rw [← HT.out,List.length_take];omega) HA.out).mono ?_
        rintro e W268 ⟨rfl,hb⟩
        refine ⟨_,rfl,?_⟩
        have ngr:=Aside0.mk (blk_below Kgr.out hb)
        have ngf:=Aside0.mk (blk_below Kgf.out hb)
        have ngv:=Aside0.mk (blk_below Kgv.out hb)
        have ngq:=Aside0.mk (blk_below Kgq.out hb)
        have ngu:=Aside0.mk (blk_below Kgu.out hb)
        have ngw:=Aside0.mk (blk_below Kgw.out hb)
        have nB : Aside0 (Below w.heap.size w W268):=Aside0.mk (below_step HB.out hb)
        clear Kgr;have Kgr:=ngr;clear ngr
        clear Kgf;have Kgf:=ngf;clear ngf
        clear Kgv;have Kgv:=ngv;clear ngv
        clear Kgq;have Kgq:=ngq;clear ngq
        clear Kgu;have Kgu:=ngu;clear ngu
        clear Kgw;have Kgw:=ngw;clear ngw
        clear HB;have HB:=nB;clear nB
        clear hb
        refine hK.out _ _ trivial (fun hHeld => ?_)
        clear hK K
        refine norm_ (a':=?_) ?_ ?_
        rotate_left
        ·show Act.put _ (some 146) _ = _
         simp only [Act.put,zA,zB,zC,i64_w,i32_w]
         rfl
        refine pure_ (i:=5) (N:=some 141) (v:=?_) (a':=?_) #[true,true,true,true,true,true,false,false,true,false,false] rfl rfl (any_of HT_.out (by kernel_rfl)) (fun _ _ _ h => h) (Or.inl ⟨by rfl,?_⟩) ?_ ?_
        rotate_left
        ·intro w'
         go_simp
         with_reducible rfl
        rotate_left
        ·simp only [Act.put,zA,zB,zC,i64_w,i32_w]
         rfl
        refine pure_ (i:=6) (N:=some 147) (v:=?_) (a':=?_) #[true,true,true,true,true,true,true,false,true,false,false] rfl rfl (any_of HT_.out (by kernel_rfl)) (fun _ _ _ h => h) (Or.inl ⟨by rfl,?_⟩) ?_ ?_
        rotate_left
        ·intro w'
         go_simp
         with_reducible rfl
        rotate_left
        ·simp only [Act.put,zA,zB,zC,i64_w,i32_w]
         rfl
        refine pure_ (i:=7) (N:=some 148) (v:=?_) (a':=?_) #[true,true,true,true,true,true,true,true,true,false,false] rfl rfl (any_of HT_.out (by kernel_rfl)) (fun _ _ _ h => h) (Or.inl ⟨by rfl,?_⟩) ?_ ?_
        rotate_left
        ·intro w'
         go_simp
         with_reducible rfl
        rotate_left
        ·simp only [Act.put,zA,zB,zC,i64_w,i32_w]
         rfl
        exact norm_ (by simp only [putAll,Act.put,List.setIfInBounds_toArray,List.set_cons_zero,List.set_cons_succ]) (hCont gw _ ⟨Kgr,Kgf,Kgv,Kgq,Kgu,Kgw,HB,Lgw,Ngr_gw,Ngf_gw,Ngv_gw,Ngq_gw,Ngu_gw,Ngw_gr,Ngw_gf,Ngw_gv,Ngw_gq,Ngw_gu⟩)
      clear HB Kgr Kgf Kgv Kgq Kgu
      rintro gw W260 ⟨Kgr,Kgf,Kgv,Kgq,Kgu,Kgw,HB,Lgw,Ngr_gw,Ngf_gw,Ngv_gw,Ngq_gw,Ngu_gw,Ngw_gr,Ngw_gf,Ngw_gv,Ngw_gq,Ngw_gu⟩
      have hHeld : True:=trivial
      refine norm_ (a':=?_) ?_ ?_
      rotate_left
      ·simp only [putAll,Act.put,List.setIfInBounds_toArray,List.set_cons_zero,List.set_cons_succ]
       rfl
      refine one_ (i:=9) (N:=none) #[true,true,true,true,true,true,true,true,true,true,false] rfl rfl (one_of HT_.out (by kernel_rfl)) (by decide) (fun K hK => ?_)
      refine H.put_step (by rfl) rfl rfl (i:=0) [.int .i64 d1,.int .i64 d2] Kgw.out rfl rfl (by kernel_rfl) (by kernel_rfl) (by kernel_rfl) ?_
      intro W301 hw
      have ngr:=Aside0.mk (H.far_fill hw Ngr_gw.out Kgr.out)
      have ngf:=Aside0.mk (H.far_fill hw Ngf_gw.out Kgf.out)
      have ngv:=Aside0.mk (H.far_fill hw Ngv_gw.out Kgv.out)
      have ngq:=Aside0.mk (H.far_fill hw Ngq_gw.out Kgq.out)
      have ngu:=Aside0.mk (H.far_fill hw Ngu_gw.out Kgu.out)
      have ngw : Aside0 (W301.heap[gw]? = some (.cells #[.int .i64 d1,.int .i64 d2] 23 (0,0))):=Aside0.mk (H.blk_fill hw Kgw.out (by kernel_rfl))
      have nB : Aside0 (Below w.heap.size w W301):=Aside0.mk (H.below_fill hw Lgw.out HB.out)
      clear Kgr;have Kgr:=ngr;clear ngr
      clear Kgf;have Kgf:=ngf;clear ngf
      clear Kgv;have Kgv:=ngv;clear ngv
      clear Kgq;have Kgq:=ngq;clear ngq
      clear Kgu;have Kgu:=ngu;clear ngu
      clear Kgw;have Kgw:=ngw;clear ngw
      clear HB;have HB:=nB;clear nB
      clear hw
      have kgr:=blk_cell Kgr.out;have fgr:=blk_frozen Kgr.out
      have kgf:=blk_cell Kgf.out;have fgf:=blk_frozen Kgf.out
      have kgq:=blk_cell Kgq.out;have fgq:=blk_frozen Kgq.out
      have kgu:=blk_cell Kgu.out;have fgu:=blk_frozen Kgu.out
      have kgw:=blk_cell Kgw.out;have fgw:=blk_frozen Kgw.out
      refine hK.out _ _ trivial (fun hHeld => ?_)
      clear hK K
      refine pure_ (i:=10) (N:=some 17) (v:=?_) (a':=?_) #[true,true,true,true,true,true,true,true,true,true,true] rfl rfl (any_of HT_.out (by kernel_rfl)) (fun _ _ _ h => h) (Or.inl ⟨by rfl,?_⟩) ?_ ?_
      rotate_left
      ·intro w'
       go_simp
       with_reducible rfl
      rotate_left
      ·simp only [Act.put,zA,zB,zC,i64_w,i32_w]
       rfl
      refine done_ (done_of HT_.out (by kernel_rfl)) ?_
      have hI:=HG.out
      first | rw [if_pos rfl] at hI | rw [if_pos trivial] at hI
      clear HG
      by_cases q1 : s1 = d1
      ·subst q1
       by_cases q2 : s2 = d2
       ·subst q2
        rw [if_pos rfl] at hI
        have HQ:=Aside0.mk hI
        clear hI
        go_wp2_with (first | ((with_reducible refine gate_dst (N:=155) rfl ?_);replace HB : Aside0 (Below w.heap.size w W301):=HB;refine H.get_event (t:=45) (x:=11) (N:=155) (i:=0) rfl rfl rfl [.int .i64 1,.int .i64 x1,.int .i64 x2,.int .i64 x3,.int .i64 0,.int .i64 0,.int .i64 x4,.int .i64 x5,.int .i64 x6,.int .i64 x7] Kgq.out rfl (by kernel_rfl) Try.underlying45 rfl (by kernel_rfl) ?_) | ((with_reducible refine gate_store (t:=45) (p:=2) rfl ?_);replace HB : Aside0 (Below w.heap.size w W301):=HB;refine H.put_event (t:=45) (p:=2) (i:=0) rfl rfl rfl [.int .i64 1,.int .i64 x1,.int .i64 x2,.int .i64 x3,.int .i64 0,.int .i64 0,.int .i64 x4,.int .i64 x5,.int .i64 x6,.int .i64 x7] Kgr.out rfl rfl (by kernel_rfl) (by kernel_rfl) (by kernel_rfl) ?_;intro W302 hw;replace Kgr : Aside0 (W302.heap[gr]? = some (.cells #[.int .i64 1,.int .i64 x1,.int .i64 x2,.int .i64 x3,.int .i64 0,.int .i64 0,.int .i64 x4,.int .i64 x5,.int .i64 x6,.int .i64 x7] 45 (0,0))):=Aside0.mk (H.blk_fill hw Kgr.out (by kernel_rfl));replace Kgf:=Aside0.mk (H.far_fill hw Ngf_gr.out Kgf.out);replace Kgv:=Aside0.mk (H.far_fill hw Ngv_gr.out Kgv.out);replace Kgq:=Aside0.mk (H.far_fill hw Ngq_gr.out Kgq.out);replace Kgu:=Aside0.mk (H.far_fill hw Ngu_gr.out Kgu.out);replace Kgw:=Aside0.mk (H.far_fill hw Ngw_gr.out Kgw.out);replace HB : Aside0 (Below w.heap.size w W302):=Aside0.mk (H.below_fill hw Lgr.out HB.out);clear kgr fgr kgf fgf kgq fgq kgu fgu kgw fgw;clear hw;have kgr:=blk_cell Kgr.out;have fgr:=blk_frozen Kgr.out;have kgf:=blk_cell Kgf.out;have fgf:=blk_frozen Kgf.out;have kgq:=blk_cell Kgq.out;have fgq:=blk_frozen Kgq.out;have kgu:=blk_cell Kgu.out;have fgu:=blk_frozen Kgu.out;have kgw:=blk_cell Kgw.out;have fgw:=blk_frozen Kgw.out) | ((with_reducible refine gate_store (t:=50) (p:=4) rfl ?_);replace HB : Aside0 (Below w.heap.size w W302):=HB;refine H.put_event (t:=50) (p:=4) (i:=0) rfl rfl rfl [.int .i64 0,.int .i64 0] Kgf.out rfl rfl (by kernel_rfl) (by kernel_rfl) (by kernel_rfl) ?_;intro W303 hw;replace Kgr:=Aside0.mk (H.far_fill hw Ngr_gf.out Kgr.out);replace Kgf : Aside0 (W303.heap[gf]? = some (.cells #[.int .i64 0,.int .i64 0] 50 (0,0))):=Aside0.mk (H.blk_fill hw Kgf.out (by kernel_rfl));replace Kgv:=Aside0.mk (H.far_fill hw Ngv_gf.out Kgv.out);replace Kgq:=Aside0.mk (H.far_fill hw Ngq_gf.out Kgq.out);replace Kgu:=Aside0.mk (H.far_fill hw Ngu_gf.out Kgu.out);replace Kgw:=Aside0.mk (H.far_fill hw Ngw_gf.out Kgw.out);replace HB : Aside0 (Below w.heap.size w W303):=Aside0.mk (H.below_fill hw Lgf.out HB.out);clear kgr fgr kgf fgf kgq fgq kgu fgu kgw fgw;clear hw;have kgr:=blk_cell Kgr.out;have fgr:=blk_frozen Kgr.out;have kgf:=blk_cell Kgf.out;have fgf:=blk_frozen Kgf.out;have kgq:=blk_cell Kgq.out;have fgq:=blk_frozen Kgq.out;have kgu:=blk_cell Kgu.out;have fgu:=blk_frozen Kgu.out;have kgw:=blk_cell Kgw.out;have fgw:=blk_frozen Kgw.out))
        rw [← HQ.out]
        have hP:=HP.out
        subst hP
        refine bodyPost_ret (results_ctc rfl _ _ gr gf 45 50 #[.int .i64 1,.int .i64 x1,.int .i64 x2,.int .i64 x3,.int .i64 0,.int .i64 0,.int .i64 x4,.int .i64 x5,.int .i64 x6,.int .i64 x7] #[.int .i64 0,.int .i64 0] (0,0) (0,0) _ _ rfl Kgr.out Try.underlying45 rfl (by kernel_rfl) rfl Kgf.out Try.underlying50 rfl (by kernel_rfl)) rfl ?_
        exact ⟨rfl,HB.out⟩
       ·rw [if_neg (fun h => q2 (by injection h))] at hI
        have HQ:=Aside0.mk hI
        clear hI
        go_wp2_with (first | ((with_reducible refine gate_store (t:=45) (p:=2) rfl ?_);replace HB : Aside0 (Below w.heap.size w W301):=HB;refine H.put_event (t:=45) (p:=2) (i:=0) rfl rfl rfl [.int .i64 0,.int .i64 0,.int .i64 0,.int .i64 0,.int .i64 0,.int .i64 0,.int .i64 0,.int .i64 0,.int .i64 0,.int .i64 0] Kgr.out rfl rfl (by kernel_rfl) (by kernel_rfl) (by kernel_rfl) ?_;intro W302 hw;replace Kgr : Aside0 (W302.heap[gr]? = some (.cells #[.int .i64 0,.int .i64 0,.int .i64 0,.int .i64 0,.int .i64 0,.int .i64 0,.int .i64 0,.int .i64 0,.int .i64 0,.int .i64 0] 45 (0,0))):=Aside0.mk (H.blk_fill hw Kgr.out (by kernel_rfl));replace Kgf:=Aside0.mk (H.far_fill hw Ngf_gr.out Kgf.out);replace Kgv:=Aside0.mk (H.far_fill hw Ngv_gr.out Kgv.out);replace Kgq:=Aside0.mk (H.far_fill hw Ngq_gr.out Kgq.out);replace Kgu:=Aside0.mk (H.far_fill hw Ngu_gr.out Kgu.out);replace Kgw:=Aside0.mk (H.far_fill hw Ngw_gr.out Kgw.out);replace HB : Aside0 (Below w.heap.size w W302):=Aside0.mk (H.below_fill hw Lgr.out HB.out);clear kgr fgr kgf fgf kgq fgq kgu fgu kgw fgw;clear hw;have kgr:=blk_cell Kgr.out;have fgr:=blk_frozen Kgr.out;have kgf:=blk_cell Kgf.out;have fgf:=blk_frozen Kgf.out;have kgq:=blk_cell Kgq.out;have fgq:=blk_frozen Kgq.out;have kgu:=blk_cell Kgu.out;have fgu:=blk_frozen Kgu.out;have kgw:=blk_cell Kgw.out;have fgw:=blk_frozen Kgw.out) | ((with_reducible refine gate_store (t:=50) (p:=4) rfl ?_);replace HB : Aside0 (Below w.heap.size w W302):=HB;refine H.put_event (t:=50) (p:=4) (i:=0) rfl rfl rfl [.int .i64 41,.int .i64 a] Kgf.out rfl rfl (by kernel_rfl) (by kernel_rfl) (by kernel_rfl) ?_;intro W303 hw;replace Kgr:=Aside0.mk (H.far_fill hw Ngr_gf.out Kgr.out);replace Kgf : Aside0 (W303.heap[gf]? = some (.cells #[.int .i64 41,.int .i64 a] 50 (0,0))):=Aside0.mk (H.blk_fill hw Kgf.out (by kernel_rfl));replace Kgv:=Aside0.mk (H.far_fill hw Ngv_gf.out Kgv.out);replace Kgq:=Aside0.mk (H.far_fill hw Ngq_gf.out Kgq.out);replace Kgu:=Aside0.mk (H.far_fill hw Ngu_gf.out Kgu.out);replace Kgw:=Aside0.mk (H.far_fill hw Ngw_gf.out Kgw.out);replace HB : Aside0 (Below w.heap.size w W303):=Aside0.mk (H.below_fill hw Lgf.out HB.out);clear kgr fgr kgf fgf kgq fgq kgu fgu kgw fgw;clear hw;have kgr:=blk_cell Kgr.out;have fgr:=blk_frozen Kgr.out;have kgf:=blk_cell Kgf.out;have fgf:=blk_frozen Kgf.out;have kgq:=blk_cell Kgq.out;have fgq:=blk_frozen Kgq.out;have kgu:=blk_cell Kgu.out;have fgu:=blk_frozen Kgu.out;have kgw:=blk_cell Kgw.out;have fgw:=blk_frozen Kgw.out))
        rw [← HQ.out]
        refine bodyPost_ret (results_ctc rfl _ _ gr gf 45 50 #[.int .i64 0,.int .i64 0,.int .i64 0,.int .i64 0,.int .i64 0,.int .i64 0,.int .i64 0,.int .i64 0,.int .i64 0,.int .i64 0] #[.int .i64 41,.int .i64 a] (0,0) (0,0) _ _ rfl Kgr.out Try.underlying45 rfl (by kernel_rfl) rfl Kgf.out Try.underlying50 rfl (by kernel_rfl)) rfl ?_
        exact ⟨rfl,HB.out⟩
      ·rw [if_neg (fun h => q1 (by injection h))] at hI
       have HQ:=Aside0.mk hI
       clear hI
       go_wp2_with (first | ((with_reducible refine gate_store (t:=45) (p:=2) rfl ?_);replace HB : Aside0 (Below w.heap.size w W301):=HB;refine H.put_event (t:=45) (p:=2) (i:=0) rfl rfl rfl [.int .i64 0,.int .i64 0,.int .i64 0,.int .i64 0,.int .i64 0,.int .i64 0,.int .i64 0,.int .i64 0,.int .i64 0,.int .i64 0] Kgr.out rfl rfl (by kernel_rfl) (by kernel_rfl) (by kernel_rfl) ?_;intro W302 hw;replace Kgr : Aside0 (W302.heap[gr]? = some (.cells #[.int .i64 0,.int .i64 0,.int .i64 0,.int .i64 0,.int .i64 0,.int .i64 0,.int .i64 0,.int .i64 0,.int .i64 0,.int .i64 0] 45 (0,0))):=Aside0.mk (H.blk_fill hw Kgr.out (by kernel_rfl));replace Kgf:=Aside0.mk (H.far_fill hw Ngf_gr.out Kgf.out);replace Kgv:=Aside0.mk (H.far_fill hw Ngv_gr.out Kgv.out);replace Kgq:=Aside0.mk (H.far_fill hw Ngq_gr.out Kgq.out);replace Kgu:=Aside0.mk (H.far_fill hw Ngu_gr.out Kgu.out);replace Kgw:=Aside0.mk (H.far_fill hw Ngw_gr.out Kgw.out);replace HB : Aside0 (Below w.heap.size w W302):=Aside0.mk (H.below_fill hw Lgr.out HB.out);clear kgr fgr kgf fgf kgq fgq kgu fgu kgw fgw;clear hw;have kgr:=blk_cell Kgr.out;have fgr:=blk_frozen Kgr.out;have kgf:=blk_cell Kgf.out;have fgf:=blk_frozen Kgf.out;have kgq:=blk_cell Kgq.out;have fgq:=blk_frozen Kgq.out;have kgu:=blk_cell Kgu.out;have fgu:=blk_frozen Kgu.out;have kgw:=blk_cell Kgw.out;have fgw:=blk_frozen Kgw.out) | ((with_reducible refine gate_store (t:=50) (p:=4) rfl ?_);replace HB : Aside0 (Below w.heap.size w W302):=HB;refine H.put_event (t:=50) (p:=4) (i:=0) rfl rfl rfl [.int .i64 41,.int .i64 a] Kgf.out rfl rfl (by kernel_rfl) (by kernel_rfl) (by kernel_rfl) ?_;intro W303 hw;replace Kgr:=Aside0.mk (H.far_fill hw Ngr_gf.out Kgr.out);replace Kgf : Aside0 (W303.heap[gf]? = some (.cells #[.int .i64 41,.int .i64 a] 50 (0,0))):=Aside0.mk (H.blk_fill hw Kgf.out (by kernel_rfl));replace Kgv:=Aside0.mk (H.far_fill hw Ngv_gf.out Kgv.out);replace Kgq:=Aside0.mk (H.far_fill hw Ngq_gf.out Kgq.out);replace Kgu:=Aside0.mk (H.far_fill hw Ngu_gf.out Kgu.out);replace Kgw:=Aside0.mk (H.far_fill hw Ngw_gf.out Kgw.out);replace HB : Aside0 (Below w.heap.size w W303):=Aside0.mk (H.below_fill hw Lgf.out HB.out);clear kgr fgr kgf fgf kgq fgq kgu fgu kgw fgw;clear hw;have kgr:=blk_cell Kgr.out;have fgr:=blk_frozen Kgr.out;have kgf:=blk_cell Kgf.out;have fgf:=blk_frozen Kgf.out;have kgq:=blk_cell Kgq.out;have fgq:=blk_frozen Kgq.out;have kgu:=blk_cell Kgu.out;have fgu:=blk_frozen Kgu.out;have kgw:=blk_cell Kgw.out;have fgw:=blk_frozen Kgw.out))
       rw [← HQ.out]
       refine bodyPost_ret (results_ctc rfl _ _ gr gf 45 50 #[.int .i64 0,.int .i64 0,.int .i64 0,.int .i64 0,.int .i64 0,.int .i64 0,.int .i64 0,.int .i64 0,.int .i64 0,.int .i64 0] #[.int .i64 41,.int .i64 a] (0,0) (0,0) _ _ rfl Kgr.out Try.underlying45 rfl (by kernel_rfl) rfl Kgf.out Try.underlying50 rfl (by kernel_rfl)) rfl ?_
       exact ⟨rfl,HB.out⟩
     ·have hI:=HG.out
      rw [if_neg he] at hI
      have HQ:=Aside0.mk hI
      clear hI HG
      go_wp2_with (first | ((with_reducible refine gate_store (t:=3) (p:=108) rfl ?_);replace HB : Aside0 (Below w.heap.size w W203):=HB;refine store_event (t:=3) (p:=108) (v:=?vo1) (w1:=(World.setCells W203 gq 2 [.int .i64 x2])) ?hg ?ho ?hn ?hr ?_;(case ho => rfl);(case hg => rfl);(case hn => rfl);(case hr => go_simp;kernel_rfl);intro W204 hw;replace Kgr:=Aside0.mk (H.far_fill hw Ngr_gq.out Kgr.out);replace Kgf:=Aside0.mk (H.far_fill hw Ngf_gq.out Kgf.out);replace Kgv:=Aside0.mk (H.far_fill hw Ngv_gq.out Kgv.out);replace Kgq : Aside0 (W204.heap[gq]? = some (.cells #[.int .i64 1,.int .i64 x1,.int .i64 x2,.int .i64 0,.int .i64 0,.int .i64 0,.int .i64 x4,.int .i64 x5,.int .i64 x6,.int .i64 x7] 45 (0,0))):=Aside0.mk (H.blk_fill hw Kgq.out (by kernel_rfl));replace HB : Aside0 (Below w.heap.size w W204):=Aside0.mk (H.below_fill hw Lgq.out HB.out);clear kgr fgr kgf fgf kgq fgq kv2 kv3;clear hw;have kgr:=blk_cell Kgr.out;have fgr:=blk_frozen Kgr.out;have kgf:=blk_cell Kgf.out;have fgf:=blk_frozen Kgf.out;have kgq:=blk_cell Kgq.out;have fgq:=blk_frozen Kgq.out;have kv2:=(blk_cell Kgv.out 2).trans E2.out;have kv3:=(blk_cell Kgv.out 3).trans E3.out) | ((with_reducible refine gate_store (t:=3) (p:=112) rfl ?_);replace HB : Aside0 (Below w.heap.size w W204):=HB;refine store_event (t:=3) (p:=112) (v:=?vo2) (w1:=(World.setCells W204 gq 3 [.int .i64 x3])) ?hg ?ho ?hn ?hr ?_;(case ho => rfl);(case hg => rfl);(case hn => rfl);(case hr => go_simp;kernel_rfl);intro W205 hw;replace Kgr:=Aside0.mk (H.far_fill hw Ngr_gq.out Kgr.out);replace Kgf:=Aside0.mk (H.far_fill hw Ngf_gq.out Kgf.out);replace Kgv:=Aside0.mk (H.far_fill hw Ngv_gq.out Kgv.out);replace Kgq : Aside0 (W205.heap[gq]? = some (.cells #[.int .i64 1,.int .i64 x1,.int .i64 x2,.int .i64 x3,.int .i64 0,.int .i64 0,.int .i64 x4,.int .i64 x5,.int .i64 x6,.int .i64 x7] 45 (0,0))):=Aside0.mk (H.blk_fill hw Kgq.out (by kernel_rfl));replace HB : Aside0 (Below w.heap.size w W205):=Aside0.mk (H.below_fill hw Lgq.out HB.out);clear kgr fgr kgf fgf kgq fgq kv2 kv3;clear hw;have kgr:=blk_cell Kgr.out;have fgr:=blk_frozen Kgr.out;have kgf:=blk_cell Kgf.out;have fgf:=blk_frozen Kgf.out;have kgq:=blk_cell Kgq.out;have fgq:=blk_frozen Kgq.out;have kv2:=(blk_cell Kgv.out 2).trans E2.out;have kv3:=(blk_cell Kgv.out 3).trans E3.out) | ((with_reducible refine gate_dst (N:=121) rfl ?_);replace HB : Aside0 (Below w.heap.size w W205):=HB;refine H.get_event (t:=45) (x:=11) (N:=121) (i:=0) rfl rfl rfl [.int .i64 1,.int .i64 x1,.int .i64 x2,.int .i64 x3,.int .i64 0,.int .i64 0,.int .i64 x4,.int .i64 x5,.int .i64 x6,.int .i64 x7] Kgq.out rfl (by kernel_rfl) Try.underlying45 rfl (by kernel_rfl) ?_) | (go_at_call 65;replace HB : Aside0 (Below w.heap.size w W205):=HB;(with_reducible refine (cR _).mono ?_);rintro e W206 ⟨rfl,hb⟩;replace Kgr:=Aside0.mk (blk_below Kgr.out hb);replace Kgf:=Aside0.mk (blk_below Kgf.out hb);replace Kgv:=Aside0.mk (blk_below Kgv.out hb);replace Kgq:=Aside0.mk (blk_below Kgq.out hb);replace HB : Aside0 (Below w.heap.size w W206):=Aside0.mk (below_step HB.out hb);clear kgr fgr kgf fgf kgq fgq kv2 kv3;clear hb;have kgr:=blk_cell Kgr.out;have fgr:=blk_frozen Kgr.out;have kgf:=blk_cell Kgf.out;have fgf:=blk_frozen Kgf.out;have kgq:=blk_cell Kgq.out;have fgq:=blk_frozen Kgq.out) | (go_at_call 36;replace HB : Aside0 (Below w.heap.size w W206):=HB;(with_reducible refine (reeveref02_Read.calls 40 _ _ l0 a s1 s2 m er _ ?u1 ?u2 A3.out).mono ?_);(case u1 => exact Kd.C_below HR0.out HB.out);(case u2 => exact HC0.out);rintro e W207 ⟨rfl,hb⟩;replace Kgr:=Aside0.mk (blk_below Kgr.out hb);replace Kgf:=Aside0.mk (blk_below Kgf.out hb);replace Kgv:=Aside0.mk (blk_below Kgv.out hb);replace Kgq:=Aside0.mk (blk_below Kgq.out hb);replace HB : Aside0 (Below w.heap.size w W207):=Aside0.mk (below_step HB.out hb);clear kgr fgr kgf fgf kgq fgq;clear hb;have kgr:=blk_cell Kgr.out;have fgr:=blk_frozen Kgr.out;have kgf:=blk_cell Kgf.out;have fgf:=blk_frozen Kgf.out;have kgq:=blk_cell Kgq.out;have fgq:=blk_frozen Kgq.out) | ((with_reducible refine gate_dst (N:=13) rfl ?_);replace HB : Aside0 (Below w.heap.size w W207):=HB;refine box_event ?hg (N:=13) ?hd (cs:=#[.int .i64 0,.int .i64 0]) (t:=23) ?hr ?_;(case hd => rfl);(case hg => rfl);(case hr => first | (go_simp;done) | (go_simp;rfl));intro gu hg W208 hbox hb;have Lgu : Aside0 (w.heap.size ≤ gu):=Aside0.mk (by rw [hg];exact below_size HB.out);have Ngr_gu : Aside0 (gr ≠ gu):=Aside0.mk (by rw [hg];exact Nat.ne_of_lt (blk_lt Kgr.out));have Ngu_gr : Aside0 (gu ≠ gr):=Aside0.mk (fun e => Ngr_gu.out e.symm);have Ngf_gu : Aside0 (gf ≠ gu):=Aside0.mk (by rw [hg];exact Nat.ne_of_lt (blk_lt Kgf.out));have Ngu_gf : Aside0 (gu ≠ gf):=Aside0.mk (fun e => Ngf_gu.out e.symm);have Ngv_gu : Aside0 (gv ≠ gu):=Aside0.mk (by rw [hg];exact Nat.ne_of_lt (blk_lt Kgv.out));have Ngu_gv : Aside0 (gu ≠ gv):=Aside0.mk (fun e => Ngv_gu.out e.symm);have Ngq_gu : Aside0 (gq ≠ gu):=Aside0.mk (by rw [hg];exact Nat.ne_of_lt (blk_lt Kgq.out));have Ngu_gq : Aside0 (gu ≠ gq):=Aside0.mk (fun e => Ngq_gu.out e.symm);replace Kgr:=Aside0.mk (blk_below Kgr.out hb);replace Kgf:=Aside0.mk (blk_below Kgf.out hb);replace Kgv:=Aside0.mk (blk_below Kgv.out hb);replace Kgq:=Aside0.mk (blk_below Kgq.out hb);replace HB : Aside0 (Below w.heap.size w W208):=Aside0.mk (below_step HB.out hb);clear kgr fgr kgf fgf kgq fgq;have Kgu : Aside0 (W208.heap[gu]? = some (.cells #[.int .i64 0,.int .i64 0] 23 (0,0))):=Aside0.mk hbox;clear hb hbox hg;have kgr:=blk_cell Kgr.out;have fgr:=blk_frozen Kgr.out;have kgf:=blk_cell Kgf.out;have fgf:=blk_frozen Kgf.out;have kgq:=blk_cell Kgq.out;have fgq:=blk_frozen Kgq.out;have kgu:=blk_cell Kgu.out;have fgu:=blk_frozen Kgu.out) | ((with_reducible refine gate_store (t:=23) (p:=13) rfl ?_);replace HB : Aside0 (Below w.heap.size w W208):=HB;refine H.put_event (t:=23) (p:=13) (i:=0) rfl rfl rfl [.int .i64 s1,.int .i64 s2] Kgu.out rfl rfl (by kernel_rfl) (by kernel_rfl) (by kernel_rfl) ?_;intro W209 hw;replace Kgr:=Aside0.mk (H.far_fill hw Ngr_gu.out Kgr.out);replace Kgf:=Aside0.mk (H.far_fill hw Ngf_gu.out Kgf.out);replace Kgv:=Aside0.mk (H.far_fill hw Ngv_gu.out Kgv.out);replace Kgq:=Aside0.mk (H.far_fill hw Ngq_gu.out Kgq.out);replace Kgu : Aside0 (W209.heap[gu]? = some (.cells #[.int .i64 s1,.int .i64 s2] 23 (0,0))):=Aside0.mk (H.blk_fill hw Kgu.out (by kernel_rfl));replace HB : Aside0 (Below w.heap.size w W209):=Aside0.mk (H.below_fill hw Lgu.out HB.out);clear kgr fgr kgf fgf kgq fgq kgu fgu;clear hw;have kgr:=blk_cell Kgr.out;have fgr:=blk_frozen Kgr.out;have kgf:=blk_cell Kgf.out;have fgf:=blk_frozen Kgf.out;have kgq:=blk_cell Kgq.out;have fgq:=blk_frozen Kgq.out;have kgu:=blk_cell Kgu.out;have fgu:=blk_frozen Kgu.out) | ((with_reducible refine gate_store (t:=45) (p:=2) rfl ?_);replace HB : Aside0 (Below w.heap.size w W209):=HB;refine H.put_event (t:=45) (p:=2) (i:=0) rfl rfl rfl [.int .i64 0,.int .i64 0,.int .i64 0,.int .i64 0,.int .i64 0,.int .i64 0,.int .i64 0,.int .i64 0,.int .i64 0,.int .i64 0] Kgr.out rfl rfl (by kernel_rfl) (by kernel_rfl) (by kernel_rfl) ?_;intro W210 hw;replace Kgr : Aside0 (W210.heap[gr]? = some (.cells #[.int .i64 0,.int .i64 0,.int .i64 0,.int .i64 0,.int .i64 0,.int .i64 0,.int .i64 0,.int .i64 0,.int .i64 0,.int .i64 0] 45 (0,0))):=Aside0.mk (H.blk_fill hw Kgr.out (by kernel_rfl));replace Kgf:=Aside0.mk (H.far_fill hw Ngf_gr.out Kgf.out);replace Kgv:=Aside0.mk (H.far_fill hw Ngv_gr.out Kgv.out);replace Kgq:=Aside0.mk (H.far_fill hw Ngq_gr.out Kgq.out);replace Kgu:=Aside0.mk (H.far_fill hw Ngu_gr.out Kgu.out);replace HB : Aside0 (Below w.heap.size w W210):=Aside0.mk (H.below_fill hw Lgr.out HB.out);clear kgr fgr kgf fgf kgq fgq kgu fgu;clear hw;have kgr:=blk_cell Kgr.out;have fgr:=blk_frozen Kgr.out;have kgf:=blk_cell Kgf.out;have fgf:=blk_frozen Kgf.out;have kgq:=blk_cell Kgq.out;have fgq:=blk_frozen Kgq.out;have kgu:=blk_cell Kgu.out;have fgu:=blk_frozen Kgu.out) | ((with_reducible refine gate_store (t:=50) (p:=4) rfl ?_);replace HB : Aside0 (Below w.heap.size w W210):=HB;refine H.put_event (t:=50) (p:=4) (i:=0) rfl rfl rfl [.int .i64 er,.int .i64 a] Kgf.out rfl rfl (by kernel_rfl) (by kernel_rfl) (by kernel_rfl) ?_;intro W211 hw;replace Kgr:=Aside0.mk (H.far_fill hw Ngr_gf.out Kgr.out);replace Kgf : Aside0 (W211.heap[gf]? = some (.cells #[.int .i64 er,.int .i64 a] 50 (0,0))):=Aside0.mk (H.blk_fill hw Kgf.out (by kernel_rfl));replace Kgv:=Aside0.mk (H.far_fill hw Ngv_gf.out Kgv.out);replace Kgq:=Aside0.mk (H.far_fill hw Ngq_gf.out Kgq.out);replace Kgu:=Aside0.mk (H.far_fill hw Ngu_gf.out Kgu.out);replace HB : Aside0 (Below w.heap.size w W211):=Aside0.mk (H.below_fill hw Lgf.out HB.out);clear kgr fgr kgf fgf kgq fgq kgu fgu;clear hw;have kgr:=blk_cell Kgr.out;have fgr:=blk_frozen Kgr.out;have kgf:=blk_cell Kgf.out;have fgf:=blk_frozen Kgf.out;have kgq:=blk_cell Kgq.out;have fgq:=blk_frozen Kgq.out;have kgu:=blk_cell Kgu.out;have fgu:=blk_frozen Kgu.out))
      rw [← HQ.out]
      refine bodyPost_ret (results_ctc rfl _ _ gr gf 45 50 #[.int .i64 0,.int .i64 0,.int .i64 0,.int .i64 0,.int .i64 0,.int .i64 0,.int .i64 0,.int .i64 0,.int .i64 0,.int .i64 0] #[.int .i64 er,.int .i64 a] (0,0) (0,0) _ _ rfl Kgr.out Try.underlying45 rfl (by kernel_rfl) rfl Kgf.out Try.underlying50 rfl (by kernel_rfl)) rfl ?_
      exact ⟨rfl,HB.out⟩
    ·rw [if_neg c1] at hI
     have c2 : Pol.ok p = false:=by simpa using c1
     rw [c2] at cR
     simp only [Bool.false_eq_true,if_false] at cR
     have HQ:=Aside0.mk hI
     clear hI c1 c2
     go_wp2_with (first | ((with_reducible refine gate_store (t:=3) (p:=108) rfl ?_);replace HB : Aside0 (Below w.heap.size w W203):=HB;refine store_event (t:=3) (p:=108) (v:=?vo1) (w1:=(World.setCells W203 gq 2 [.int .i64 x2])) ?hg ?ho ?hn ?hr ?_;(case ho => rfl);(case hg => rfl);(case hn => rfl);(case hr => go_simp;kernel_rfl);intro W204 hw;replace Kgr:=Aside0.mk (H.far_fill hw Ngr_gq.out Kgr.out);replace Kgf:=Aside0.mk (H.far_fill hw Ngf_gq.out Kgf.out);replace Kgv:=Aside0.mk (H.far_fill hw Ngv_gq.out Kgv.out);replace Kgq : Aside0 (W204.heap[gq]? = some (.cells #[.int .i64 1,.int .i64 x1,.int .i64 x2,.int .i64 0,.int .i64 0,.int .i64 0,.int .i64 x4,.int .i64 x5,.int .i64 x6,.int .i64 x7] 45 (0,0))):=Aside0.mk (H.blk_fill hw Kgq.out (by kernel_rfl));replace HB : Aside0 (Below w.heap.size w W204):=Aside0.mk (H.below_fill hw Lgq.out HB.out);clear kgr fgr kgf fgf kgq fgq kv2 kv3;clear hw;have kgr:=blk_cell Kgr.out;have fgr:=blk_frozen Kgr.out;have kgf:=blk_cell Kgf.out;have fgf:=blk_frozen Kgf.out;have kgq:=blk_cell Kgq.out;have fgq:=blk_frozen Kgq.out;have kv2:=(blk_cell Kgv.out 2).trans E2.out;have kv3:=(blk_cell Kgv.out 3).trans E3.out) | ((with_reducible refine gate_store (t:=3) (p:=112) rfl ?_);replace HB : Aside0 (Below w.heap.size w W204):=HB;refine store_event (t:=3) (p:=112) (v:=?vo2) (w1:=(World.setCells W204 gq 3 [.int .i64 x3])) ?hg ?ho ?hn ?hr ?_;(case ho => rfl);(case hg => rfl);(case hn => rfl);(case hr => go_simp;kernel_rfl);intro W205 hw;replace Kgr:=Aside0.mk (H.far_fill hw Ngr_gq.out Kgr.out);replace Kgf:=Aside0.mk (H.far_fill hw Ngf_gq.out Kgf.out);replace Kgv:=Aside0.mk (H.far_fill hw Ngv_gq.out Kgv.out);replace Kgq : Aside0 (W205.heap[gq]? = some (.cells #[.int .i64 1,.int .i64 x1,.int .i64 x2,.int .i64 x3,.int .i64 0,.int .i64 0,.int .i64 x4,.int .i64 x5,.int .i64 x6,.int .i64 x7] 45 (0,0))):=Aside0.mk (H.blk_fill hw Kgq.out (by kernel_rfl));replace HB : Aside0 (Below w.heap.size w W205):=Aside0.mk (H.below_fill hw Lgq.out HB.out);clear kgr fgr kgf fgf kgq fgq kv2 kv3;clear hw;have kgr:=blk_cell Kgr.out;have fgr:=blk_frozen Kgr.out;have kgf:=blk_cell Kgf.out;have fgf:=blk_frozen Kgf.out;have kgq:=blk_cell Kgq.out;have fgq:=blk_frozen Kgq.out;have kv2:=(blk_cell Kgv.out 2).trans E2.out;have kv3:=(blk_cell Kgv.out 3).trans E3.out) | ((with_reducible refine gate_dst (N:=121) rfl ?_);replace HB : Aside0 (Below w.heap.size w W205):=HB;refine H.get_event (t:=45) (x:=11) (N:=121) (i:=0) rfl rfl rfl [.int .i64 1,.int .i64 x1,.int .i64 x2,.int .i64 x3,.int .i64 0,.int .i64 0,.int .i64 x4,.int .i64 x5,.int .i64 x6,.int .i64 x7] Kgq.out rfl (by kernel_rfl) Try.underlying45 rfl (by kernel_rfl) ?_) | (go_at_call 65;replace HB : Aside0 (Below w.heap.size w W205):=HB;(with_reducible refine (cR _).mono ?_);rintro e W206 ⟨rfl,hb⟩;replace Kgr:=Aside0.mk (blk_below Kgr.out hb);replace Kgf:=Aside0.mk (blk_below Kgf.out hb);replace Kgv:=Aside0.mk (blk_below Kgv.out hb);replace Kgq:=Aside0.mk (blk_below Kgq.out hb);replace HB : Aside0 (Below w.heap.size w W206):=Aside0.mk (below_step HB.out hb);clear kgr fgr kgf fgf kgq fgq kv2 kv3;clear hb;have kgr:=blk_cell Kgr.out;have fgr:=blk_frozen Kgr.out;have kgf:=blk_cell Kgf.out;have fgf:=blk_frozen Kgf.out;have kgq:=blk_cell Kgq.out;have fgq:=blk_frozen Kgq.out) | ((with_reducible refine gate_store (t:=45) (p:=2) rfl ?_);replace HB : Aside0 (Below w.heap.size w W206):=HB;refine H.put_event (t:=45) (p:=2) (i:=0) rfl rfl rfl [.int .i64 0,.int .i64 0,.int .i64 0,.int .i64 0,.int .i64 0,.int .i64 0,.int .i64 0,.int .i64 0,.int .i64 0,.int .i64 0] Kgr.out rfl rfl (by kernel_rfl) (by kernel_rfl) (by kernel_rfl) ?_;intro W207 hw;replace Kgr : Aside0 (W207.heap[gr]? = some (.cells #[.int .i64 0,.int .i64 0,.int .i64 0,.int .i64 0,.int .i64 0,.int .i64 0,.int .i64 0,.int .i64 0,.int .i64 0,.int .i64 0] 45 (0,0))):=Aside0.mk (H.blk_fill hw Kgr.out (by kernel_rfl));replace Kgf:=Aside0.mk (H.far_fill hw Ngf_gr.out Kgf.out);replace Kgv:=Aside0.mk (H.far_fill hw Ngv_gr.out Kgv.out);replace Kgq:=Aside0.mk (H.far_fill hw Ngq_gr.out Kgq.out);replace HB : Aside0 (Below w.heap.size w W207):=Aside0.mk (H.below_fill hw Lgr.out HB.out);clear kgr fgr kgf fgf kgq fgq;clear hw;have kgr:=blk_cell Kgr.out;have fgr:=blk_frozen Kgr.out;have kgf:=blk_cell Kgf.out;have fgf:=blk_frozen Kgf.out;have kgq:=blk_cell Kgq.out;have fgq:=blk_frozen Kgq.out) | ((with_reducible refine gate_store (t:=50) (p:=4) rfl ?_);replace HB : Aside0 (Below w.heap.size w W207):=HB;refine H.put_event (t:=50) (p:=4) (i:=0) rfl rfl rfl [.int .i64 40,.int .i64 4] Kgf.out rfl rfl (by kernel_rfl) (by kernel_rfl) (by kernel_rfl) ?_;intro W208 hw;replace Kgr:=Aside0.mk (H.far_fill hw Ngr_gf.out Kgr.out);replace Kgf : Aside0 (W208.heap[gf]? = some (.cells #[.int .i64 40,.int .i64 4] 50 (0,0))):=Aside0.mk (H.blk_fill hw Kgf.out (by kernel_rfl));replace Kgv:=Aside0.mk (H.far_fill hw Ngv_gf.out Kgv.out);replace Kgq:=Aside0.mk (H.far_fill hw Ngq_gf.out Kgq.out);replace HB : Aside0 (Below w.heap.size w W208):=Aside0.mk (H.below_fill hw Lgf.out HB.out);clear kgr fgr kgf fgf kgq fgq;clear hw;have kgr:=blk_cell Kgr.out;have fgr:=blk_frozen Kgr.out;have kgf:=blk_cell Kgf.out;have fgf:=blk_frozen Kgf.out;have kgq:=blk_cell Kgq.out;have fgq:=blk_frozen Kgq.out))
     rw [← HQ.out]
     refine bodyPost_ret (results_ctc rfl _ _ gr gf 45 50 #[.int .i64 0,.int .i64 0,.int .i64 0,.int .i64 0,.int .i64 0,.int .i64 0,.int .i64 0,.int .i64 0,.int .i64 0,.int .i64 0] #[.int .i64 40,.int .i64 4] (0,0) (0,0) _ _ rfl Kgr.out Try.underlying45 rfl (by kernel_rfl) rfl Kgf.out Try.underlying50 rfl (by kernel_rfl)) rfl ?_
     exact ⟨rfl,HB.out⟩
   ·have k2 : (x0 == 1) = false:=beq_eq_false_iff_ne.2 k1
    have kv2:=(blk_cell Kgv.out 2).trans E2.out
    have kv3:=(blk_cell Kgv.out 3).trans E3.out
    have cR:=fun w => reeveref04_Right.calls 5 x0 x1 0 0 x2 x3 x4 x5 x6 x7 (if Pol.ok ⟨x0,x1,0,0,x2,x3,x4,x5,x6,x7⟩ = true then 0 else 40) w (Pol.rright (k:=5) ⟨x0,x1,0,0,x2,x3,x4,x5,x6,x7⟩ (by decide))
    have hI:=HI.out
    clear HI
    rw [show Pol.make x0 [x1,x2,x3,x4,x5,x6,x7] = ⟨x0,x1,0,0,x2,x3,x4,x5,x6,x7⟩ from by unfold Pol.make;rw [if_neg k1];rfl] at hI
    unfold Pol.tail at hI
    generalize hP : (⟨x0,x1,0,0,x2,x3,x4,x5,x6,x7⟩ : Pol.Py) = p at hI cR
    by_cases c1 : Pol.ok p = true
    ·rw [if_pos c1] at hI
     rw [c1] at cR
     simp only [if_true] at cR
     obtain ⟨a0,a1⟩:=HX.out
     have hrd:=Pure.rread6 (l:=l0) (i:=a) 39 HY.out HN.out (by omega) (by have:=HN.out;omega)
     generalize M.rd6 l0 a = q at hI hrd
     obtain ⟨s1,s2,m,er⟩:=q
     simp only at hI
     have htb : M.bytes (l0.take a.toNat) = true:=by
      have:=HY.out
      unfold M.bytes at this ⊢
      rw [List.all_eq_true] at this ⊢
      exact fun z hz => this z (List.mem_of_mem_take hz)
     have hadd : reeveref02_Add.f (l0.length + 1) 1 2 (l0.take a.toNat) = some ((M.add (1,2) (l0.take a.toNat)).1,(M.add (1,2) (l0.take a.toNat)).2,0):=Pure.radd (z:=(1,2)) (by decide) htb (by have:=HN.out;rw [List.length_take];omega) (by rw [List.length_take];omega)
     have hcut2:=cutn (some ad) l0 c0 a a0 a1 HC0.out
     have TL:=Aside0.mk (show a.toNat ≤ l0.length by omega)
     generalize hT : l0.take a.toNat = tl at hcut2 hadd hI htb
     have HT:=Aside0.mk hT
     clear hT
     generalize hkk : l0.length + 1 = kk at hadd
     clear hkk
     generalize M.add (1,2) tl = du at hI hadd
     obtain ⟨d1,d2⟩:=du
     have A3:=Aside0.mk hrd
     have HA:=Aside0.mk hadd
     have HG:=Aside0.mk hI
     clear hrd hadd htb a0 a1 c1 hI
     have hu23:=Try.underlying23
     have HP:=Aside0.mk hP
     clear hP
     by_cases he : er = 0
     ·subst he
      go_wp2_with (first | ((with_reducible refine gate_store (t:=3) (p:=116) rfl ?_);replace HB : Aside0 (Below w.heap.size w W203):=HB;refine store_event (t:=3) (p:=116) (v:=?vo3) (w1:=(World.setCells W203 gq 4 [.int .i64 x2])) ?hg ?ho ?hn ?hr ?_;(case ho => rfl);(case hg => rfl);(case hn => rfl);(case hr => go_simp;kernel_rfl);intro W204 hw;replace Kgr:=Aside0.mk (H.far_fill hw Ngr_gq.out Kgr.out);replace Kgf:=Aside0.mk (H.far_fill hw Ngf_gq.out Kgf.out);replace Kgv:=Aside0.mk (H.far_fill hw Ngv_gq.out Kgv.out);replace Kgq : Aside0 (W204.heap[gq]? = some (.cells #[.int .i64 x0,.int .i64 x1,.int .i64 0,.int .i64 0,.int .i64 x2,.int .i64 0,.int .i64 x4,.int .i64 x5,.int .i64 x6,.int .i64 x7] 45 (0,0))):=Aside0.mk (H.blk_fill hw Kgq.out (by kernel_rfl));replace HB : Aside0 (Below w.heap.size w W204):=Aside0.mk (H.below_fill hw Lgq.out HB.out);clear kgr fgr kgf fgf kgq fgq kv2 kv3;clear hw;have kgr:=blk_cell Kgr.out;have fgr:=blk_frozen Kgr.out;have kgf:=blk_cell Kgf.out;have fgf:=blk_frozen Kgf.out;have kgq:=blk_cell Kgq.out;have fgq:=blk_frozen Kgq.out;have kv2:=(blk_cell Kgv.out 2).trans E2.out;have kv3:=(blk_cell Kgv.out 3).trans E3.out) | ((with_reducible refine gate_store (t:=3) (p:=120) rfl ?_);replace HB : Aside0 (Below w.heap.size w W204):=HB;refine store_event (t:=3) (p:=120) (v:=?vo4) (w1:=(World.setCells W204 gq 5 [.int .i64 x3])) ?hg ?ho ?hn ?hr ?_;(case ho => rfl);(case hg => rfl);(case hn => rfl);(case hr => go_simp;kernel_rfl);intro W205 hw;replace Kgr:=Aside0.mk (H.far_fill hw Ngr_gq.out Kgr.out);replace Kgf:=Aside0.mk (H.far_fill hw Ngf_gq.out Kgf.out);replace Kgv:=Aside0.mk (H.far_fill hw Ngv_gq.out Kgv.out);replace Kgq : Aside0 (W205.heap[gq]? = some (.cells #[.int .i64 x0,.int .i64 x1,.int .i64 0,.int .i64 0,.int .i64 x2,.int .i64 x3,.int .i64 x4,.int .i64 x5,.int .i64 x6,.int .i64 x7] 45 (0,0))):=Aside0.mk (H.blk_fill hw Kgq.out (by kernel_rfl));replace HB : Aside0 (Below w.heap.size w W205):=Aside0.mk (H.below_fill hw Lgq.out HB.out);clear kgr fgr kgf fgf kgq fgq kv2 kv3;clear hw;have kgr:=blk_cell Kgr.out;have fgr:=blk_frozen Kgr.out;have kgf:=blk_cell Kgf.out;have fgf:=blk_frozen Kgf.out;have kgq:=blk_cell Kgq.out;have fgq:=blk_frozen Kgq.out;have kv2:=(blk_cell Kgv.out 2).trans E2.out;have kv3:=(blk_cell Kgv.out 3).trans E3.out) | ((with_reducible refine gate_dst (N:=121) rfl ?_);replace HB : Aside0 (Below w.heap.size w W205):=HB;refine H.get_event (t:=45) (x:=11) (N:=121) (i:=0) rfl rfl rfl [.int .i64 x0,.int .i64 x1,.int .i64 0,.int .i64 0,.int .i64 x2,.int .i64 x3,.int .i64 x4,.int .i64 x5,.int .i64 x6,.int .i64 x7] Kgq.out rfl (by kernel_rfl) Try.underlying45 rfl (by kernel_rfl) ?_) | (go_at_call 65;replace HB : Aside0 (Below w.heap.size w W205):=HB;(with_reducible refine (cR _).mono ?_);rintro e W206 ⟨rfl,hb⟩;replace Kgr:=Aside0.mk (blk_below Kgr.out hb);replace Kgf:=Aside0.mk (blk_below Kgf.out hb);replace Kgv:=Aside0.mk (blk_below Kgv.out hb);replace Kgq:=Aside0.mk (blk_below Kgq.out hb);replace HB : Aside0 (Below w.heap.size w W206):=Aside0.mk (below_step HB.out hb);clear kgr fgr kgf fgf kgq fgq kv2 kv3;clear hb;have kgr:=blk_cell Kgr.out;have fgr:=blk_frozen Kgr.out;have kgf:=blk_cell Kgf.out;have fgf:=blk_frozen Kgf.out;have kgq:=blk_cell Kgq.out;have fgq:=blk_frozen Kgq.out) | (go_at_call 36;replace HB : Aside0 (Below w.heap.size w W206):=HB;(with_reducible refine (reeveref02_Read.calls 40 _ _ l0 a s1 s2 m 0 _ ?u1 ?u2 A3.out).mono ?_);(case u1 => exact Kd.C_below HR0.out HB.out);(case u2 => exact HC0.out);rintro e W207 ⟨rfl,hb⟩;replace Kgr:=Aside0.mk (blk_below Kgr.out hb);replace Kgf:=Aside0.mk (blk_below Kgf.out hb);replace Kgv:=Aside0.mk (blk_below Kgv.out hb);replace Kgq:=Aside0.mk (blk_below Kgq.out hb);replace HB : Aside0 (Below w.heap.size w W207):=Aside0.mk (below_step HB.out hb);clear kgr fgr kgf fgf kgq fgq;clear hb;have kgr:=blk_cell Kgr.out;have fgr:=blk_frozen Kgr.out;have kgf:=blk_cell Kgf.out;have fgf:=blk_frozen Kgf.out;have kgq:=blk_cell Kgq.out;have fgq:=blk_frozen Kgq.out) | ((with_reducible refine gate_dst (N:=13) rfl ?_);replace HB : Aside0 (Below w.heap.size w W207):=HB;refine box_event ?hg (N:=13) ?hd (cs:=#[.int .i64 0,.int .i64 0]) (t:=23) ?hr ?_;(case hd => rfl);(case hg => rfl);(case hr => first | (go_simp;done) | (go_simp;rfl));intro gu hg W208 hbox hb;have Lgu : Aside0 (w.heap.size ≤ gu):=Aside0.mk (by rw [hg];exact below_size HB.out);have Ngr_gu : Aside0 (gr ≠ gu):=Aside0.mk (by rw [hg];exact Nat.ne_of_lt (blk_lt Kgr.out));have Ngu_gr : Aside0 (gu ≠ gr):=Aside0.mk (fun e => Ngr_gu.out e.symm);have Ngf_gu : Aside0 (gf ≠ gu):=Aside0.mk (by rw [hg];exact Nat.ne_of_lt (blk_lt Kgf.out));have Ngu_gf : Aside0 (gu ≠ gf):=Aside0.mk (fun e => Ngf_gu.out e.symm);have Ngv_gu : Aside0 (gv ≠ gu):=Aside0.mk (by rw [hg];exact Nat.ne_of_lt (blk_lt Kgv.out));have Ngu_gv : Aside0 (gu ≠ gv):=Aside0.mk (fun e => Ngv_gu.out e.symm);have Ngq_gu : Aside0 (gq ≠ gu):=Aside0.mk (by rw [hg];exact Nat.ne_of_lt (blk_lt Kgq.out));have Ngu_gq : Aside0 (gu ≠ gq):=Aside0.mk (fun e => Ngq_gu.out e.symm);replace Kgr:=Aside0.mk (blk_below Kgr.out hb);replace Kgf:=Aside0.mk (blk_below Kgf.out hb);replace Kgv:=Aside0.mk (blk_below Kgv.out hb);replace Kgq:=Aside0.mk (blk_below Kgq.out hb);replace HB : Aside0 (Below w.heap.size w W208):=Aside0.mk (below_step HB.out hb);clear kgr fgr kgf fgf kgq fgq;have Kgu : Aside0 (W208.heap[gu]? = some (.cells #[.int .i64 0,.int .i64 0] 23 (0,0))):=Aside0.mk hbox;clear hb hbox hg;have kgr:=blk_cell Kgr.out;have fgr:=blk_frozen Kgr.out;have kgf:=blk_cell Kgf.out;have fgf:=blk_frozen Kgf.out;have kgq:=blk_cell Kgq.out;have fgq:=blk_frozen Kgq.out;have kgu:=blk_cell Kgu.out;have fgu:=blk_frozen Kgu.out) | ((with_reducible refine gate_store (t:=23) (p:=13) rfl ?_);replace HB : Aside0 (Below w.heap.size w W208):=HB;refine H.put_event (t:=23) (p:=13) (i:=0) rfl rfl rfl [.int .i64 s1,.int .i64 s2] Kgu.out rfl rfl (by kernel_rfl) (by kernel_rfl) (by kernel_rfl) ?_;intro W209 hw;replace Kgr:=Aside0.mk (H.far_fill hw Ngr_gu.out Kgr.out);replace Kgf:=Aside0.mk (H.far_fill hw Ngf_gu.out Kgf.out);replace Kgv:=Aside0.mk (H.far_fill hw Ngv_gu.out Kgv.out);replace Kgq:=Aside0.mk (H.far_fill hw Ngq_gu.out Kgq.out);replace Kgu : Aside0 (W209.heap[gu]? = some (.cells #[.int .i64 s1,.int .i64 s2] 23 (0,0))):=Aside0.mk (H.blk_fill hw Kgu.out (by kernel_rfl));replace HB : Aside0 (Below w.heap.size w W209):=Aside0.mk (H.below_fill hw Lgu.out HB.out);clear kgr fgr kgf fgf kgq fgq kgu fgu;clear hw;have kgr:=blk_cell Kgr.out;have fgr:=blk_frozen Kgr.out;have kgf:=blk_cell Kgf.out;have fgf:=blk_frozen Kgf.out;have kgq:=blk_cell Kgq.out;have fgq:=blk_frozen Kgq.out;have kgu:=blk_cell Kgu.out;have fgu:=blk_frozen Kgu.out))
      replace Kgr:=Aside0.mk (blk_drew Kgr.out); 
      replace Kgf:=Aside0.mk (blk_drew Kgf.out); 
      replace Kgv:=Aside0.mk (blk_drew Kgv.out); 
      replace Kgq:=Aside0.mk (blk_drew Kgq.out); 
      replace Kgu:=Aside0.mk (blk_drew Kgu.out); 
      replace HB:=Aside0.mk (below_drew1 HB.out); 
      clear kgr fgr kgf fgf kgq fgq kgu fgu
      refine start_ (n:=11) (S:=fun w' => True) (ds:=[]) #[false,false,false,false,false,false,false,false,false,false,false] (by kernel_rfl) rfl rfl trivial (fun hHeld => ?_)
      refine with_tabW t66_27.tab t66_27.bits (fun HT_ HW_ => ?_)
      generalize W209.drew = W210 at Kgr Kgf Kgv Kgq Kgu HB ⊢
      refine pure_ (i:=1) (N:=some 143) (v:=?_) (a':=?_) #[false,true,false,false,false,false,false,false,false,false,false] rfl rfl (any_of HT_.out (by kernel_rfl)) (fun _ _ _ h => h) (Or.inl ⟨by rfl,?_⟩) ?_ ?_
      rotate_left
      ·intro w'
       go_simp
       with_reducible rfl
      rotate_left
      ·simp only [Act.put,zA,zB,zC,i64_w,i32_w]
       rfl
      refine pure_ (i:=2) (N:=some 144) (v:=?_) (a':=?_) #[false,true,true,false,false,false,false,false,false,false,false] rfl rfl (any_of HT_.out (by kernel_rfl)) (fun _ _ _ h => h) (Or.inl ⟨by rfl,?_⟩) ?_ ?_
      rotate_left
      ·intro w'
       go_simp
       with_reducible rfl
      rotate_left
      ·simp only [Act.put,zA,zB,zC,i64_w,i32_w]
       rfl
      refine pure_ (i:=3) (N:=some 145) (v:=?_) (a':=?_) #[false,true,true,true,false,false,false,false,false,false,false] rfl rfl (any_of HT_.out (by kernel_rfl)) (fun _ _ _ h => h) (Or.inl ⟨by rfl,?_⟩) ?_ ?_
      rotate_left
      ·intro w'
       go_simp
       with_reducible rfl
      rotate_left
      ·simp only [Act.put,zA,zB,zC,i64_w,i32_w]
       rfl
      refine join_ (σ:=Nat) 2 #[true,true,true,true,true,true,true,true,true,false,false] (fun gw => [(142,.agg #[.int .i64 1,.int .i64 2]),(146,.tuple #[.agg #[.int .i64 d1,.int .i64 d2],.int .i64 0]),(141,.tuple #[.agg #[.int .i64 d1,.int .i64 d2],.int .i64 0]),(147,.agg #[.int .i64 d1,.int .i64 d2]),(148,.int .i64 0),(16,.pointer (some ⟨gw,0,none⟩))]) (fun gw w' => Aside0 (w'.heap[gr]? = some (.cells #[.int .i64 0,.int .i64 0,.int .i64 0,.int .i64 0,.int .i64 0,.int .i64 0,.int .i64 0,.int .i64 0,.int .i64 0,.int .i64 0] 45 (0,0))) ∧ Aside0 (w'.heap[gf]? = some (.cells #[.int .i64 0,.int .i64 0] 50 (0,0))) ∧ Aside0 (w'.heap[gv]? = some (.cells cur 3 (0,0))) ∧ Aside0 (w'.heap[gq]? = some (.cells #[.int .i64 x0,.int .i64 x1,.int .i64 0,.int .i64 0,.int .i64 x2,.int .i64 x3,.int .i64 x4,.int .i64 x5,.int .i64 x6,.int .i64 x7] 45 (0,0))) ∧ Aside0 (w'.heap[gu]? = some (.cells #[.int .i64 s1,.int .i64 s2] 23 (0,0))) ∧ Aside0 (w'.heap[gw]? = some (.cells #[.int .i64 0,.int .i64 0] 23 (0,0))) ∧ Aside0 (Below w.heap.size w w') ∧ Aside0 (w.heap.size ≤ gw) ∧ Aside0 (gr ≠ gw) ∧ Aside0 (gf ≠ gw) ∧ Aside0 (gv ≠ gw) ∧ Aside0 (gq ≠ gw) ∧ Aside0 (gu ≠ gw) ∧ Aside0 (gw ≠ gr) ∧ Aside0 (gw ≠ gf) ∧ Aside0 (gw ≠ gv) ∧ Aside0 (gw ≠ gq) ∧ Aside0 (gw ≠ gu)) ?_ ?_
      rotate_left
      ·intro hCont
       refine two_ (i:=0) (j:=8) (Ni:=some 142) (Nj:=some 16) #[true,true,true,true,false,false,false,false,false,false,false] #[false,true,true,true,false,false,false,false,true,false,false] rfl rfl rfl rfl (two_of HT_.out (by kernel_rfl)) (by decide) (by decide) (fun K hK => ?_) (fun K hK => ?_)
       ·skip
        refine goes_ Try.func32 (by kernel_rfl) rfl #[] (by rfl) rfl rfl (by (try simp only [List.map_toArray,List.map_cons,List.map_nil]);first | done | rfl) ?_
        with_reducible refine (reeveref02_Start.calls 1 2 _ rfl).mono ?_
        rintro e W261 ⟨rfl,hb⟩
        refine ⟨_,rfl,?_⟩
        have ngr:=Aside0.mk (blk_below Kgr.out hb)
        have ngf:=Aside0.mk (blk_below Kgf.out hb)
        have ngv:=Aside0.mk (blk_below Kgv.out hb)
        have ngq:=Aside0.mk (blk_below Kgq.out hb)
        have ngu:=Aside0.mk (blk_below Kgu.out hb)
        have nB : Aside0 (Below w.heap.size w W261):=Aside0.mk (below_step HB.out hb)
        clear Kgr;have Kgr:=ngr;clear ngr
        clear Kgf;have Kgf:=ngf;clear ngf
        clear Kgv;have Kgv:=ngv;clear ngv
        clear Kgq;have Kgq:=ngq;clear ngq
        clear Kgu;have Kgu:=ngu;clear ngu
        clear HB;have HB:=nB;clear nB
        clear hb
        refine hK.out _ _ trivial (fun hHeld => ?_)
        clear hK K
        refine norm_ (a':=?_) ?_ ?_
        rotate_left
        ·show Act.put _ (some 142) _ = _
         simp only [Act.put,zA,zB,zC,i64_w,i32_w]
         rfl
        refine two_ (i:=4) (j:=8) (Ni:=some 146) (Nj:=some 16) #[true,true,true,true,true,false,false,false,false,false,false] #[true,true,true,true,false,false,false,false,true,false,false] rfl rfl rfl rfl (two_of HT_.out (by kernel_rfl)) (by decide) (by decide) (fun K hK => ?_) (fun K hK => ?_)
        ·skip
         refine goes_ Try.func25 (by kernel_rfl) rfl #[.agg #[.int .i64 1,.int .i64 2],.slice (some ad) tl.length c0] (by rfl) rfl rfl (by (try simp only [List.map_toArray,List.map_cons,List.map_nil]);first | done | rfl) ?_
         with_reducible refine (reeveref02_Add.calls kk 1 2 _ _ tl d1 d2 0 _ (by rw [← HT.out];exact take_C (Kd.C_below HR0.out HB.out) TL.out) (by have:=HC0.out;rw [← HT.out,List.length_take];omega) HA.out).mono ?_
         rintro e W262 ⟨rfl,hb⟩
         refine ⟨_,rfl,?_⟩
         have ngr:=Aside0.mk (blk_below Kgr.out hb)
         have ngf:=Aside0.mk (blk_below Kgf.out hb)
         have ngv:=Aside0.mk (blk_below Kgv.out hb)
         have ngq:=Aside0.mk (blk_below Kgq.out hb)
         have ngu:=Aside0.mk (blk_below Kgu.out hb)
         have nB : Aside0 (Below w.heap.size w W262):=Aside0.mk (below_step HB.out hb)
         clear Kgr;have Kgr:=ngr;clear ngr
         clear Kgf;have Kgf:=ngf;clear ngf
         clear Kgv;have Kgv:=ngv;clear ngv
         clear Kgq;have Kgq:=ngq;clear ngq
         clear Kgu;have Kgu:=ngu;clear ngu
         clear HB;have HB:=nB;clear nB
         clear hb
         refine hK.out _ _ trivial (fun hHeld => ?_)
         clear hK K
         refine norm_ (a':=?_) ?_ ?_
         rotate_left
         ·show Act.put _ (some 146) _ = _
          simp only [Act.put,zA,zB,zC,i64_w,i32_w]
          rfl
         refine pure_ (i:=5) (N:=some 141) (v:=?_) (a':=?_) #[true,true,true,true,true,true,false,false,false,false,false] rfl rfl (any_of HT_.out (by kernel_rfl)) (fun _ _ _ h => h) (Or.inl ⟨by rfl,?_⟩) ?_ ?_
         rotate_left
         ·intro w'
          go_simp
          with_reducible rfl
         rotate_left
         ·simp only [Act.put,zA,zB,zC,i64_w,i32_w]
          rfl
         refine pure_ (i:=6) (N:=some 147) (v:=?_) (a':=?_) #[true,true,true,true,true,true,true,false,false,false,false] rfl rfl (any_of HT_.out (by kernel_rfl)) (fun _ _ _ h => h) (Or.inl ⟨by rfl,?_⟩) ?_ ?_
         rotate_left
         ·intro w'
          go_simp
          with_reducible rfl
         rotate_left
         ·simp only [Act.put,zA,zB,zC,i64_w,i32_w]
          rfl
         refine pure_ (i:=7) (N:=some 148) (v:=?_) (a':=?_) #[true,true,true,true,true,true,true,true,false,false,false] rfl rfl (any_of HT_.out (by kernel_rfl)) (fun _ _ _ h => h) (Or.inl ⟨by rfl,?_⟩) ?_ ?_
         rotate_left
         ·intro w'
          go_simp
          with_reducible rfl
         rotate_left
         ·simp only [Act.put,zA,zB,zC,i64_w,i32_w]
          rfl
         refine one_ (i:=8) (N:=some 16) #[true,true,true,true,true,true,true,true,true,false,false] rfl rfl (one_of HT_.out (by kernel_rfl)) (by decide) (fun K hK => ?_)
         refine H.box_step (by rfl) rfl (cs:=#[.int .i64 0,.int .i64 0]) (t:=23) ?_ ?_
         ·first | (go_simp;done) | (go_simp;rfl)
         intro gw hg W263 hbox hb
         have Lgw : Aside0 (w.heap.size ≤ gw):=Aside0.mk (by rw [hg];exact below_size HB.out)
         have Ngr_gw : Aside0 (gr ≠ gw):=Aside0.mk (by rw [hg];exact Nat.ne_of_lt (blk_lt Kgr.out));have Ngw_gr : Aside0 (gw ≠ gr):=Aside0.mk (fun e => Ngr_gw.out e.symm)
         have Ngf_gw : Aside0 (gf ≠ gw):=Aside0.mk (by rw [hg];exact Nat.ne_of_lt (blk_lt Kgf.out));have Ngw_gf : Aside0 (gw ≠ gf):=Aside0.mk (fun e => Ngf_gw.out e.symm)
         have Ngv_gw : Aside0 (gv ≠ gw):=Aside0.mk (by rw [hg];exact Nat.ne_of_lt (blk_lt Kgv.out));have Ngw_gv : Aside0 (gw ≠ gv):=Aside0.mk (fun e => Ngv_gw.out e.symm)
         have Ngq_gw : Aside0 (gq ≠ gw):=Aside0.mk (by rw [hg];exact Nat.ne_of_lt (blk_lt Kgq.out));have Ngw_gq : Aside0 (gw ≠ gq):=Aside0.mk (fun e => Ngq_gw.out e.symm)
         have Ngu_gw : Aside0 (gu ≠ gw):=Aside0.mk (by rw [hg];exact Nat.ne_of_lt (blk_lt Kgu.out));have Ngw_gu : Aside0 (gw ≠ gu):=Aside0.mk (fun e => Ngu_gw.out e.symm)
         have ngr:=Aside0.mk (blk_below Kgr.out hb)
         have ngf:=Aside0.mk (blk_below Kgf.out hb)
         have ngv:=Aside0.mk (blk_below Kgv.out hb)
         have ngq:=Aside0.mk (blk_below Kgq.out hb)
         have ngu:=Aside0.mk (blk_below Kgu.out hb)
         have nB : Aside0 (Below w.heap.size w W263):=Aside0.mk (below_step HB.out hb)
         clear Kgr;have Kgr:=ngr;clear ngr
         clear Kgf;have Kgf:=ngf;clear ngf
         clear Kgv;have Kgv:=ngv;clear ngv
         clear Kgq;have Kgq:=ngq;clear ngq
         clear Kgu;have Kgu:=ngu;clear ngu
         clear HB;have HB:=nB;clear nB
         have Kgw : Aside0 (W263.heap[gw]? = some (.cells #[.int .i64 0,.int .i64 0] 23 (0,0))):=Aside0.mk hbox
         clear hb hbox hg
         refine hK.out _ _ trivial (fun hHeld => ?_)
         clear hK K
         refine norm_ (a':=?_) ?_ ?_
         rotate_left
         ·show Act.put _ (some 16) _ = _
          simp only [Act.put,zA,zB,zC,i64_w,i32_w]
          rfl
         exact norm_ (by simp only [putAll,Act.put,List.setIfInBounds_toArray,List.set_cons_zero,List.set_cons_succ]) (hCont gw _ ⟨Kgr,Kgf,Kgv,Kgq,Kgu,Kgw,HB,Lgw,Ngr_gw,Ngf_gw,Ngv_gw,Ngq_gw,Ngu_gw,Ngw_gr,Ngw_gf,Ngw_gv,Ngw_gq,Ngw_gu⟩)
        ·skip
         refine H.box_step (by rfl) rfl (cs:=#[.int .i64 0,.int .i64 0]) (t:=23) ?_ ?_
         ·first | (go_simp;done) | (go_simp;rfl)
         intro gw hg W264 hbox hb
         have Lgw : Aside0 (w.heap.size ≤ gw):=Aside0.mk (by rw [hg];exact below_size HB.out)
         have Ngr_gw : Aside0 (gr ≠ gw):=Aside0.mk (by rw [hg];exact Nat.ne_of_lt (blk_lt Kgr.out));have Ngw_gr : Aside0 (gw ≠ gr):=Aside0.mk (fun e => Ngr_gw.out e.symm)
         have Ngf_gw : Aside0 (gf ≠ gw):=Aside0.mk (by rw [hg];exact Nat.ne_of_lt (blk_lt Kgf.out));have Ngw_gf : Aside0 (gw ≠ gf):=Aside0.mk (fun e => Ngf_gw.out e.symm)
         have Ngv_gw : Aside0 (gv ≠ gw):=Aside0.mk (by rw [hg];exact Nat.ne_of_lt (blk_lt Kgv.out));have Ngw_gv : Aside0 (gw ≠ gv):=Aside0.mk (fun e => Ngv_gw.out e.symm)
         have Ngq_gw : Aside0 (gq ≠ gw):=Aside0.mk (by rw [hg];exact Nat.ne_of_lt (blk_lt Kgq.out));have Ngw_gq : Aside0 (gw ≠ gq):=Aside0.mk (fun e => Ngq_gw.out e.symm)
         have Ngu_gw : Aside0 (gu ≠ gw):=Aside0.mk (by rw [hg];exact Nat.ne_of_lt (blk_lt Kgu.out));have Ngw_gu : Aside0 (gw ≠ gu):=Aside0.mk (fun e => Ngu_gw.out e.symm)
         have ngr:=Aside0.mk (blk_below Kgr.out hb)
         have ngf:=Aside0.mk (blk_below Kgf.out hb)
         have ngv:=Aside0.mk (blk_below Kgv.out hb)
         have ngq:=Aside0.mk (blk_below Kgq.out hb)
         have ngu:=Aside0.mk (blk_below Kgu.out hb)
         have nB : Aside0 (Below w.heap.size w W264):=Aside0.mk (below_step HB.out hb)
         clear Kgr;have Kgr:=ngr;clear ngr
         clear Kgf;have Kgf:=ngf;clear ngf
         clear Kgv;have Kgv:=ngv;clear ngv
         clear Kgq;have Kgq:=ngq;clear ngq
         clear Kgu;have Kgu:=ngu;clear ngu
         clear HB;have HB:=nB;clear nB
         have Kgw : Aside0 (W264.heap[gw]? = some (.cells #[.int .i64 0,.int .i64 0] 23 (0,0))):=Aside0.mk hbox
         clear hb hbox hg
         refine hK.out _ _ trivial (fun hHeld => ?_)
         clear hK K
         refine norm_ (a':=?_) ?_ ?_
         rotate_left
         ·show Act.put _ (some 16) _ = _
          simp only [Act.put,zA,zB,zC,i64_w,i32_w]
          rfl
         refine one_ (i:=4) (N:=some 146) #[true,true,true,true,true,false,false,false,true,false,false] rfl rfl (one_of HT_.out (by kernel_rfl)) (by decide) (fun K hK => ?_)
         refine goes_ Try.func25 (by kernel_rfl) rfl #[.agg #[.int .i64 1,.int .i64 2],.slice (some ad) tl.length c0] (by rfl) rfl rfl (by (try simp only [List.map_toArray,List.map_cons,List.map_nil]);first | done | rfl) ?_
         with_reducible refine (reeveref02_Add.calls kk 1 2 _ _ tl d1 d2 0 _ (by rw [← HT.out];exact take_C (Kd.C_below HR0.out HB.out) TL.out) (by have:=HC0.out;rw [← HT.out,List.length_take];omega) HA.out).mono ?_
         rintro e W265 ⟨rfl,hb⟩
         refine ⟨_,rfl,?_⟩
         have ngr:=Aside0.mk (blk_below Kgr.out hb)
         have ngf:=Aside0.mk (blk_below Kgf.out hb)
         have ngv:=Aside0.mk (blk_below Kgv.out hb)
         have ngq:=Aside0.mk (blk_below Kgq.out hb)
         have ngu:=Aside0.mk (blk_below Kgu.out hb)
         have ngw:=Aside0.mk (blk_below Kgw.out hb)
         have nB : Aside0 (Below w.heap.size w W265):=Aside0.mk (below_step HB.out hb)
         clear Kgr;have Kgr:=ngr;clear ngr
         clear Kgf;have Kgf:=ngf;clear ngf
         clear Kgv;have Kgv:=ngv;clear ngv
         clear Kgq;have Kgq:=ngq;clear ngq
         clear Kgu;have Kgu:=ngu;clear ngu
         clear Kgw;have Kgw:=ngw;clear ngw
         clear HB;have HB:=nB;clear nB
         clear hb
         refine hK.out _ _ trivial (fun hHeld => ?_)
         clear hK K
         refine norm_ (a':=?_) ?_ ?_
         rotate_left
         ·show Act.put _ (some 146) _ = _
          simp only [Act.put,zA,zB,zC,i64_w,i32_w]
          rfl
         refine pure_ (i:=5) (N:=some 141) (v:=?_) (a':=?_) #[true,true,true,true,true,true,false,false,true,false,false] rfl rfl (any_of HT_.out (by kernel_rfl)) (fun _ _ _ h => h) (Or.inl ⟨by rfl,?_⟩) ?_ ?_
         rotate_left
         ·intro w'
          go_simp
          with_reducible rfl
         rotate_left
         ·simp only [Act.put,zA,zB,zC,i64_w,i32_w]
          rfl
         refine pure_ (i:=6) (N:=some 147) (v:=?_) (a':=?_) #[true,true,true,true,true,true,true,false,true,false,false] rfl rfl (any_of HT_.out (by kernel_rfl)) (fun _ _ _ h => h) (Or.inl ⟨by rfl,?_⟩) ?_ ?_
         rotate_left
         ·intro w'
          go_simp
          with_reducible rfl
         rotate_left
         ·simp only [Act.put,zA,zB,zC,i64_w,i32_w]
          rfl
         refine pure_ (i:=7) (N:=some 148) (v:=?_) (a':=?_) #[true,true,true,true,true,true,true,true,true,false,false] rfl rfl (any_of HT_.out (by kernel_rfl)) (fun _ _ _ h => h) (Or.inl ⟨by rfl,?_⟩) ?_ ?_
         rotate_left
         ·intro w'
          go_simp
          with_reducible rfl
         rotate_left
         ·simp only [Act.put,zA,zB,zC,i64_w,i32_w]
          rfl
         exact norm_ (by simp only [putAll,Act.put,List.setIfInBounds_toArray,List.set_cons_zero,List.set_cons_succ]) (hCont gw _ ⟨Kgr,Kgf,Kgv,Kgq,Kgu,Kgw,HB,Lgw,Ngr_gw,Ngf_gw,Ngv_gw,Ngq_gw,Ngu_gw,Ngw_gr,Ngw_gf,Ngw_gv,Ngw_gq,Ngw_gu⟩)
       ·skip
        refine H.box_step (by rfl) rfl (cs:=#[.int .i64 0,.int .i64 0]) (t:=23) ?_ ?_
        ·first | (go_simp;done) | (go_simp;rfl)
        intro gw hg W266 hbox hb
        have Lgw : Aside0 (w.heap.size ≤ gw):=Aside0.mk (by rw [hg];exact below_size HB.out)
        have Ngr_gw : Aside0 (gr ≠ gw):=Aside0.mk (by rw [hg];exact Nat.ne_of_lt (blk_lt Kgr.out));have Ngw_gr : Aside0 (gw ≠ gr):=Aside0.mk (fun e => Ngr_gw.out e.symm)
        have Ngf_gw : Aside0 (gf ≠ gw):=Aside0.mk (by rw [hg];exact Nat.ne_of_lt (blk_lt Kgf.out));have Ngw_gf : Aside0 (gw ≠ gf):=Aside0.mk (fun e => Ngf_gw.out e.symm)
        have Ngv_gw : Aside0 (gv ≠ gw):=Aside0.mk (by rw [hg];exact Nat.ne_of_lt (blk_lt Kgv.out));have Ngw_gv : Aside0 (gw ≠ gv):=Aside0.mk (fun e => Ngv_gw.out e.symm)
        have Ngq_gw : Aside0 (gq ≠ gw):=Aside0.mk (by rw [hg];exact Nat.ne_of_lt (blk_lt Kgq.out));have Ngw_gq : Aside0 (gw ≠ gq):=Aside0.mk (fun e => Ngq_gw.out e.symm)
        have Ngu_gw : Aside0 (gu ≠ gw):=Aside0.mk (by rw [hg];exact Nat.ne_of_lt (blk_lt Kgu.out));have Ngw_gu : Aside0 (gw ≠ gu):=Aside0.mk (fun e => Ngu_gw.out e.symm)
        have ngr:=Aside0.mk (blk_below Kgr.out hb)
        have ngf:=Aside0.mk (blk_below Kgf.out hb)
        have ngv:=Aside0.mk (blk_below Kgv.out hb)
        have ngq:=Aside0.mk (blk_below Kgq.out hb)
        have ngu:=Aside0.mk (blk_below Kgu.out hb)
        have nB : Aside0 (Below w.heap.size w W266):=Aside0.mk (below_step HB.out hb)
        clear Kgr;have Kgr:=ngr;clear ngr
        clear Kgf;have Kgf:=ngf;clear ngf
        clear Kgv;have Kgv:=ngv;clear ngv
        clear Kgq;have Kgq:=ngq;clear ngq
        clear Kgu;have Kgu:=ngu;clear ngu
        clear HB;have HB:=nB;clear nB
        have Kgw : Aside0 (W266.heap[gw]? = some (.cells #[.int .i64 0,.int .i64 0] 23 (0,0))):=Aside0.mk hbox
        clear hb hbox hg
        refine hK.out _ _ trivial (fun hHeld => ?_)
        clear hK K
        refine norm_ (a':=?_) ?_ ?_
        rotate_left
        ·show Act.put _ (some 16) _ = _
         simp only [Act.put,zA,zB,zC,i64_w,i32_w]
         rfl
        refine one_ (i:=0) (N:=some 142) #[true,true,true,true,false,false,false,false,true,false,false] rfl rfl (one_of HT_.out (by kernel_rfl)) (by decide) (fun K hK => ?_)
        refine goes_ Try.func32 (by kernel_rfl) rfl #[] (by rfl) rfl rfl (by (try simp only [List.map_toArray,List.map_cons,List.map_nil]);first | done | rfl) ?_
        with_reducible refine (reeveref02_Start.calls 1 2 _ rfl).mono ?_
        rintro e W267 ⟨rfl,hb⟩
        refine ⟨_,rfl,?_⟩
        have ngr:=Aside0.mk (blk_below Kgr.out hb)
        have ngf:=Aside0.mk (blk_below Kgf.out hb)
        have ngv:=Aside0.mk (blk_below Kgv.out hb)
        have ngq:=Aside0.mk (blk_below Kgq.out hb)
        have ngu:=Aside0.mk (blk_below Kgu.out hb)
        have ngw:=Aside0.mk (blk_below Kgw.out hb)
        have nB : Aside0 (Below w.heap.size w W267):=Aside0.mk (below_step HB.out hb)
        clear Kgr;have Kgr:=ngr;clear ngr
        clear Kgf;have Kgf:=ngf;clear ngf
        clear Kgv;have Kgv:=ngv;clear ngv
        clear Kgq;have Kgq:=ngq;clear ngq
        clear Kgu;have Kgu:=ngu;clear ngu
        clear Kgw;have Kgw:=ngw;clear ngw
        clear HB;have HB:=nB;clear nB
        clear hb
        refine hK.out _ _ trivial (fun hHeld => ?_)
        clear hK K
        refine norm_ (a':=?_) ?_ ?_
        rotate_left
        ·show Act.put _ (some 142) _ = _
         simp only [Act.put,zA,zB,zC,i64_w,i32_w]
         rfl
        refine one_ (i:=4) (N:=some 146) #[true,true,true,true,true,false,false,false,true,false,false] rfl rfl (one_of HT_.out (by kernel_rfl)) (by decide) (fun K hK => ?_)
        refine goes_ Try.func25 (by kernel_rfl) rfl #[.agg #[.int .i64 1,.int .i64 2],.slice (some ad) tl.length c0] (by rfl) rfl rfl (by (try simp only [List.map_toArray,List.map_cons,List.map_nil]);first | done | rfl) ?_
        with_reducible refine (reeveref02_Add.calls kk 1 2 _ _ tl d1 d2 0 _ (by rw [← HT.out];exact take_C (Kd.C_below HR0.out HB.out) TL.out) (by have:=HC0.out;rw [← HT.out,List.length_take];omega) HA.out).mono ?_
        rintro e W268 ⟨rfl,hb⟩
        refine ⟨_,rfl,?_⟩
        have ngr:=Aside0.mk (blk_below Kgr.out hb)
        have ngf:=Aside0.mk (blk_below Kgf.out hb)
        have ngv:=Aside0.mk (blk_below Kgv.out hb)
        have ngq:=Aside0.mk (blk_below Kgq.out hb)
        have ngu:=Aside0.mk (blk_below Kgu.out hb)
        have ngw:=Aside0.mk (blk_below Kgw.out hb)
        have nB : Aside0 (Below w.heap.size w W268):=Aside0.mk (below_step HB.out hb)
        clear Kgr;have Kgr:=ngr;clear ngr
        clear Kgf;have Kgf:=ngf;clear ngf
        clear Kgv;have Kgv:=ngv;clear ngv
        clear Kgq;have Kgq:=ngq;clear ngq
        clear Kgu;have Kgu:=ngu;clear ngu
        clear Kgw;have Kgw:=ngw;clear ngw
        clear HB;have HB:=nB;clear nB
        clear hb
        refine hK.out _ _ trivial (fun hHeld => ?_)
        clear hK K
        refine norm_ (a':=?_) ?_ ?_
        rotate_left
        ·show Act.put _ (some 146) _ = _
         simp only [Act.put,zA,zB,zC,i64_w,i32_w]
         rfl
        refine pure_ (i:=5) (N:=some 141) (v:=?_) (a':=?_) #[true,true,true,true,true,true,false,false,true,false,false] rfl rfl (any_of HT_.out (by kernel_rfl)) (fun _ _ _ h => h) (Or.inl ⟨by rfl,?_⟩) ?_ ?_
        rotate_left
        ·intro w'
         go_simp
         with_reducible rfl
        rotate_left
        ·simp only [Act.put,zA,zB,zC,i64_w,i32_w]
         rfl
        refine pure_ (i:=6) (N:=some 147) (v:=?_) (a':=?_) #[true,true,true,true,true,true,true,false,true,false,false] rfl rfl (any_of HT_.out (by kernel_rfl)) (fun _ _ _ h => h) (Or.inl ⟨by rfl,?_⟩) ?_ ?_
        rotate_left
        ·intro w'
         go_simp
         with_reducible rfl
        rotate_left
        ·simp only [Act.put,zA,zB,zC,i64_w,i32_w]
         rfl
        refine pure_ (i:=7) (N:=some 148) (v:=?_) (a':=?_) #[true,true,true,true,true,true,true,true,true,false,false] rfl rfl (any_of HT_.out (by kernel_rfl)) (fun _ _ _ h => h) (Or.inl ⟨by rfl,?_⟩) ?_ ?_
        rotate_left
        ·intro w'
         go_simp
         with_reducible rfl
        rotate_left
        ·simp only [Act.put,zA,zB,zC,i64_w,i32_w]
         rfl
        exact norm_ (by simp only [putAll,Act.put,List.setIfInBounds_toArray,List.set_cons_zero,List.set_cons_succ]) (hCont gw _ ⟨Kgr,Kgf,Kgv,Kgq,Kgu,Kgw,HB,Lgw,Ngr_gw,Ngf_gw,Ngv_gw,Ngq_gw,Ngu_gw,Ngw_gr,Ngw_gf,Ngw_gv,Ngw_gq,Ngw_gu⟩)
      clear HB Kgr Kgf Kgv Kgq Kgu
      rintro gw W260 ⟨Kgr,Kgf,Kgv,Kgq,Kgu,Kgw,HB,Lgw,Ngr_gw,Ngf_gw,Ngv_gw,Ngq_gw,Ngu_gw,Ngw_gr,Ngw_gf,Ngw_gv,Ngw_gq,Ngw_gu⟩
      have hHeld : True:=trivial
      refine norm_ (a':=?_) ?_ ?_
      rotate_left
      ·simp only [putAll,Act.put,List.setIfInBounds_toArray,List.set_cons_zero,List.set_cons_succ]
       rfl
      refine one_ (i:=9) (N:=none) #[true,true,true,true,true,true,true,true,true,true,false] rfl rfl (one_of HT_.out (by kernel_rfl)) (by decide) (fun K hK => ?_)
      refine H.put_step (by rfl) rfl rfl (i:=0) [.int .i64 d1,.int .i64 d2] Kgw.out rfl rfl (by kernel_rfl) (by kernel_rfl) (by kernel_rfl) ?_
      intro W301 hw
      have ngr:=Aside0.mk (H.far_fill hw Ngr_gw.out Kgr.out)
      have ngf:=Aside0.mk (H.far_fill hw Ngf_gw.out Kgf.out)
      have ngv:=Aside0.mk (H.far_fill hw Ngv_gw.out Kgv.out)
      have ngq:=Aside0.mk (H.far_fill hw Ngq_gw.out Kgq.out)
      have ngu:=Aside0.mk (H.far_fill hw Ngu_gw.out Kgu.out)
      have ngw : Aside0 (W301.heap[gw]? = some (.cells #[.int .i64 d1,.int .i64 d2] 23 (0,0))):=Aside0.mk (H.blk_fill hw Kgw.out (by kernel_rfl))
      have nB : Aside0 (Below w.heap.size w W301):=Aside0.mk (H.below_fill hw Lgw.out HB.out)
      clear Kgr;have Kgr:=ngr;clear ngr
      clear Kgf;have Kgf:=ngf;clear ngf
      clear Kgv;have Kgv:=ngv;clear ngv
      clear Kgq;have Kgq:=ngq;clear ngq
      clear Kgu;have Kgu:=ngu;clear ngu
      clear Kgw;have Kgw:=ngw;clear ngw
      clear HB;have HB:=nB;clear nB
      clear hw
      have kgr:=blk_cell Kgr.out;have fgr:=blk_frozen Kgr.out
      have kgf:=blk_cell Kgf.out;have fgf:=blk_frozen Kgf.out
      have kgq:=blk_cell Kgq.out;have fgq:=blk_frozen Kgq.out
      have kgu:=blk_cell Kgu.out;have fgu:=blk_frozen Kgu.out
      have kgw:=blk_cell Kgw.out;have fgw:=blk_frozen Kgw.out
      refine hK.out _ _ trivial (fun hHeld => ?_)
      clear hK K
      refine pure_ (i:=10) (N:=some 17) (v:=?_) (a':=?_) #[true,true,true,true,true,true,true,true,true,true,true] rfl rfl (any_of HT_.out (by kernel_rfl)) (fun _ _ _ h => h) (Or.inl ⟨by rfl,?_⟩) ?_ ?_
      rotate_left
      ·intro w'
       go_simp
       with_reducible rfl
      rotate_left
      ·simp only [Act.put,zA,zB,zC,i64_w,i32_w]
       rfl
      refine done_ (done_of HT_.out (by kernel_rfl)) ?_
      have hI:=HG.out
      first | rw [if_pos rfl] at hI | rw [if_pos trivial] at hI
      clear HG
      by_cases q1 : s1 = d1
      ·subst q1
       by_cases q2 : s2 = d2
       ·subst q2
        rw [if_pos rfl] at hI
        have HQ:=Aside0.mk hI
        clear hI
        go_wp2_with (first | ((with_reducible refine gate_dst (N:=155) rfl ?_);replace HB : Aside0 (Below w.heap.size w W301):=HB;refine H.get_event (t:=45) (x:=11) (N:=155) (i:=0) rfl rfl rfl [.int .i64 x0,.int .i64 x1,.int .i64 0,.int .i64 0,.int .i64 x2,.int .i64 x3,.int .i64 x4,.int .i64 x5,.int .i64 x6,.int .i64 x7] Kgq.out rfl (by kernel_rfl) Try.underlying45 rfl (by kernel_rfl) ?_) | ((with_reducible refine gate_store (t:=45) (p:=2) rfl ?_);replace HB : Aside0 (Below w.heap.size w W301):=HB;refine H.put_event (t:=45) (p:=2) (i:=0) rfl rfl rfl [.int .i64 x0,.int .i64 x1,.int .i64 0,.int .i64 0,.int .i64 x2,.int .i64 x3,.int .i64 x4,.int .i64 x5,.int .i64 x6,.int .i64 x7] Kgr.out rfl rfl (by kernel_rfl) (by kernel_rfl) (by kernel_rfl) ?_;intro W302 hw;replace Kgr : Aside0 (W302.heap[gr]? = some (.cells #[.int .i64 x0,.int .i64 x1,.int .i64 0,.int .i64 0,.int .i64 x2,.int .i64 x3,.int .i64 x4,.int .i64 x5,.int .i64 x6,.int .i64 x7] 45 (0,0))):=Aside0.mk (H.blk_fill hw Kgr.out (by kernel_rfl));replace Kgf:=Aside0.mk (H.far_fill hw Ngf_gr.out Kgf.out);replace Kgv:=Aside0.mk (H.far_fill hw Ngv_gr.out Kgv.out);replace Kgq:=Aside0.mk (H.far_fill hw Ngq_gr.out Kgq.out);replace Kgu:=Aside0.mk (H.far_fill hw Ngu_gr.out Kgu.out);replace Kgw:=Aside0.mk (H.far_fill hw Ngw_gr.out Kgw.out);replace HB : Aside0 (Below w.heap.size w W302):=Aside0.mk (H.below_fill hw Lgr.out HB.out);clear kgr fgr kgf fgf kgq fgq kgu fgu kgw fgw;clear hw;have kgr:=blk_cell Kgr.out;have fgr:=blk_frozen Kgr.out;have kgf:=blk_cell Kgf.out;have fgf:=blk_frozen Kgf.out;have kgq:=blk_cell Kgq.out;have fgq:=blk_frozen Kgq.out;have kgu:=blk_cell Kgu.out;have fgu:=blk_frozen Kgu.out;have kgw:=blk_cell Kgw.out;have fgw:=blk_frozen Kgw.out) | ((with_reducible refine gate_store (t:=50) (p:=4) rfl ?_);replace HB : Aside0 (Below w.heap.size w W302):=HB;refine H.put_event (t:=50) (p:=4) (i:=0) rfl rfl rfl [.int .i64 0,.int .i64 0] Kgf.out rfl rfl (by kernel_rfl) (by kernel_rfl) (by kernel_rfl) ?_;intro W303 hw;replace Kgr:=Aside0.mk (H.far_fill hw Ngr_gf.out Kgr.out);replace Kgf : Aside0 (W303.heap[gf]? = some (.cells #[.int .i64 0,.int .i64 0] 50 (0,0))):=Aside0.mk (H.blk_fill hw Kgf.out (by kernel_rfl));replace Kgv:=Aside0.mk (H.far_fill hw Ngv_gf.out Kgv.out);replace Kgq:=Aside0.mk (H.far_fill hw Ngq_gf.out Kgq.out);replace Kgu:=Aside0.mk (H.far_fill hw Ngu_gf.out Kgu.out);replace Kgw:=Aside0.mk (H.far_fill hw Ngw_gf.out Kgw.out);replace HB : Aside0 (Below w.heap.size w W303):=Aside0.mk (H.below_fill hw Lgf.out HB.out);clear kgr fgr kgf fgf kgq fgq kgu fgu kgw fgw;clear hw;have kgr:=blk_cell Kgr.out;have fgr:=blk_frozen Kgr.out;have kgf:=blk_cell Kgf.out;have fgf:=blk_frozen Kgf.out;have kgq:=blk_cell Kgq.out;have fgq:=blk_frozen Kgq.out;have kgu:=blk_cell Kgu.out;have fgu:=blk_frozen Kgu.out;have kgw:=blk_cell Kgw.out;have fgw:=blk_frozen Kgw.out))
        rw [← HQ.out]
        have hP:=HP.out
        subst hP
        refine bodyPost_ret (results_ctc rfl _ _ gr gf 45 50 #[.int .i64 x0,.int .i64 x1,.int .i64 0,.int .i64 0,.int .i64 x2,.int .i64 x3,.int .i64 x4,.int .i64 x5,.int .i64 x6,.int .i64 x7] #[.int .i64 0,.int .i64 0] (0,0) (0,0) _ _ rfl Kgr.out Try.underlying45 rfl (by kernel_rfl) rfl Kgf.out Try.underlying50 rfl (by kernel_rfl)) rfl ?_
        exact ⟨rfl,HB.out⟩
       ·rw [if_neg (fun h => q2 (by injection h))] at hI
        have HQ:=Aside0.mk hI
        clear hI
        go_wp2_with (first | ((with_reducible refine gate_store (t:=45) (p:=2) rfl ?_);replace HB : Aside0 (Below w.heap.size w W301):=HB;refine H.put_event (t:=45) (p:=2) (i:=0) rfl rfl rfl [.int .i64 0,.int .i64 0,.int .i64 0,.int .i64 0,.int .i64 0,.int .i64 0,.int .i64 0,.int .i64 0,.int .i64 0,.int .i64 0] Kgr.out rfl rfl (by kernel_rfl) (by kernel_rfl) (by kernel_rfl) ?_;intro W302 hw;replace Kgr : Aside0 (W302.heap[gr]? = some (.cells #[.int .i64 0,.int .i64 0,.int .i64 0,.int .i64 0,.int .i64 0,.int .i64 0,.int .i64 0,.int .i64 0,.int .i64 0,.int .i64 0] 45 (0,0))):=Aside0.mk (H.blk_fill hw Kgr.out (by kernel_rfl));replace Kgf:=Aside0.mk (H.far_fill hw Ngf_gr.out Kgf.out);replace Kgv:=Aside0.mk (H.far_fill hw Ngv_gr.out Kgv.out);replace Kgq:=Aside0.mk (H.far_fill hw Ngq_gr.out Kgq.out);replace Kgu:=Aside0.mk (H.far_fill hw Ngu_gr.out Kgu.out);replace Kgw:=Aside0.mk (H.far_fill hw Ngw_gr.out Kgw.out);replace HB : Aside0 (Below w.heap.size w W302):=Aside0.mk (H.below_fill hw Lgr.out HB.out);clear kgr fgr kgf fgf kgq fgq kgu fgu kgw fgw;clear hw;have kgr:=blk_cell Kgr.out;have fgr:=blk_frozen Kgr.out;have kgf:=blk_cell Kgf.out;have fgf:=blk_frozen Kgf.out;have kgq:=blk_cell Kgq.out;have fgq:=blk_frozen Kgq.out;have kgu:=blk_cell Kgu.out;have fgu:=blk_frozen Kgu.out;have kgw:=blk_cell Kgw.out;have fgw:=blk_frozen Kgw.out) | ((with_reducible refine gate_store (t:=50) (p:=4) rfl ?_);replace HB : Aside0 (Below w.heap.size w W302):=HB;refine H.put_event (t:=50) (p:=4) (i:=0) rfl rfl rfl [.int .i64 41,.int .i64 a] Kgf.out rfl rfl (by kernel_rfl) (by kernel_rfl) (by kernel_rfl) ?_;intro W303 hw;replace Kgr:=Aside0.mk (H.far_fill hw Ngr_gf.out Kgr.out);replace Kgf : Aside0 (W303.heap[gf]? = some (.cells #[.int .i64 41,.int .i64 a] 50 (0,0))):=Aside0.mk (H.blk_fill hw Kgf.out (by kernel_rfl));replace Kgv:=Aside0.mk (H.far_fill hw Ngv_gf.out Kgv.out);replace Kgq:=Aside0.mk (H.far_fill hw Ngq_gf.out Kgq.out);replace Kgu:=Aside0.mk (H.far_fill hw Ngu_gf.out Kgu.out);replace Kgw:=Aside0.mk (H.far_fill hw Ngw_gf.out Kgw.out);replace HB : Aside0 (Below w.heap.size w W303):=Aside0.mk (H.below_fill hw Lgf.out HB.out);clear kgr fgr kgf fgf kgq fgq kgu fgu kgw fgw;clear hw;have kgr:=blk_cell Kgr.out;have fgr:=blk_frozen Kgr.out;have kgf:=blk_cell Kgf.out;have fgf:=blk_frozen Kgf.out;have kgq:=blk_cell Kgq.out;have fgq:=blk_frozen Kgq.out;have kgu:=blk_cell Kgu.out;have fgu:=blk_frozen Kgu.out;have kgw:=blk_cell Kgw.out;have fgw:=blk_frozen Kgw.out))
        rw [← HQ.out]
        refine bodyPost_ret (results_ctc rfl _ _ gr gf 45 50 #[.int .i64 0,.int .i64 0,.int .i64 0,.int .i64 0,.int .i64 0,.int .i64 0,.int .i64 0,.int .i64 0,.int .i64 0,.int .i64 0] #[.int .i64 41,.int .i64 a] (0,0) (0,0) _ _ rfl Kgr.out Try.underlying45 rfl (by kernel_rfl) rfl Kgf.out Try.underlying50 rfl (by kernel_rfl)) rfl ?_
        exact ⟨rfl,HB.out⟩
      ·rw [if_neg (fun h => q1 (by injection h))] at hI
       have HQ:=Aside0.mk hI
       clear hI
       go_wp2_with (first | ((with_reducible refine gate_store (t:=45) (p:=2) rfl ?_);replace HB : Aside0 (Below w.heap.size w W301):=HB;refine H.put_event (t:=45) (p:=2) (i:=0) rfl rfl rfl [.int .i64 0,.int .i64 0,.int .i64 0,.int .i64 0,.int .i64 0,.int .i64 0,.int .i64 0,.int .i64 0,.int .i64 0,.int .i64 0] Kgr.out rfl rfl (by kernel_rfl) (by kernel_rfl) (by kernel_rfl) ?_;intro W302 hw;replace Kgr : Aside0 (W302.heap[gr]? = some (.cells #[.int .i64 0,.int .i64 0,.int .i64 0,.int .i64 0,.int .i64 0,.int .i64 0,.int .i64 0,.int .i64 0,.int .i64 0,.int .i64 0] 45 (0,0))):=Aside0.mk (H.blk_fill hw Kgr.out (by kernel_rfl));replace Kgf:=Aside0.mk (H.far_fill hw Ngf_gr.out Kgf.out);replace Kgv:=Aside0.mk (H.far_fill hw Ngv_gr.out Kgv.out);replace Kgq:=Aside0.mk (H.far_fill hw Ngq_gr.out Kgq.out);replace Kgu:=Aside0.mk (H.far_fill hw Ngu_gr.out Kgu.out);replace Kgw:=Aside0.mk (H.far_fill hw Ngw_gr.out Kgw.out);replace HB : Aside0 (Below w.heap.size w W302):=Aside0.mk (H.below_fill hw Lgr.out HB.out);clear kgr fgr kgf fgf kgq fgq kgu fgu kgw fgw;clear hw;have kgr:=blk_cell Kgr.out;have fgr:=blk_frozen Kgr.out;have kgf:=blk_cell Kgf.out;have fgf:=blk_frozen Kgf.out;have kgq:=blk_cell Kgq.out;have fgq:=blk_frozen Kgq.out;have kgu:=blk_cell Kgu.out;have fgu:=blk_frozen Kgu.out;have kgw:=blk_cell Kgw.out;have fgw:=blk_frozen Kgw.out) | ((with_reducible refine gate_store (t:=50) (p:=4) rfl ?_);replace HB : Aside0 (Below w.heap.size w W302):=HB;refine H.put_event (t:=50) (p:=4) (i:=0) rfl rfl rfl [.int .i64 41,.int .i64 a] Kgf.out rfl rfl (by kernel_rfl) (by kernel_rfl) (by kernel_rfl) ?_;intro W303 hw;replace Kgr:=Aside0.mk (H.far_fill hw Ngr_gf.out Kgr.out);replace Kgf : Aside0 (W303.heap[gf]? = some (.cells #[.int .i64 41,.int .i64 a] 50 (0,0))):=Aside0.mk (H.blk_fill hw Kgf.out (by kernel_rfl));replace Kgv:=Aside0.mk (H.far_fill hw Ngv_gf.out Kgv.out);replace Kgq:=Aside0.mk (H.far_fill hw Ngq_gf.out Kgq.out);replace Kgu:=Aside0.mk (H.far_fill hw Ngu_gf.out Kgu.out);replace Kgw:=Aside0.mk (H.far_fill hw Ngw_gf.out Kgw.out);replace HB : Aside0 (Below w.heap.size w W303):=Aside0.mk (H.below_fill hw Lgf.out HB.out);clear kgr fgr kgf fgf kgq fgq kgu fgu kgw fgw;clear hw;have kgr:=blk_cell Kgr.out;have fgr:=blk_frozen Kgr.out;have kgf:=blk_cell Kgf.out;have fgf:=blk_frozen Kgf.out;have kgq:=blk_cell Kgq.out;have fgq:=blk_frozen Kgq.out;have kgu:=blk_cell Kgu.out;have fgu:=blk_frozen Kgu.out;have kgw:=blk_cell Kgw.out;have fgw:=blk_frozen Kgw.out))
       rw [← HQ.out]
       refine bodyPost_ret (results_ctc rfl _ _ gr gf 45 50 #[.int .i64 0,.int .i64 0,.int .i64 0,.int .i64 0,.int .i64 0,.int .i64 0,.int .i64 0,.int .i64 0,.int .i64 0,.int .i64 0] #[.int .i64 41,.int .i64 a] (0,0) (0,0) _ _ rfl Kgr.out Try.underlying45 rfl (by kernel_rfl) rfl Kgf.out Try.underlying50 rfl (by kernel_rfl)) rfl ?_
       exact ⟨rfl,HB.out⟩
     ·have hI:=HG.out
      rw [if_neg he] at hI
      have HQ:=Aside0.mk hI
      clear hI HG
      go_wp2_with (first | ((with_reducible refine gate_store (t:=3) (p:=116) rfl ?_);replace HB : Aside0 (Below w.heap.size w W203):=HB;refine store_event (t:=3) (p:=116) (v:=?vo3) (w1:=(World.setCells W203 gq 4 [.int .i64 x2])) ?hg ?ho ?hn ?hr ?_;(case ho => rfl);(case hg => rfl);(case hn => rfl);(case hr => go_simp;kernel_rfl);intro W204 hw;replace Kgr:=Aside0.mk (H.far_fill hw Ngr_gq.out Kgr.out);replace Kgf:=Aside0.mk (H.far_fill hw Ngf_gq.out Kgf.out);replace Kgv:=Aside0.mk (H.far_fill hw Ngv_gq.out Kgv.out);replace Kgq : Aside0 (W204.heap[gq]? = some (.cells #[.int .i64 x0,.int .i64 x1,.int .i64 0,.int .i64 0,.int .i64 x2,.int .i64 0,.int .i64 x4,.int .i64 x5,.int .i64 x6,.int .i64 x7] 45 (0,0))):=Aside0.mk (H.blk_fill hw Kgq.out (by kernel_rfl));replace HB : Aside0 (Below w.heap.size w W204):=Aside0.mk (H.below_fill hw Lgq.out HB.out);clear kgr fgr kgf fgf kgq fgq kv2 kv3;clear hw;have kgr:=blk_cell Kgr.out;have fgr:=blk_frozen Kgr.out;have kgf:=blk_cell Kgf.out;have fgf:=blk_frozen Kgf.out;have kgq:=blk_cell Kgq.out;have fgq:=blk_frozen Kgq.out;have kv2:=(blk_cell Kgv.out 2).trans E2.out;have kv3:=(blk_cell Kgv.out 3).trans E3.out) | ((with_reducible refine gate_store (t:=3) (p:=120) rfl ?_);replace HB : Aside0 (Below w.heap.size w W204):=HB;refine store_event (t:=3) (p:=120) (v:=?vo4) (w1:=(World.setCells W204 gq 5 [.int .i64 x3])) ?hg ?ho ?hn ?hr ?_;(case ho => rfl);(case hg => rfl);(case hn => rfl);(case hr => go_simp;kernel_rfl);intro W205 hw;replace Kgr:=Aside0.mk (H.far_fill hw Ngr_gq.out Kgr.out);replace Kgf:=Aside0.mk (H.far_fill hw Ngf_gq.out Kgf.out);replace Kgv:=Aside0.mk (H.far_fill hw Ngv_gq.out Kgv.out);replace Kgq : Aside0 (W205.heap[gq]? = some (.cells #[.int .i64 x0,.int .i64 x1,.int .i64 0,.int .i64 0,.int .i64 x2,.int .i64 x3,.int .i64 x4,.int .i64 x5,.int .i64 x6,.int .i64 x7] 45 (0,0))):=Aside0.mk (H.blk_fill hw Kgq.out (by kernel_rfl));replace HB : Aside0 (Below w.heap.size w W205):=Aside0.mk (H.below_fill hw Lgq.out HB.out);clear kgr fgr kgf fgf kgq fgq kv2 kv3;clear hw;have kgr:=blk_cell Kgr.out;have fgr:=blk_frozen Kgr.out;have kgf:=blk_cell Kgf.out;have fgf:=blk_frozen Kgf.out;have kgq:=blk_cell Kgq.out;have fgq:=blk_frozen Kgq.out;have kv2:=(blk_cell Kgv.out 2).trans E2.out;have kv3:=(blk_cell Kgv.out 3).trans E3.out) | ((with_reducible refine gate_dst (N:=121) rfl ?_);replace HB : Aside0 (Below w.heap.size w W205):=HB;refine H.get_event (t:=45) (x:=11) (N:=121) (i:=0) rfl rfl rfl [.int .i64 x0,.int .i64 x1,.int .i64 0,.int .i64 0,.int .i64 x2,.int .i64 x3,.int .i64 x4,.int .i64 x5,.int .i64 x6,.int .i64 x7] Kgq.out rfl (by kernel_rfl) Try.underlying45 rfl (by kernel_rfl) ?_) | (go_at_call 65;replace HB : Aside0 (Below w.heap.size w W205):=HB;(with_reducible refine (cR _).mono ?_);rintro e W206 ⟨rfl,hb⟩;replace Kgr:=Aside0.mk (blk_below Kgr.out hb);replace Kgf:=Aside0.mk (blk_below Kgf.out hb);replace Kgv:=Aside0.mk (blk_below Kgv.out hb);replace Kgq:=Aside0.mk (blk_below Kgq.out hb);replace HB : Aside0 (Below w.heap.size w W206):=Aside0.mk (below_step HB.out hb);clear kgr fgr kgf fgf kgq fgq kv2 kv3;clear hb;have kgr:=blk_cell Kgr.out;have fgr:=blk_frozen Kgr.out;have kgf:=blk_cell Kgf.out;have fgf:=blk_frozen Kgf.out;have kgq:=blk_cell Kgq.out;have fgq:=blk_frozen Kgq.out) | (go_at_call 36;replace HB : Aside0 (Below w.heap.size w W206):=HB;(with_reducible refine (reeveref02_Read.calls 40 _ _ l0 a s1 s2 m er _ ?u1 ?u2 A3.out).mono ?_);(case u1 => exact Kd.C_below HR0.out HB.out);(case u2 => exact HC0.out);rintro e W207 ⟨rfl,hb⟩;replace Kgr:=Aside0.mk (blk_below Kgr.out hb);replace Kgf:=Aside0.mk (blk_below Kgf.out hb);replace Kgv:=Aside0.mk (blk_below Kgv.out hb);replace Kgq:=Aside0.mk (blk_below Kgq.out hb);replace HB : Aside0 (Below w.heap.size w W207):=Aside0.mk (below_step HB.out hb);clear kgr fgr kgf fgf kgq fgq;clear hb;have kgr:=blk_cell Kgr.out;have fgr:=blk_frozen Kgr.out;have kgf:=blk_cell Kgf.out;have fgf:=blk_frozen Kgf.out;have kgq:=blk_cell Kgq.out;have fgq:=blk_frozen Kgq.out) | ((with_reducible refine gate_dst (N:=13) rfl ?_);replace HB : Aside0 (Below w.heap.size w W207):=HB;refine box_event ?hg (N:=13) ?hd (cs:=#[.int .i64 0,.int .i64 0]) (t:=23) ?hr ?_;(case hd => rfl);(case hg => rfl);(case hr => first | (go_simp;done) | (go_simp;rfl));intro gu hg W208 hbox hb;have Lgu : Aside0 (w.heap.size ≤ gu):=Aside0.mk (by rw [hg];exact below_size HB.out);have Ngr_gu : Aside0 (gr ≠ gu):=Aside0.mk (by rw [hg];exact Nat.ne_of_lt (blk_lt Kgr.out));have Ngu_gr : Aside0 (gu ≠ gr):=Aside0.mk (fun e => Ngr_gu.out e.symm);have Ngf_gu : Aside0 (gf ≠ gu):=Aside0.mk (by rw [hg];exact Nat.ne_of_lt (blk_lt Kgf.out));have Ngu_gf : Aside0 (gu ≠ gf):=Aside0.mk (fun e => Ngf_gu.out e.symm);have Ngv_gu : Aside0 (gv ≠ gu):=Aside0.mk (by rw [hg];exact Nat.ne_of_lt (blk_lt Kgv.out));have Ngu_gv : Aside0 (gu ≠ gv):=Aside0.mk (fun e => Ngv_gu.out e.symm);have Ngq_gu : Aside0 (gq ≠ gu):=Aside0.mk (by rw [hg];exact Nat.ne_of_lt (blk_lt Kgq.out));have Ngu_gq : Aside0 (gu ≠ gq):=Aside0.mk (fun e => Ngq_gu.out e.symm);replace Kgr:=Aside0.mk (blk_below Kgr.out hb);replace Kgf:=Aside0.mk (blk_below Kgf.out hb);replace Kgv:=Aside0.mk (blk_below Kgv.out hb);replace Kgq:=Aside0.mk (blk_below Kgq.out hb);replace HB : Aside0 (Below w.heap.size w W208):=Aside0.mk (below_step HB.out hb);clear kgr fgr kgf fgf kgq fgq;have Kgu : Aside0 (W208.heap[gu]? = some (.cells #[.int .i64 0,.int .i64 0] 23 (0,0))):=Aside0.mk hbox;clear hb hbox hg;have kgr:=blk_cell Kgr.out;have fgr:=blk_frozen Kgr.out;have kgf:=blk_cell Kgf.out;have fgf:=blk_frozen Kgf.out;have kgq:=blk_cell Kgq.out;have fgq:=blk_frozen Kgq.out;have kgu:=blk_cell Kgu.out;have fgu:=blk_frozen Kgu.out) | ((with_reducible refine gate_store (t:=23) (p:=13) rfl ?_);replace HB : Aside0 (Below w.heap.size w W208):=HB;refine H.put_event (t:=23) (p:=13) (i:=0) rfl rfl rfl [.int .i64 s1,.int .i64 s2] Kgu.out rfl rfl (by kernel_rfl) (by kernel_rfl) (by kernel_rfl) ?_;intro W209 hw;replace Kgr:=Aside0.mk (H.far_fill hw Ngr_gu.out Kgr.out);replace Kgf:=Aside0.mk (H.far_fill hw Ngf_gu.out Kgf.out);replace Kgv:=Aside0.mk (H.far_fill hw Ngv_gu.out Kgv.out);replace Kgq:=Aside0.mk (H.far_fill hw Ngq_gu.out Kgq.out);replace Kgu : Aside0 (W209.heap[gu]? = some (.cells #[.int .i64 s1,.int .i64 s2] 23 (0,0))):=Aside0.mk (H.blk_fill hw Kgu.out (by kernel_rfl));replace HB : Aside0 (Below w.heap.size w W209):=Aside0.mk (H.below_fill hw Lgu.out HB.out);clear kgr fgr kgf fgf kgq fgq kgu fgu;clear hw;have kgr:=blk_cell Kgr.out;have fgr:=blk_frozen Kgr.out;have kgf:=blk_cell Kgf.out;have fgf:=blk_frozen Kgf.out;have kgq:=blk_cell Kgq.out;have fgq:=blk_frozen Kgq.out;have kgu:=blk_cell Kgu.out;have fgu:=blk_frozen Kgu.out) | ((with_reducible refine gate_store (t:=45) (p:=2) rfl ?_);replace HB : Aside0 (Below w.heap.size w W209):=HB;refine H.put_event (t:=45) (p:=2) (i:=0) rfl rfl rfl [.int .i64 0,.int .i64 0,.int .i64 0,.int .i64 0,.int .i64 0,.int .i64 0,.int .i64 0,.int .i64 0,.int .i64 0,.int .i64 0] Kgr.out rfl rfl (by kernel_rfl) (by kernel_rfl) (by kernel_rfl) ?_;intro W210 hw;replace Kgr : Aside0 (W210.heap[gr]? = some (.cells #[.int .i64 0,.int .i64 0,.int .i64 0,.int .i64 0,.int .i64 0,.int .i64 0,.int .i64 0,.int .i64 0,.int .i64 0,.int .i64 0] 45 (0,0))):=Aside0.mk (H.blk_fill hw Kgr.out (by kernel_rfl));replace Kgf:=Aside0.mk (H.far_fill hw Ngf_gr.out Kgf.out);replace Kgv:=Aside0.mk (H.far_fill hw Ngv_gr.out Kgv.out);replace Kgq:=Aside0.mk (H.far_fill hw Ngq_gr.out Kgq.out);replace Kgu:=Aside0.mk (H.far_fill hw Ngu_gr.out Kgu.out);replace HB : Aside0 (Below w.heap.size w W210):=Aside0.mk (H.below_fill hw Lgr.out HB.out);clear kgr fgr kgf fgf kgq fgq kgu fgu;clear hw;have kgr:=blk_cell Kgr.out;have fgr:=blk_frozen Kgr.out;have kgf:=blk_cell Kgf.out;have fgf:=blk_frozen Kgf.out;have kgq:=blk_cell Kgq.out;have fgq:=blk_frozen Kgq.out;have kgu:=blk_cell Kgu.out;have fgu:=blk_frozen Kgu.out) | ((with_reducible refine gate_store (t:=50) (p:=4) rfl ?_);replace HB : Aside0 (Below w.heap.size w W210):=HB;refine H.put_event (t:=50) (p:=4) (i:=0) rfl rfl rfl [.int .i64 er,.int .i64 a] Kgf.out rfl rfl (by kernel_rfl) (by kernel_rfl) (by kernel_rfl) ?_;intro W211 hw;replace Kgr:=Aside0.mk (H.far_fill hw Ngr_gf.out Kgr.out);replace Kgf : Aside0 (W211.heap[gf]? = some (.cells #[.int .i64 er,.int .i64 a] 50 (0,0))):=Aside0.mk (H.blk_fill hw Kgf.out (by kernel_rfl));replace Kgv:=Aside0.mk (H.far_fill hw Ngv_gf.out Kgv.out);replace Kgq:=Aside0.mk (H.far_fill hw Ngq_gf.out Kgq.out);replace Kgu:=Aside0.mk (H.far_fill hw Ngu_gf.out Kgu.out);replace HB : Aside0 (Below w.heap.size w W211):=Aside0.mk (H.below_fill hw Lgf.out HB.out);clear kgr fgr kgf fgf kgq fgq kgu fgu;clear hw;have kgr:=blk_cell Kgr.out;have fgr:=blk_frozen Kgr.out;have kgf:=blk_cell Kgf.out;have fgf:=blk_frozen Kgf.out;have kgq:=blk_cell Kgq.out;have fgq:=blk_frozen Kgq.out;have kgu:=blk_cell Kgu.out;have fgu:=blk_frozen Kgu.out))
      rw [← HQ.out]
      refine bodyPost_ret (results_ctc rfl _ _ gr gf 45 50 #[.int .i64 0,.int .i64 0,.int .i64 0,.int .i64 0,.int .i64 0,.int .i64 0,.int .i64 0,.int .i64 0,.int .i64 0,.int .i64 0] #[.int .i64 er,.int .i64 a] (0,0) (0,0) _ _ rfl Kgr.out Try.underlying45 rfl (by kernel_rfl) rfl Kgf.out Try.underlying50 rfl (by kernel_rfl)) rfl ?_
      exact ⟨rfl,HB.out⟩
    ·rw [if_neg c1] at hI
     have c2 : Pol.ok p = false:=by simpa using c1
     rw [c2] at cR
     simp only [Bool.false_eq_true,if_false] at cR
     have HQ:=Aside0.mk hI
     clear hI c1 c2
     go_wp2_with (first | ((with_reducible refine gate_store (t:=3) (p:=116) rfl ?_);replace HB : Aside0 (Below w.heap.size w W203):=HB;refine store_event (t:=3) (p:=116) (v:=?vo3) (w1:=(World.setCells W203 gq 4 [.int .i64 x2])) ?hg ?ho ?hn ?hr ?_;(case ho => rfl);(case hg => rfl);(case hn => rfl);(case hr => go_simp;kernel_rfl);intro W204 hw;replace Kgr:=Aside0.mk (H.far_fill hw Ngr_gq.out Kgr.out);replace Kgf:=Aside0.mk (H.far_fill hw Ngf_gq.out Kgf.out);replace Kgv:=Aside0.mk (H.far_fill hw Ngv_gq.out Kgv.out);replace Kgq : Aside0 (W204.heap[gq]? = some (.cells #[.int .i64 x0,.int .i64 x1,.int .i64 0,.int .i64 0,.int .i64 x2,.int .i64 0,.int .i64 x4,.int .i64 x5,.int .i64 x6,.int .i64 x7] 45 (0,0))):=Aside0.mk (H.blk_fill hw Kgq.out (by kernel_rfl));replace HB : Aside0 (Below w.heap.size w W204):=Aside0.mk (H.below_fill hw Lgq.out HB.out);clear kgr fgr kgf fgf kgq fgq kv2 kv3;clear hw;have kgr:=blk_cell Kgr.out;have fgr:=blk_frozen Kgr.out;have kgf:=blk_cell Kgf.out;have fgf:=blk_frozen Kgf.out;have kgq:=blk_cell Kgq.out;have fgq:=blk_frozen Kgq.out;have kv2:=(blk_cell Kgv.out 2).trans E2.out;have kv3:=(blk_cell Kgv.out 3).trans E3.out) | ((with_reducible refine gate_store (t:=3) (p:=120) rfl ?_);replace HB : Aside0 (Below w.heap.size w W204):=HB;refine store_event (t:=3) (p:=120) (v:=?vo4) (w1:=(World.setCells W204 gq 5 [.int .i64 x3])) ?hg ?ho ?hn ?hr ?_;(case ho => rfl);(case hg => rfl);(case hn => rfl);(case hr => go_simp;kernel_rfl);intro W205 hw;replace Kgr:=Aside0.mk (H.far_fill hw Ngr_gq.out Kgr.out);replace Kgf:=Aside0.mk (H.far_fill hw Ngf_gq.out Kgf.out);replace Kgv:=Aside0.mk (H.far_fill hw Ngv_gq.out Kgv.out);replace Kgq : Aside0 (W205.heap[gq]? = some (.cells #[.int .i64 x0,.int .i64 x1,.int .i64 0,.int .i64 0,.int .i64 x2,.int .i64 x3,.int .i64 x4,.int .i64 x5,.int .i64 x6,.int .i64 x7] 45 (0,0))):=Aside0.mk (H.blk_fill hw Kgq.out (by kernel_rfl));replace HB : Aside0 (Below w.heap.size w W205):=Aside0.mk (H.below_fill hw Lgq.out HB.out);clear kgr fgr kgf fgf kgq fgq kv2 kv3;clear hw;have kgr:=blk_cell Kgr.out;have fgr:=blk_frozen Kgr.out;have kgf:=blk_cell Kgf.out;have fgf:=blk_frozen Kgf.out;have kgq:=blk_cell Kgq.out;have fgq:=blk_frozen Kgq.out;have kv2:=(blk_cell Kgv.out 2).trans E2.out;have kv3:=(blk_cell Kgv.out 3).trans E3.out) | ((with_reducible refine gate_dst (N:=121) rfl ?_);replace HB : Aside0 (Below w.heap.size w W205):=HB;refine H.get_event (t:=45) (x:=11) (N:=121) (i:=0) rfl rfl rfl [.int .i64 x0,.int .i64 x1,.int .i64 0,.int .i64 0,.int .i64 x2,.int .i64 x3,.int .i64 x4,.int .i64 x5,.int .i64 x6,.int .i64 x7] Kgq.out rfl (by kernel_rfl) Try.underlying45 rfl (by kernel_rfl) ?_) | (go_at_call 65;replace HB : Aside0 (Below w.heap.size w W205):=HB;(with_reducible refine (cR _).mono ?_);rintro e W206 ⟨rfl,hb⟩;replace Kgr:=Aside0.mk (blk_below Kgr.out hb);replace Kgf:=Aside0.mk (blk_below Kgf.out hb);replace Kgv:=Aside0.mk (blk_below Kgv.out hb);replace Kgq:=Aside0.mk (blk_below Kgq.out hb);replace HB : Aside0 (Below w.heap.size w W206):=Aside0.mk (below_step HB.out hb);clear kgr fgr kgf fgf kgq fgq kv2 kv3;clear hb;have kgr:=blk_cell Kgr.out;have fgr:=blk_frozen Kgr.out;have kgf:=blk_cell Kgf.out;have fgf:=blk_frozen Kgf.out;have kgq:=blk_cell Kgq.out;have fgq:=blk_frozen Kgq.out) | ((with_reducible refine gate_store (t:=45) (p:=2) rfl ?_);replace HB : Aside0 (Below w.heap.size w W206):=HB;refine H.put_event (t:=45) (p:=2) (i:=0) rfl rfl rfl [.int .i64 0,.int .i64 0,.int .i64 0,.int .i64 0,.int .i64 0,.int .i64 0,.int .i64 0,.int .i64 0,.int .i64 0,.int .i64 0] Kgr.out rfl rfl (by kernel_rfl) (by kernel_rfl) (by kernel_rfl) ?_;intro W207 hw;replace Kgr : Aside0 (W207.heap[gr]? = some (.cells #[.int .i64 0,.int .i64 0,.int .i64 0,.int .i64 0,.int .i64 0,.int .i64 0,.int .i64 0,.int .i64 0,.int .i64 0,.int .i64 0] 45 (0,0))):=Aside0.mk (H.blk_fill hw Kgr.out (by kernel_rfl));replace Kgf:=Aside0.mk (H.far_fill hw Ngf_gr.out Kgf.out);replace Kgv:=Aside0.mk (H.far_fill hw Ngv_gr.out Kgv.out);replace Kgq:=Aside0.mk (H.far_fill hw Ngq_gr.out Kgq.out);replace HB : Aside0 (Below w.heap.size w W207):=Aside0.mk (H.below_fill hw Lgr.out HB.out);clear kgr fgr kgf fgf kgq fgq;clear hw;have kgr:=blk_cell Kgr.out;have fgr:=blk_frozen Kgr.out;have kgf:=blk_cell Kgf.out;have fgf:=blk_frozen Kgf.out;have kgq:=blk_cell Kgq.out;have fgq:=blk_frozen Kgq.out) | ((with_reducible refine gate_store (t:=50) (p:=4) rfl ?_);replace HB : Aside0 (Below w.heap.size w W207):=HB;refine H.put_event (t:=50) (p:=4) (i:=0) rfl rfl rfl [.int .i64 40,.int .i64 4] Kgf.out rfl rfl (by kernel_rfl) (by kernel_rfl) (by kernel_rfl) ?_;intro W208 hw;replace Kgr:=Aside0.mk (H.far_fill hw Ngr_gf.out Kgr.out);replace Kgf : Aside0 (W208.heap[gf]? = some (.cells #[.int .i64 40,.int .i64 4] 50 (0,0))):=Aside0.mk (H.blk_fill hw Kgf.out (by kernel_rfl));replace Kgv:=Aside0.mk (H.far_fill hw Ngv_gf.out Kgv.out);replace Kgq:=Aside0.mk (H.far_fill hw Ngq_gf.out Kgq.out);replace HB : Aside0 (Below w.heap.size w W208):=Aside0.mk (H.below_fill hw Lgf.out HB.out);clear kgr fgr kgf fgf kgq fgq;clear hw;have kgr:=blk_cell Kgr.out;have fgr:=blk_frozen Kgr.out;have kgf:=blk_cell Kgf.out;have fgf:=blk_frozen Kgf.out;have kgq:=blk_cell Kgq.out;have fgq:=blk_frozen Kgq.out))
     rw [← HQ.out]
     refine bodyPost_ret (results_ctc rfl _ _ gr gf 45 50 #[.int .i64 0,.int .i64 0,.int .i64 0,.int .i64 0,.int .i64 0,.int .i64 0,.int .i64 0,.int .i64 0,.int .i64 0,.int .i64 0] #[.int .i64 40,.int .i64 4] (0,0) (0,0) _ _ rfl Kgr.out Try.underlying45 rfl (by kernel_rfl) rfl Kgf.out Try.underlying50 rfl (by kernel_rfl)) rfl ?_
     exact ⟨rfl,HB.out⟩
theorem getD_reel {l : List Int} (h4 : 4 ≤ l.length) : l.take 4 = Pol.reel ↔ l.getD 0 0 = 82 ∧ l.getD 1 0 = 69 ∧ l.getD 2 0 = 69 ∧ l.getD 3 0 = 76:=by
 match l,h4 with
 | a :: b :: c :: d :: r,_ => simp [Pol.reel]
theorem rread_all (A0 : Option Addr) (c0 : Nat) (l0 : List Int) (w : World) (hr0 : Kd.C (Kd.int .u8) w A0 l0.length l0) (hc0 : l0.length ≤ c0) (hb : M.bytes l0 = true) (hn : (l0.length : Int) ≤ 4611686018427387904) :
  Calls Try.prog 66 #[.slice A0 l0.length c0] w fun e w' => e = .returned (.tuple #[.agg #[.int .i64 (Pol.read l0).1.kind,.int .i64 (Pol.read l0).1.cap,.int .i64 (Pol.read l0).1.num,.int .i64 (Pol.read l0).1.den,.int .i64 (Pol.read l0).1.width,.int .i64 (Pol.read l0).1.count,.int .i64 (Pol.read l0).1.keys,.int .i64 (Pol.read l0).1.slots,.int .i64 (Pol.read l0).1.every,.int .i64 (Pol.read l0).1.seg],.int .i64 (Pol.read l0).2.1,.agg #[.int .i64 (Pol.read l0).2.2.1,.int .i64 (Pol.read l0).2.2.2]]) ∧ Below w.heap.size w w':=by
 by_cases h4 : l0.length < 4
 ·have e : Pol.read l0 = (Pol.zero,0,41,0):=by
   unfold Pol.read
   rw [if_neg]
   intro h
   have:=congrArg List.length h
   rw [List.length_take] at this
   simp [Pol.reel] at this
   omega
  rw [e]
  exact rread_short A0 c0 l0 w hr0 hc0 h4
 ·have h4' : 4 ≤ l0.length:=by omega
  obtain ⟨ad,rfl,-⟩:=byte_at hr0 h4'
  by_cases hS : l0.take 4 = Pol.reel
  ·obtain ⟨b0,b1,b2,b3⟩:=(getD_reel h4').1 hS
   exact rread_loop ad c0 l0 (Pol.read l0) w hr0 hc0 h4' hb hn hS b0 b1 b2 b3 rfl
  ·have e : Pol.read l0 = (Pol.zero,0,41,0):=by
    unfold Pol.read
    rw [if_neg hS]
   rw [e]
   by_cases b0 : l0.getD 0 0 = 82
   ·by_cases b1 : l0.getD 1 0 = 69
    ·by_cases b2 : l0.getD 2 0 = 69
     ·by_cases b3 : l0.getD 3 0 = 76
      ·exact absurd ((getD_reel h4').2 ⟨b0,b1,b2,b3⟩) hS
      ·exact rread_head3 ad c0 l0 w hr0 hc0 h4' b0 b1 b2 b3
     ·exact rread_head2 ad c0 l0 w hr0 hc0 h4' b0 b1 b2
    ·exact rread_head1 ad c0 l0 w hr0 hc0 h4' b0 b1
   ·exact rread_head0 ad c0 l0 w hr0 hc0 h4' b0
theorem rread_ext (A0 : Option Addr) (c0 : Nat) (l0 : List Int) (r1 r2 r3 r4 r5 r6 r7 r8 r9 r10 r11 r12 r13 : Int) (w : World) (hr0 : Kd.C (Kd.int .u8) w A0 l0.length l0) (hc0 : l0.length ≤ c0) (h : Pol.readO l0 = some (r1,r2,r3,r4,r5,r6,r7,r8,r9,r10,r11,r12,r13)) :
  Calls Try.prog 66 #[.slice A0 l0.length c0] w fun e w' => e = .returned (.tuple #[.agg #[.int .i64 r1,.int .i64 r2,.int .i64 r3,.int .i64 r4,.int .i64 r5,.int .i64 r6,.int .i64 r7,.int .i64 r8,.int .i64 r9,.int .i64 r10],.int .i64 r11,.agg #[.int .i64 r12,.int .i64 r13]]) ∧ Below w.heap.size w w':=by
 unfold Pol.readO at h
 by_cases hb : M.bytes l0 = true
 ·rw [if_pos hb] at h
  by_cases hn : (l0.length : Int) ≤ 4611686018427387904
  ·rw [if_pos hn] at h
   have:=rread_all A0 c0 l0 w hr0 hc0 hb hn
   cases h
   exact this
  ·rw [if_neg hn] at h
   cases h
 ·rw [if_neg hb] at h
  cases h
end Go.Proofs.Ytbiijcehgiibeaa.H

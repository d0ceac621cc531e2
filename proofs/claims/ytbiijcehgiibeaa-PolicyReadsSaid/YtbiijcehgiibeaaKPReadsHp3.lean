/- Proved here: policy.Read answers Pol.read, for bytes of any length that memory has room for. (Pieces by wip/hpr.py, this session's own.) Laid tighter for a claim's bound by wip/shake.py (SQ=1). -/
import Derived.Test.YtbiijcehgiibeaaKPReadsHp1
import Derived.Test.YtbiijcehgiibeaaKPReadsJPolg
import Derived.Test.YtbiijcehgiibeaaKPReadsJHap
import Derived.Test.YtbiijcehgiibeaaKPReadsJFloat
import Derived.Test.YtbiijcehgiibeaaKPReadsJSix
import Derived.Test.YtbiijcehgiibeaaKPReadsQf37
namespace Go.Proofs.Ytbiijcehgiibeaa.H
open Go.RowKit Go.Proofs.YtbiijcehgiibeaaW.PrintWords Go.Proofs.YtbiijcehgiibeaaW.PrintLast Go.Proofs.YtbiijcehgiibeaaW.PrintMore Go.Proofs.Ytbiijcehgiibeaa.Q
set_option linter.unusedVariables false
set_option linter.unusedSimpArgs false
def t43_24.T : Bool × List (List Nat × List Nat):=(true,[([],[]),([],[]),([],[]),([1,2],[1,2]),([0,3,0],[0,3]),([4],[4]),([5],[5]),([5],[5]),([],[]),([8,6,4,0,1,2,3,4,5,6,8],[6,8]),([7,9,0,1,2,3,4,5,6,7,8,9],[7])])
def t43_24.B : List Nat:=[0,0,0,6,15,31,63,63,0,383,1023]
theorem t43_24.tab : rtab .any (opsOf Try.f43 24) = t43_24.T:=by kernel_rfl
theorem t43_24.bits : waitsOk t43_24.T.2 t43_24.B = true:=by kernel_rfl
theorem el_at1 (gp : Nat) : ∀ j : Nat,j < 7 → ∃ (ofs : Nat) (lo hi : Int),Pol.flds1[j + 1]? = some (ofs,lo,hi) ∧ 0 < ofs ∧ ofs < 10 ∧ (List.drop (3 + j * 3) ([.pointer (some ⟨gp,0,none⟩),.int .i64 1,.int .i64 2,.pointer (some ⟨gp,1,none⟩),.int .i64 1,.int .i64 1048576,.pointer (some ⟨gp,2,none⟩),.int .i64 1,.int .i64 65536,.pointer (some ⟨gp,3,none⟩),.int .i64 1,.int .i64 65536,.pointer (some ⟨gp,6,none⟩),.int .i64 1,.int .i64 1000,.pointer (some ⟨gp,7,none⟩),.int .i64 1,.int .i64 64,.pointer (some ⟨gp,8,none⟩),.int .i64 0,.int .i64 1000,.pointer (some ⟨gp,9,none⟩),.int .i64 1,.int .i64 1000] : List Value)).take 3 = [.pointer (some ⟨gp,ofs,none⟩),.int .i64 lo,.int .i64 hi]:=by
 intro j hj
 obtain rfl | rfl | rfl | rfl | rfl | rfl | rfl : j = 0 ∨ j = 1 ∨ j = 2 ∨ j = 3 ∨ j = 4 ∨ j = 5 ∨ j = 6:=by omega
 all_goals exact ⟨_,_,_,rfl,by decide,by decide,rfl⟩
theorem el_at2 (gp : Nat) : ∀ j : Nat,j < 7 → ∃ (ofs : Nat) (lo hi : Int),Pol.flds2[j + 1]? = some (ofs,lo,hi) ∧ 0 < ofs ∧ ofs < 10 ∧ (List.drop (3 + j * 3) ([.pointer (some ⟨gp,0,none⟩),.int .i64 1,.int .i64 2,.pointer (some ⟨gp,1,none⟩),.int .i64 1,.int .i64 1048576,.pointer (some ⟨gp,4,none⟩),.int .i64 1,.int .i64 1048576,.pointer (some ⟨gp,5,none⟩),.int .i64 1,.int .i64 32,.pointer (some ⟨gp,6,none⟩),.int .i64 1,.int .i64 1000,.pointer (some ⟨gp,7,none⟩),.int .i64 1,.int .i64 64,.pointer (some ⟨gp,8,none⟩),.int .i64 0,.int .i64 1000,.pointer (some ⟨gp,9,none⟩),.int .i64 1,.int .i64 1000] : List Value)).take 3 = [.pointer (some ⟨gp,ofs,none⟩),.int .i64 lo,.int .i64 hi]:=by
 intro j hj
 obtain rfl | rfl | rfl | rfl | rfl | rfl | rfl : j = 0 ∨ j = 1 ∨ j = 2 ∨ j = 3 ∨ j = 4 ∨ j = 5 ∨ j = 6:=by omega
 all_goals exact ⟨_,_,_,rfl,by decide,by decide,rfl⟩
set_option maxHeartbeats 4000000 in
set_option maxRecDepth 100000 in
theorem pread_short (A0 : Option Addr) (c0 : Nat) (l0 : List Int) (w : World) (hr0 : Kd.C (Kd.int .u8) w A0 l0.length l0) (hc0 : l0.length ≤ c0) (h4 : l0.length < 4) :
  Calls Try.prog 43 #[.slice A0 l0.length c0] w fun e w' => e = .returned (.tuple #[.agg #[.int .i64 0,.int .i64 0,.int .i64 0,.int .i64 0,.int .i64 0,.int .i64 0,.int .i64 0,.int .i64 0,.int .i64 0,.int .i64 0],.int .i64 0,.agg #[.int .i64 41,.int .i64 0]]) ∧ Below w.heap.size w w':=by
 have HR0:=Aside0.mk hr0
 have HC0:=Aside0.mk hc0
 have HB:=Aside0.mk (Below.refl w.heap.size w)
 have hlt : decide ((l0.length : Int) < 4) = true:=decide_eq_true (by omega)
 clear hr0 hc0 h4
 go_enter Try.func43,Try.ntmps43
 go_wp2_with (first | ((with_reducible refine gate_dst (N:=2) rfl ?_);replace HB : Aside0 (Below w.heap.size w w):=HB;refine box_event ?hg (N:=2) ?hd (cs:=#[.int .i64 0,.int .i64 0,.int .i64 0,.int .i64 0,.int .i64 0,.int .i64 0,.int .i64 0,.int .i64 0,.int .i64 0,.int .i64 0]) (t:=45) ?hr ?_;(case hd => rfl);(case hg => rfl);(case hr => first | (go_simp;done) | (go_simp;rfl));intro gr hg W1 hbox hb;have Lgr : Aside0 (w.heap.size ≤ gr):=Aside0.mk (by rw [hg];exact below_size HB.out);replace HB : Aside0 (Below w.heap.size w W1):=Aside0.mk (below_step HB.out hb);have Kgr : Aside0 (W1.heap[gr]? = some (.cells #[.int .i64 0,.int .i64 0,.int .i64 0,.int .i64 0,.int .i64 0,.int .i64 0,.int .i64 0,.int .i64 0,.int .i64 0,.int .i64 0] 45 (0,0))):=Aside0.mk hbox;clear hb hbox hg;have kgr:=blk_cell Kgr.out;have fgr:=blk_frozen Kgr.out) | ((with_reducible refine gate_dst (N:=4) rfl ?_);replace HB : Aside0 (Below w.heap.size w W1):=HB;refine box_event ?hg (N:=4) ?hd (cs:=#[.int .i64 0,.int .i64 0]) (t:=50) ?hr ?_;(case hd => rfl);(case hg => rfl);(case hr => first | (go_simp;done) | (go_simp;rfl));intro gf hg W2 hbox hb;have Lgf : Aside0 (w.heap.size ≤ gf):=Aside0.mk (by rw [hg];exact below_size HB.out);have Ngr_gf : Aside0 (gr ≠ gf):=Aside0.mk (by rw [hg];exact Nat.ne_of_lt (blk_lt Kgr.out));have Ngf_gr : Aside0 (gf ≠ gr):=Aside0.mk (fun e => Ngr_gf.out e.symm);replace Kgr:=Aside0.mk (blk_below Kgr.out hb);replace HB : Aside0 (Below w.heap.size w W2):=Aside0.mk (below_step HB.out hb);clear kgr fgr;have Kgf : Aside0 (W2.heap[gf]? = some (.cells #[.int .i64 0,.int .i64 0] 50 (0,0))):=Aside0.mk hbox;clear hb hbox hg;have kgr:=blk_cell Kgr.out;have fgr:=blk_frozen Kgr.out;have kgf:=blk_cell Kgf.out;have fgf:=blk_frozen Kgf.out) | ((with_reducible refine gate_store (t:=45) (p:=2) rfl ?_);replace HB : Aside0 (Below w.heap.size w W2):=HB;refine H.put_event (t:=45) (p:=2) (i:=0) rfl rfl rfl [.int .i64 0,.int .i64 0,.int .i64 0,.int .i64 0,.int .i64 0,.int .i64 0,.int .i64 0,.int .i64 0,.int .i64 0,.int .i64 0] Kgr.out rfl rfl (by kernel_rfl) (by kernel_rfl) (by kernel_rfl) ?_;intro W3 hw;replace Kgr : Aside0 (W3.heap[gr]? = some (.cells #[.int .i64 0,.int .i64 0,.int .i64 0,.int .i64 0,.int .i64 0,.int .i64 0,.int .i64 0,.int .i64 0,.int .i64 0,.int .i64 0] 45 (0,0))):=Aside0.mk (H.blk_fill hw Kgr.out (by kernel_rfl));replace Kgf:=Aside0.mk (H.far_fill hw Ngf_gr.out Kgf.out);replace HB : Aside0 (Below w.heap.size w W3):=Aside0.mk (H.below_fill hw Lgr.out HB.out);clear kgr fgr kgf fgf;clear hw;have kgr:=blk_cell Kgr.out;have fgr:=blk_frozen Kgr.out;have kgf:=blk_cell Kgf.out;have fgf:=blk_frozen Kgf.out) | ((with_reducible refine gate_store (t:=50) (p:=4) rfl ?_);replace HB : Aside0 (Below w.heap.size w W3):=HB;refine H.put_event (t:=50) (p:=4) (i:=0) rfl rfl rfl [.int .i64 41,.int .i64 0] Kgf.out rfl rfl (by kernel_rfl) (by kernel_rfl) (by kernel_rfl) ?_;intro W4 hw;replace Kgr:=Aside0.mk (H.far_fill hw Ngr_gf.out Kgr.out);replace Kgf : Aside0 (W4.heap[gf]? = some (.cells #[.int .i64 41,.int .i64 0] 50 (0,0))):=Aside0.mk (H.blk_fill hw Kgf.out (by kernel_rfl));replace HB : Aside0 (Below w.heap.size w W4):=Aside0.mk (H.below_fill hw Lgf.out HB.out);clear kgr fgr kgf fgf;clear hw;have kgr:=blk_cell Kgr.out;have fgr:=blk_frozen Kgr.out;have kgf:=blk_cell Kgf.out;have fgf:=blk_frozen Kgf.out))
 refine bodyPost_ret (results_ctc rfl _ _ gr gf 45 50 #[.int .i64 0,.int .i64 0,.int .i64 0,.int .i64 0,.int .i64 0,.int .i64 0,.int .i64 0,.int .i64 0,.int .i64 0,.int .i64 0] #[.int .i64 41,.int .i64 0] (0,0) (0,0) _ _ rfl Kgr.out Try.underlying45 rfl (by kernel_rfl) rfl Kgf.out Try.underlying50 rfl (by kernel_rfl)) rfl ?_
 exact ⟨rfl,HB.out⟩
set_option maxHeartbeats 4000000 in
set_option maxRecDepth 100000 in
theorem pread_head (A0 : Option Addr) (c0 : Nat) (l0 : List Int) (w : World) (hr0 : Kd.C (Kd.int .u8) w A0 l0.length l0) (hc0 : l0.length ≤ c0) (h4 : 4 ≤ l0.length) (hby : M.bytes l0 = true) (hS : ¬ l0.take 4 = Pol.reel) :
  Calls Try.prog 43 #[.slice A0 l0.length c0] w fun e w' => e = .returned (.tuple #[.agg #[.int .i64 0,.int .i64 0,.int .i64 0,.int .i64 0,.int .i64 0,.int .i64 0,.int .i64 0,.int .i64 0,.int .i64 0,.int .i64 0],.int .i64 0,.agg #[.int .i64 41,.int .i64 0]]) ∧ Below w.heap.size w w':=by
 have HR0:=Aside0.mk hr0
 have HC0:=Aside0.mk hc0
 have HB:=Aside0.mk (Below.refl w.heap.size w)
 have hlt : decide ((l0.length : Int) < 4) = false:=decide_eq_false (by omega)
 have hcut:=cut4 A0 l0.length c0 h4 hc0
 have H4:=Aside0.mk h4
 obtain ⟨sv,hsv⟩ : ∃ sv,sv = strOfNums (l0.take 4):=⟨_,rfl⟩
 have HS:=Aside0.mk hsv
 have hS1 : ¬ sv.toList = [82,69,69,76]:=by rw [hsv,reel_iff hby h4];exact hS
 have hS2 : (sv.toList == [82,69,69,76]) = false:=beq_eq_false_iff_ne.2 hS1
 clear hsv hS hr0 hc0 h4 hby
 go_enter Try.func43,Try.ntmps43
 go_wp2_with (first | ((with_reducible refine gate_dst (N:=2) rfl ?_);replace HB : Aside0 (Below w.heap.size w w):=HB;refine box_event ?hg (N:=2) ?hd (cs:=#[.int .i64 0,.int .i64 0,.int .i64 0,.int .i64 0,.int .i64 0,.int .i64 0,.int .i64 0,.int .i64 0,.int .i64 0,.int .i64 0]) (t:=45) ?hr ?_;(case hd => rfl);(case hg => rfl);(case hr => first | (go_simp;done) | (go_simp;rfl));intro gr hg W1 hbox hb;have Lgr : Aside0 (w.heap.size ≤ gr):=Aside0.mk (by rw [hg];exact below_size HB.out);replace HB : Aside0 (Below w.heap.size w W1):=Aside0.mk (below_step HB.out hb);have Kgr : Aside0 (W1.heap[gr]? = some (.cells #[.int .i64 0,.int .i64 0,.int .i64 0,.int .i64 0,.int .i64 0,.int .i64 0,.int .i64 0,.int .i64 0,.int .i64 0,.int .i64 0] 45 (0,0))):=Aside0.mk hbox;clear hb hbox hg;have kgr:=blk_cell Kgr.out;have fgr:=blk_frozen Kgr.out) | ((with_reducible refine gate_dst (N:=4) rfl ?_);replace HB : Aside0 (Below w.heap.size w W1):=HB;refine box_event ?hg (N:=4) ?hd (cs:=#[.int .i64 0,.int .i64 0]) (t:=50) ?hr ?_;(case hd => rfl);(case hg => rfl);(case hr => first | (go_simp;done) | (go_simp;rfl));intro gf hg W2 hbox hb;have Lgf : Aside0 (w.heap.size ≤ gf):=Aside0.mk (by rw [hg];exact below_size HB.out);have Ngr_gf : Aside0 (gr ≠ gf):=Aside0.mk (by rw [hg];exact Nat.ne_of_lt (blk_lt Kgr.out));have Ngf_gr : Aside0 (gf ≠ gr):=Aside0.mk (fun e => Ngr_gf.out e.symm);replace Kgr:=Aside0.mk (blk_below Kgr.out hb);replace HB : Aside0 (Below w.heap.size w W2):=Aside0.mk (below_step HB.out hb);clear kgr fgr;have Kgf : Aside0 (W2.heap[gf]? = some (.cells #[.int .i64 0,.int .i64 0] 50 (0,0))):=Aside0.mk hbox;clear hb hbox hg;have kgr:=blk_cell Kgr.out;have fgr:=blk_frozen Kgr.out;have kgf:=blk_cell Kgf.out;have fgf:=blk_frozen Kgf.out;have hcv:=conv4 (c:=c0) HS.out (Kd.C_below HR0.out HB.out) H4.out) | ((with_reducible refine gate_store (t:=45) (p:=2) rfl ?_);replace HB : Aside0 (Below w.heap.size w W2):=HB;refine H.put_event (t:=45) (p:=2) (i:=0) rfl rfl rfl [.int .i64 0,.int .i64 0,.int .i64 0,.int .i64 0,.int .i64 0,.int .i64 0,.int .i64 0,.int .i64 0,.int .i64 0,.int .i64 0] Kgr.out rfl rfl (by kernel_rfl) (by kernel_rfl) (by kernel_rfl) ?_;intro W3 hw;replace Kgr : Aside0 (W3.heap[gr]? = some (.cells #[.int .i64 0,.int .i64 0,.int .i64 0,.int .i64 0,.int .i64 0,.int .i64 0,.int .i64 0,.int .i64 0,.int .i64 0,.int .i64 0] 45 (0,0))):=Aside0.mk (H.blk_fill hw Kgr.out (by kernel_rfl));replace Kgf:=Aside0.mk (H.far_fill hw Ngf_gr.out Kgf.out);replace HB : Aside0 (Below w.heap.size w W3):=Aside0.mk (H.below_fill hw Lgr.out HB.out);clear kgr fgr kgf fgf hcv;clear hw;have kgr:=blk_cell Kgr.out;have fgr:=blk_frozen Kgr.out;have kgf:=blk_cell Kgf.out;have fgf:=blk_frozen Kgf.out) | ((with_reducible refine gate_store (t:=50) (p:=4) rfl ?_);replace HB : Aside0 (Below w.heap.size w W3):=HB;refine H.put_event (t:=50) (p:=4) (i:=0) rfl rfl rfl [.int .i64 41,.int .i64 0] Kgf.out rfl rfl (by kernel_rfl) (by kernel_rfl) (by kernel_rfl) ?_;intro W4 hw;replace Kgr:=Aside0.mk (H.far_fill hw Ngr_gf.out Kgr.out);replace Kgf : Aside0 (W4.heap[gf]? = some (.cells #[.int .i64 41,.int .i64 0] 50 (0,0))):=Aside0.mk (H.blk_fill hw Kgf.out (by kernel_rfl));replace HB : Aside0 (Below w.heap.size w W4):=Aside0.mk (H.below_fill hw Lgf.out HB.out);clear kgr fgr kgf fgf;clear hw;have kgr:=blk_cell Kgr.out;have fgr:=blk_frozen Kgr.out;have kgf:=blk_cell Kgf.out;have fgf:=blk_frozen Kgf.out))
 refine bodyPost_ret (results_ctc rfl _ _ gr gf 45 50 #[.int .i64 0,.int .i64 0,.int .i64 0,.int .i64 0,.int .i64 0,.int .i64 0,.int .i64 0,.int .i64 0,.int .i64 0,.int .i64 0] #[.int .i64 41,.int .i64 0] (0,0) (0,0) _ _ rfl Kgr.out Try.underlying45 rfl (by kernel_rfl) rfl Kgf.out Try.underlying50 rfl (by kernel_rfl)) rfl ?_
 exact ⟨rfl,HB.out⟩
set_option maxHeartbeats 4000000 in
set_option maxRecDepth 100000 in
theorem pread_f1 (A0 : Option Addr) (c0 : Nat) (l0 : List Int) (n nx er : Int) (w : World) (hr0 : Kd.C (Kd.int .u8) w A0 l0.length l0) (hc0 : l0.length ≤ c0) (h4 : 4 ≤ l0.length) (hby : M.bytes l0 = true) (hS : l0.take 4 = Pol.reel) (h1 : bits_Read.f 40 l0 4 = some (n,nx,er)) (he : er ≠ 0) :
  Calls Try.prog 43 #[.slice A0 l0.length c0] w fun e w' => e = .returned (.tuple #[.agg #[.int .i64 0,.int .i64 0,.int .i64 0,.int .i64 0,.int .i64 0,.int .i64 0,.int .i64 0,.int .i64 0,.int .i64 0,.int .i64 0],.int .i64 0,.agg #[.int .i64 er,.int .i64 4]]) ∧ Below w.heap.size w w':=by
 have A1:=Aside0.mk h1
 clear h1
 have HR0:=Aside0.mk hr0
 have HC0:=Aside0.mk hc0
 have HB:=Aside0.mk (Below.refl w.heap.size w)
 have hlt : decide ((l0.length : Int) < 4) = false:=decide_eq_false (by omega)
 have hcut:=cut4 A0 l0.length c0 h4 hc0
 have H4:=Aside0.mk h4
 obtain ⟨sv,hsv⟩ : ∃ sv,sv = strOfNums (l0.take 4):=⟨_,rfl⟩
 have HS:=Aside0.mk hsv
 have hS1 : sv.toList = [82,69,69,76]:=by rw [hsv,reel_iff hby h4];exact hS
 clear hsv hS hr0 hc0 h4 hby
 go_enter Try.func43,Try.ntmps43
 go_wp2_with (first | ((with_reducible refine gate_dst (N:=2) rfl ?_);replace HB : Aside0 (Below w.heap.size w w):=HB;refine box_event ?hg (N:=2) ?hd (cs:=#[.int .i64 0,.int .i64 0,.int .i64 0,.int .i64 0,.int .i64 0,.int .i64 0,.int .i64 0,.int .i64 0,.int .i64 0,.int .i64 0]) (t:=45) ?hr ?_;(case hd => rfl);(case hg => rfl);(case hr => first | (go_simp;done) | (go_simp;rfl));intro gr hg W1 hbox hb;have Lgr : Aside0 (w.heap.size ≤ gr):=Aside0.mk (by rw [hg];exact below_size HB.out);replace HB : Aside0 (Below w.heap.size w W1):=Aside0.mk (below_step HB.out hb);have Kgr : Aside0 (W1.heap[gr]? = some (.cells #[.int .i64 0,.int .i64 0,.int .i64 0,.int .i64 0,.int .i64 0,.int .i64 0,.int .i64 0,.int .i64 0,.int .i64 0,.int .i64 0] 45 (0,0))):=Aside0.mk hbox;clear hb hbox hg;have kgr:=blk_cell Kgr.out;have fgr:=blk_frozen Kgr.out) | ((with_reducible refine gate_dst (N:=4) rfl ?_);replace HB : Aside0 (Below w.heap.size w W1):=HB;refine box_event ?hg (N:=4) ?hd (cs:=#[.int .i64 0,.int .i64 0]) (t:=50) ?hr ?_;(case hd => rfl);(case hg => rfl);(case hr => first | (go_simp;done) | (go_simp;rfl));intro gf hg W2 hbox hb;have Lgf : Aside0 (w.heap.size ≤ gf):=Aside0.mk (by rw [hg];exact below_size HB.out);have Ngr_gf : Aside0 (gr ≠ gf):=Aside0.mk (by rw [hg];exact Nat.ne_of_lt (blk_lt Kgr.out));have Ngf_gr : Aside0 (gf ≠ gr):=Aside0.mk (fun e => Ngr_gf.out e.symm);replace Kgr:=Aside0.mk (blk_below Kgr.out hb);replace HB : Aside0 (Below w.heap.size w W2):=Aside0.mk (below_step HB.out hb);clear kgr fgr;have Kgf : Aside0 (W2.heap[gf]? = some (.cells #[.int .i64 0,.int .i64 0] 50 (0,0))):=Aside0.mk hbox;clear hb hbox hg;have kgr:=blk_cell Kgr.out;have fgr:=blk_frozen Kgr.out;have kgf:=blk_cell Kgf.out;have fgf:=blk_frozen Kgf.out;have hcv:=conv4 (c:=c0) HS.out (Kd.C_below HR0.out HB.out) H4.out) | ((with_reducible refine gate_dst (N:=5) rfl ?_);replace HB : Aside0 (Below w.heap.size w W2):=HB;refine box_event ?hg (N:=5) ?hd (cs:=#[.int .i64 0,.int .i64 0,.int .i64 0,.int .i64 0,.int .i64 0,.int .i64 0,.int .i64 0,.int .i64 0,.int .i64 0,.int .i64 0]) (t:=45) ?hr ?_;(case hd => rfl);(case hg => rfl);(case hr => first | (go_simp;done) | (go_simp;rfl));intro gp hg W3 hbox hb;have Lgp : Aside0 (w.heap.size ≤ gp):=Aside0.mk (by rw [hg];exact below_size HB.out);have Ngr_gp : Aside0 (gr ≠ gp):=Aside0.mk (by rw [hg];exact Nat.ne_of_lt (blk_lt Kgr.out));have Ngp_gr : Aside0 (gp ≠ gr):=Aside0.mk (fun e => Ngr_gp.out e.symm);have Ngf_gp : Aside0 (gf ≠ gp):=Aside0.mk (by rw [hg];exact Nat.ne_of_lt (blk_lt Kgf.out));have Ngp_gf : Aside0 (gp ≠ gf):=Aside0.mk (fun e => Ngf_gp.out e.symm);replace Kgr:=Aside0.mk (blk_below Kgr.out hb);replace Kgf:=Aside0.mk (blk_below Kgf.out hb);replace HB : Aside0 (Below w.heap.size w W3):=Aside0.mk (below_step HB.out hb);clear kgr fgr kgf fgf hcv;have Kgp : Aside0 (W3.heap[gp]? = some (.cells #[.int .i64 0,.int .i64 0,.int .i64 0,.int .i64 0,.int .i64 0,.int .i64 0,.int .i64 0,.int .i64 0,.int .i64 0,.int .i64 0] 45 (0,0))):=Aside0.mk hbox;clear hb hbox hg;have kgr:=blk_cell Kgr.out;have fgr:=blk_frozen Kgr.out;have kgf:=blk_cell Kgf.out;have fgf:=blk_frozen Kgf.out;have kgp:=blk_cell Kgp.out;have fgp:=blk_frozen Kgp.out) | (go_at_call 76;replace HB : Aside0 (Below w.heap.size w W3):=HB;(with_reducible refine (bits_Read.calls 40 _ _ l0 4 n nx er _ ?qA11 ?qA12 A1.out).mono ?_);(case qA11 => exact Kd.C_below HR0.out HB.out);(case qA12 => exact HC0.out);rintro e W4 ⟨rfl,hd⟩;have hb:=Drawn0.below hd;clear hd;replace Kgr:=Aside0.mk (blk_below Kgr.out hb);replace Kgf:=Aside0.mk (blk_below Kgf.out hb);replace Kgp:=Aside0.mk (blk_below Kgp.out hb);replace HB : Aside0 (Below w.heap.size w W4):=Aside0.mk (below_step HB.out hb);clear kgr fgr kgf fgf kgp fgp;clear hb;have kgr:=blk_cell Kgr.out;have fgr:=blk_frozen Kgr.out;have kgf:=blk_cell Kgf.out;have fgf:=blk_frozen Kgf.out;have kgp:=blk_cell Kgp.out;have fgp:=blk_frozen Kgp.out) | ((with_reducible refine gate_store (t:=45) (p:=2) rfl ?_);replace HB : Aside0 (Below w.heap.size w W4):=HB;refine H.put_event (t:=45) (p:=2) (i:=0) rfl rfl rfl [.int .i64 0,.int .i64 0,.int .i64 0,.int .i64 0,.int .i64 0,.int .i64 0,.int .i64 0,.int .i64 0,.int .i64 0,.int .i64 0] Kgr.out rfl rfl (by kernel_rfl) (by kernel_rfl) (by kernel_rfl) ?_;intro W5 hw;replace Kgr : Aside0 (W5.heap[gr]? = some (.cells #[.int .i64 0,.int .i64 0,.int .i64 0,.int .i64 0,.int .i64 0,.int .i64 0,.int .i64 0,.int .i64 0,.int .i64 0,.int .i64 0] 45 (0,0))):=Aside0.mk (H.blk_fill hw Kgr.out (by kernel_rfl));replace Kgf:=Aside0.mk (H.far_fill hw Ngf_gr.out Kgf.out);replace Kgp:=Aside0.mk (H.far_fill hw Ngp_gr.out Kgp.out);replace HB : Aside0 (Below w.heap.size w W5):=Aside0.mk (H.below_fill hw Lgr.out HB.out);clear kgr fgr kgf fgf kgp fgp;clear hw;have kgr:=blk_cell Kgr.out;have fgr:=blk_frozen Kgr.out;have kgf:=blk_cell Kgf.out;have fgf:=blk_frozen Kgf.out;have kgp:=blk_cell Kgp.out;have fgp:=blk_frozen Kgp.out) | ((with_reducible refine gate_store (t:=50) (p:=4) rfl ?_);replace HB : Aside0 (Below w.heap.size w W5):=HB;refine H.put_event (t:=50) (p:=4) (i:=0) rfl rfl rfl [.int .i64 er,.int .i64 4] Kgf.out rfl rfl (by kernel_rfl) (by kernel_rfl) (by kernel_rfl) ?_;intro W6 hw;replace Kgr:=Aside0.mk (H.far_fill hw Ngr_gf.out Kgr.out);replace Kgf : Aside0 (W6.heap[gf]? = some (.cells #[.int .i64 er,.int .i64 4] 50 (0,0))):=Aside0.mk (H.blk_fill hw Kgf.out (by kernel_rfl));replace Kgp:=Aside0.mk (H.far_fill hw Ngp_gf.out Kgp.out);replace HB : Aside0 (Below w.heap.size w W6):=Aside0.mk (H.below_fill hw Lgf.out HB.out);clear kgr fgr kgf fgf kgp fgp;clear hw;have kgr:=blk_cell Kgr.out;have fgr:=blk_frozen Kgr.out;have kgf:=blk_cell Kgf.out;have fgf:=blk_frozen Kgf.out;have kgp:=blk_cell Kgp.out;have fgp:=blk_frozen Kgp.out))
 refine bodyPost_ret (results_ctc rfl _ _ gr gf 45 50 #[.int .i64 0,.int .i64 0,.int .i64 0,.int .i64 0,.int .i64 0,.int .i64 0,.int .i64 0,.int .i64 0,.int .i64 0,.int .i64 0] #[.int .i64 er,.int .i64 4] (0,0) (0,0) _ _ rfl Kgr.out Try.underlying45 rfl (by kernel_rfl) rfl Kgf.out Try.underlying50 rfl (by kernel_rfl)) rfl ?_
 exact ⟨rfl,HB.out⟩
set_option maxHeartbeats 4000000 in
set_option maxRecDepth 100000 in
theorem pread_f2 (A0 : Option Addr) (c0 : Nat) (l0 : List Int) (n nx : Int) (w : World) (hr0 : Kd.C (Kd.int .u8) w A0 l0.length l0) (hc0 : l0.length ≤ c0) (h4 : 4 ≤ l0.length) (hby : M.bytes l0 = true) (hS : l0.take 4 = Pol.reel) (h1 : bits_Read.f 40 l0 4 = some (n,nx,0)) (hn1 : n ≠ 1) (hn2 : n ≠ 2) :
  Calls Try.prog 43 #[.slice A0 l0.length c0] w fun e w' => e = .returned (.tuple #[.agg #[.int .i64 0,.int .i64 0,.int .i64 0,.int .i64 0,.int .i64 0,.int .i64 0,.int .i64 0,.int .i64 0,.int .i64 0,.int .i64 0],.int .i64 0,.agg #[.int .i64 40,.int .i64 4]]) ∧ Below w.heap.size w w':=by
 have A1:=Aside0.mk h1
 clear h1
 have hb1 : (n != 1) = true:=bne_iff_ne.2 hn1
 have hb2 : (n != 2) = true:=bne_iff_ne.2 hn2
 clear hn1 hn2
 have HR0:=Aside0.mk hr0
 have HC0:=Aside0.mk hc0
 have HB:=Aside0.mk (Below.refl w.heap.size w)
 have hlt : decide ((l0.length : Int) < 4) = false:=decide_eq_false (by omega)
 have hcut:=cut4 A0 l0.length c0 h4 hc0
 have H4:=Aside0.mk h4
 obtain ⟨sv,hsv⟩ : ∃ sv,sv = strOfNums (l0.take 4):=⟨_,rfl⟩
 have HS:=Aside0.mk hsv
 have hS1 : sv.toList = [82,69,69,76]:=by rw [hsv,reel_iff hby h4];exact hS
 clear hsv hS hr0 hc0 h4 hby
 go_enter Try.func43,Try.ntmps43
 go_wp2_with (first | ((with_reducible refine gate_dst (N:=2) rfl ?_);replace HB : Aside0 (Below w.heap.size w w):=HB;refine box_event ?hg (N:=2) ?hd (cs:=#[.int .i64 0,.int .i64 0,.int .i64 0,.int .i64 0,.int .i64 0,.int .i64 0,.int .i64 0,.int .i64 0,.int .i64 0,.int .i64 0]) (t:=45) ?hr ?_;(case hd => rfl);(case hg => rfl);(case hr => first | (go_simp;done) | (go_simp;rfl));intro gr hg W1 hbox hb;have Lgr : Aside0 (w.heap.size ≤ gr):=Aside0.mk (by rw [hg];exact below_size HB.out);replace HB : Aside0 (Below w.heap.size w W1):=Aside0.mk (below_step HB.out hb);have Kgr : Aside0 (W1.heap[gr]? = some (.cells #[.int .i64 0,.int .i64 0,.int .i64 0,.int .i64 0,.int .i64 0,.int .i64 0,.int .i64 0,.int .i64 0,.int .i64 0,.int .i64 0] 45 (0,0))):=Aside0.mk hbox;clear hb hbox hg;have kgr:=blk_cell Kgr.out;have fgr:=blk_frozen Kgr.out) | ((with_reducible refine gate_dst (N:=4) rfl ?_);replace HB : Aside0 (Below w.heap.size w W1):=HB;refine box_event ?hg (N:=4) ?hd (cs:=#[.int .i64 0,.int .i64 0]) (t:=50) ?hr ?_;(case hd => rfl);(case hg => rfl);(case hr => first | (go_simp;done) | (go_simp;rfl));intro gf hg W2 hbox hb;have Lgf : Aside0 (w.heap.size ≤ gf):=Aside0.mk (by rw [hg];exact below_size HB.out);have Ngr_gf : Aside0 (gr ≠ gf):=Aside0.mk (by rw [hg];exact Nat.ne_of_lt (blk_lt Kgr.out));have Ngf_gr : Aside0 (gf ≠ gr):=Aside0.mk (fun e => Ngr_gf.out e.symm);replace Kgr:=Aside0.mk (blk_below Kgr.out hb);replace HB : Aside0 (Below w.heap.size w W2):=Aside0.mk (below_step HB.out hb);clear kgr fgr;have Kgf : Aside0 (W2.heap[gf]? = some (.cells #[.int .i64 0,.int .i64 0] 50 (0,0))):=Aside0.mk hbox;clear hb hbox hg;have kgr:=blk_cell Kgr.out;have fgr:=blk_frozen Kgr.out;have kgf:=blk_cell Kgf.out;have fgf:=blk_frozen Kgf.out;have hcv:=conv4 (c:=c0) HS.out (Kd.C_below HR0.out HB.out) H4.out) | ((with_reducible refine gate_dst (N:=5) rfl ?_);replace HB : Aside0 (Below w.heap.size w W2):=HB;refine box_event ?hg (N:=5) ?hd (cs:=#[.int .i64 0,.int .i64 0,.int .i64 0,.int .i64 0,.int .i64 0,.int .i64 0,.int .i64 0,.int .i64 0,.int .i64 0,.int .i64 0]) (t:=45) ?hr ?_;(case hd => rfl);(case hg => rfl);(case hr => first | (go_simp;done) | (go_simp;rfl));intro gp hg W3 hbox hb;have Lgp : Aside0 (w.heap.size ≤ gp):=Aside0.mk (by rw [hg];exact below_size HB.out);have Ngr_gp : Aside0 (gr ≠ gp):=Aside0.mk (by rw [hg];exact Nat.ne_of_lt (blk_lt Kgr.out));have Ngp_gr : Aside0 (gp ≠ gr):=Aside0.mk (fun e => Ngr_gp.out e.symm);have Ngf_gp : Aside0 (gf ≠ gp):=Aside0.mk (by rw [hg];exact Nat.ne_of_lt (blk_lt Kgf.out));have Ngp_gf : Aside0 (gp ≠ gf):=Aside0.mk (fun e => Ngf_gp.out e.symm);replace Kgr:=Aside0.mk (blk_below Kgr.out hb);replace Kgf:=Aside0.mk (blk_below Kgf.out hb);replace HB : Aside0 (Below w.heap.size w W3):=Aside0.mk (below_step HB.out hb);clear kgr fgr kgf fgf hcv;have Kgp : Aside0 (W3.heap[gp]? = some (.cells #[.int .i64 0,.int .i64 0,.int .i64 0,.int .i64 0,.int .i64 0,.int .i64 0,.int .i64 0,.int .i64 0,.int .i64 0,.int .i64 0] 45 (0,0))):=Aside0.mk hbox;clear hb hbox hg;have kgr:=blk_cell Kgr.out;have fgr:=blk_frozen Kgr.out;have kgf:=blk_cell Kgf.out;have fgf:=blk_frozen Kgf.out;have kgp:=blk_cell Kgp.out;have fgp:=blk_frozen Kgp.out) | (go_at_call 76;replace HB : Aside0 (Below w.heap.size w W3):=HB;(with_reducible refine (bits_Read.calls 40 _ _ l0 4 n nx 0 _ ?qA11 ?qA12 A1.out).mono ?_);(case qA11 => exact Kd.C_below HR0.out HB.out);(case qA12 => exact HC0.out);rintro e W4 ⟨rfl,hd⟩;have hb:=Drawn0.below hd;clear hd;replace Kgr:=Aside0.mk (blk_below Kgr.out hb);replace Kgf:=Aside0.mk (blk_below Kgf.out hb);replace Kgp:=Aside0.mk (blk_below Kgp.out hb);replace HB : Aside0 (Below w.heap.size w W4):=Aside0.mk (below_step HB.out hb);clear kgr fgr kgf fgf kgp fgp;clear hb;have kgr:=blk_cell Kgr.out;have fgr:=blk_frozen Kgr.out;have kgf:=blk_cell Kgf.out;have fgf:=blk_frozen Kgf.out;have kgp:=blk_cell Kgp.out;have fgp:=blk_frozen Kgp.out) | ((with_reducible refine gate_store (t:=45) (p:=2) rfl ?_);replace HB : Aside0 (Below w.heap.size w W4):=HB;refine H.put_event (t:=45) (p:=2) (i:=0) rfl rfl rfl [.int .i64 0,.int .i64 0,.int .i64 0,.int .i64 0,.int .i64 0,.int .i64 0,.int .i64 0,.int .i64 0,.int .i64 0,.int .i64 0] Kgr.out rfl rfl (by kernel_rfl) (by kernel_rfl) (by kernel_rfl) ?_;intro W5 hw;replace Kgr : Aside0 (W5.heap[gr]? = some (.cells #[.int .i64 0,.int .i64 0,.int .i64 0,.int .i64 0,.int .i64 0,.int .i64 0,.int .i64 0,.int .i64 0,.int .i64 0,.int .i64 0] 45 (0,0))):=Aside0.mk (H.blk_fill hw Kgr.out (by kernel_rfl));replace Kgf:=Aside0.mk (H.far_fill hw Ngf_gr.out Kgf.out);replace Kgp:=Aside0.mk (H.far_fill hw Ngp_gr.out Kgp.out);replace HB : Aside0 (Below w.heap.size w W5):=Aside0.mk (H.below_fill hw Lgr.out HB.out);clear kgr fgr kgf fgf kgp fgp;clear hw;have kgr:=blk_cell Kgr.out;have fgr:=blk_frozen Kgr.out;have kgf:=blk_cell Kgf.out;have fgf:=blk_frozen Kgf.out;have kgp:=blk_cell Kgp.out;have fgp:=blk_frozen Kgp.out) | ((with_reducible refine gate_store (t:=50) (p:=4) rfl ?_);replace HB : Aside0 (Below w.heap.size w W5):=HB;refine H.put_event (t:=50) (p:=4) (i:=0) rfl rfl rfl [.int .i64 40,.int .i64 4] Kgf.out rfl rfl (by kernel_rfl) (by kernel_rfl) (by kernel_rfl) ?_;intro W6 hw;replace Kgr:=Aside0.mk (H.far_fill hw Ngr_gf.out Kgr.out);replace Kgf : Aside0 (W6.heap[gf]? = some (.cells #[.int .i64 40,.int .i64 4] 50 (0,0))):=Aside0.mk (H.blk_fill hw Kgf.out (by kernel_rfl));replace Kgp:=Aside0.mk (H.far_fill hw Ngp_gf.out Kgp.out);replace HB : Aside0 (Below w.heap.size w W6):=Aside0.mk (H.below_fill hw Lgf.out HB.out);clear kgr fgr kgf fgf kgp fgp;clear hw;have kgr:=blk_cell Kgr.out;have fgr:=blk_frozen Kgr.out;have kgf:=blk_cell Kgf.out;have fgf:=blk_frozen Kgf.out;have kgp:=blk_cell Kgp.out;have fgp:=blk_frozen Kgp.out))
 refine bodyPost_ret (results_ctc rfl _ _ gr gf 45 50 #[.int .i64 0,.int .i64 0,.int .i64 0,.int .i64 0,.int .i64 0,.int .i64 0,.int .i64 0,.int .i64 0,.int .i64 0,.int .i64 0] #[.int .i64 40,.int .i64 4] (0,0) (0,0) _ _ rfl Kgr.out Try.underlying45 rfl (by kernel_rfl) rfl Kgf.out Try.underlying50 rfl (by kernel_rfl)) rfl ?_
 exact ⟨rfl,HB.out⟩
set_option maxHeartbeats 4000000 in
set_option maxRecDepth 100000 in
theorem pread_loop1 (A0 : Option Addr) (c0 : Nat) (l0 : List Int) (nx : Int) (R : Pol.Py × Int × Int × Int) (w : World) (hr0 : Kd.C (Kd.int .u8) w A0 l0.length l0) (hc0 : l0.length ≤ c0) (h4 : 4 ≤ l0.length) (hby : M.bytes l0 = true) (hnl : (l0.length : Int) ≤ 4611686018427387904) (hS : l0.take 4 = Pol.reel) (h1 : bits_Read.f 40 l0 4 = some (1,nx,0)) (hx0 : 0 ≤ nx) (hx1 : nx ≤ l0.length) (hR : Pol.go l0 (Pol.flds1.drop 1) (Pol.zero.put 0 1) nx = R) :
  Calls Try.prog 43 #[.slice A0 l0.length c0] w fun e w' => e = .returned (.tuple #[.agg #[.int .i64 (R.1.kind),.int .i64 (R.1.cap),.int .i64 (R.1.num),.int .i64 (R.1.den),.int .i64 (R.1.width),.int .i64 (R.1.count),.int .i64 (R.1.keys),.int .i64 (R.1.slots),.int .i64 (R.1.every),.int .i64 (R.1.seg)],.int .i64 R.2.1,.agg #[.int .i64 R.2.2.1,.int .i64 R.2.2.2]]) ∧ Below w.heap.size w w':=by
 have A1:=Aside0.mk h1
 have HX:=Aside0.mk (show 0 ≤ nx ∧ nx ≤ (l0.length : Int) from ⟨hx0,hx1⟩)
 have HR:=Aside0.mk hR
 have HY:=Aside0.mk hby
 have HN:=Aside0.mk hnl
 clear h1 hR hx0 hx1
 have HR0:=Aside0.mk hr0
 have HC0:=Aside0.mk hc0
 have HB:=Aside0.mk (Below.refl w.heap.size w)
 have hlt : decide ((l0.length : Int) < 4) = false:=decide_eq_false (by omega)
 have hcut:=cut4 A0 l0.length c0 h4 hc0
 have H4:=Aside0.mk h4
 obtain ⟨sv,hsv⟩ : ∃ sv,sv = strOfNums (l0.take 4):=⟨_,rfl⟩
 have HS:=Aside0.mk hsv
 have hS1 : sv.toList = [82,69,69,76]:=by rw [hsv,reel_iff hby h4];exact hS
 clear hsv hS hr0 hc0 h4 hby hnl
 go_enter Try.func43,Try.ntmps43
 go_wp2_with (first | ((with_reducible refine gate_dst (N:=2) rfl ?_);replace HB : Aside0 (Below w.heap.size w w):=HB;refine box_event ?hg (N:=2) ?hd (cs:=#[.int .i64 0,.int .i64 0,.int .i64 0,.int .i64 0,.int .i64 0,.int .i64 0,.int .i64 0,.int .i64 0,.int .i64 0,.int .i64 0]) (t:=45) ?hr ?_;(case hd => rfl);(case hg => rfl);(case hr => first | (go_simp;done) | (go_simp;rfl));intro gr hg W1 hbox hb;have Lgr : Aside0 (w.heap.size ≤ gr):=Aside0.mk (by rw [hg];exact below_size HB.out);replace HB : Aside0 (Below w.heap.size w W1):=Aside0.mk (below_step HB.out hb);have Kgr : Aside0 (W1.heap[gr]? = some (.cells #[.int .i64 0,.int .i64 0,.int .i64 0,.int .i64 0,.int .i64 0,.int .i64 0,.int .i64 0,.int .i64 0,.int .i64 0,.int .i64 0] 45 (0,0))):=Aside0.mk hbox;clear hb hbox hg;have kgr:=blk_cell Kgr.out;have fgr:=blk_frozen Kgr.out) | ((with_reducible refine gate_dst (N:=4) rfl ?_);replace HB : Aside0 (Below w.heap.size w W1):=HB;refine box_event ?hg (N:=4) ?hd (cs:=#[.int .i64 0,.int .i64 0]) (t:=50) ?hr ?_;(case hd => rfl);(case hg => rfl);(case hr => first | (go_simp;done) | (go_simp;rfl));intro gf hg W2 hbox hb;have Lgf : Aside0 (w.heap.size ≤ gf):=Aside0.mk (by rw [hg];exact below_size HB.out);have Ngr_gf : Aside0 (gr ≠ gf):=Aside0.mk (by rw [hg];exact Nat.ne_of_lt (blk_lt Kgr.out));have Ngf_gr : Aside0 (gf ≠ gr):=Aside0.mk (fun e => Ngr_gf.out e.symm);replace Kgr:=Aside0.mk (blk_below Kgr.out hb);replace HB : Aside0 (Below w.heap.size w W2):=Aside0.mk (below_step HB.out hb);clear kgr fgr;have Kgf : Aside0 (W2.heap[gf]? = some (.cells #[.int .i64 0,.int .i64 0] 50 (0,0))):=Aside0.mk hbox;clear hb hbox hg;have kgr:=blk_cell Kgr.out;have fgr:=blk_frozen Kgr.out;have kgf:=blk_cell Kgf.out;have fgf:=blk_frozen Kgf.out;have hcv:=conv4 (c:=c0) HS.out (Kd.C_below HR0.out HB.out) H4.out) | ((with_reducible refine gate_dst (N:=5) rfl ?_);replace HB : Aside0 (Below w.heap.size w W2):=HB;refine box_event ?hg (N:=5) ?hd (cs:=#[.int .i64 0,.int .i64 0,.int .i64 0,.int .i64 0,.int .i64 0,.int .i64 0,.int .i64 0,.int .i64 0,.int .i64 0,.int .i64 0]) (t:=45) ?hr ?_;(case hd => rfl);(case hg => rfl);(case hr => first | (go_simp;done) | (go_simp;rfl));intro gp hg W3 hbox hb;have Lgp : Aside0 (w.heap.size ≤ gp):=Aside0.mk (by rw [hg];exact below_size HB.out);have Ngr_gp : Aside0 (gr ≠ gp):=Aside0.mk (by rw [hg];exact Nat.ne_of_lt (blk_lt Kgr.out));have Ngp_gr : Aside0 (gp ≠ gr):=Aside0.mk (fun e => Ngr_gp.out e.symm);have Ngf_gp : Aside0 (gf ≠ gp):=Aside0.mk (by rw [hg];exact Nat.ne_of_lt (blk_lt Kgf.out));have Ngp_gf : Aside0 (gp ≠ gf):=Aside0.mk (fun e => Ngf_gp.out e.symm);replace Kgr:=Aside0.mk (blk_below Kgr.out hb);replace Kgf:=Aside0.mk (blk_below Kgf.out hb);replace HB : Aside0 (Below w.heap.size w W3):=Aside0.mk (below_step HB.out hb);clear kgr fgr kgf fgf hcv;have Kgp : Aside0 (W3.heap[gp]? = some (.cells #[.int .i64 0,.int .i64 0,.int .i64 0,.int .i64 0,.int .i64 0,.int .i64 0,.int .i64 0,.int .i64 0,.int .i64 0,.int .i64 0] 45 (0,0))):=Aside0.mk hbox;clear hb hbox hg;have kgr:=blk_cell Kgr.out;have fgr:=blk_frozen Kgr.out;have kgf:=blk_cell Kgf.out;have fgf:=blk_frozen Kgf.out;have kgp:=blk_cell Kgp.out;have fgp:=blk_frozen Kgp.out) | (go_at_call 76;replace HB : Aside0 (Below w.heap.size w W3):=HB;(with_reducible refine (bits_Read.calls 40 _ _ l0 4 1 nx 0 _ ?qA11 ?qA12 A1.out).mono ?_);(case qA11 => exact Kd.C_below HR0.out HB.out);(case qA12 => exact HC0.out);rintro e W4 ⟨rfl,hd⟩;have hb:=Drawn0.below hd;clear hd;replace Kgr:=Aside0.mk (blk_below Kgr.out hb);replace Kgf:=Aside0.mk (blk_below Kgf.out hb);replace Kgp:=Aside0.mk (blk_below Kgp.out hb);replace HB : Aside0 (Below w.heap.size w W4):=Aside0.mk (below_step HB.out hb);clear kgr fgr kgf fgf kgp fgp;clear hb;have kgr:=blk_cell Kgr.out;have fgr:=blk_frozen Kgr.out;have kgf:=blk_cell Kgf.out;have fgf:=blk_frozen Kgf.out;have kgp:=blk_cell Kgp.out;have fgp:=blk_frozen Kgp.out) | ((with_reducible refine gate_store (t:=3) (p:=57) rfl ?_);replace HB : Aside0 (Below w.heap.size w W4):=HB;refine store_event (t:=3) (p:=57) (v:=?voW5) (w1:=(World.setCells W4 gp 0 [.int .i64 1])) ?hg ?ho ?hn ?hr ?_;(case ho => rfl);(case hg => rfl);(case hn => rfl);(case hr => go_simp;kernel_rfl);intro W5 hw;replace Kgr:=Aside0.mk (H.far_fill hw Ngr_gp.out Kgr.out);replace Kgf:=Aside0.mk (H.far_fill hw Ngf_gp.out Kgf.out);replace Kgp : Aside0 (W5.heap[gp]? = some (.cells #[.int .i64 1,.int .i64 0,.int .i64 0,.int .i64 0,.int .i64 0,.int .i64 0,.int .i64 0,.int .i64 0,.int .i64 0,.int .i64 0] 45 (0,0))):=Aside0.mk (H.blk_fill hw Kgp.out (by kernel_rfl));replace HB : Aside0 (Below w.heap.size w W5):=Aside0.mk (H.below_fill hw Lgp.out HB.out);clear kgr fgr kgf fgf kgp fgp;clear hw;have kgr:=blk_cell Kgr.out;have fgr:=blk_frozen Kgr.out;have kgf:=blk_cell Kgf.out;have fgf:=blk_frozen Kgf.out;have kgp:=blk_cell Kgp.out;have fgp:=blk_frozen Kgp.out) | (go_at_call 74;replace HB : Aside0 (Below w.heap.size w W5):=HB;(with_reducible refine (fields_1 gp _ ((blk_cell Kgp.out 0).trans rfl)).mono ?_);rintro e W6 ⟨rfl,hb⟩;replace Kgr:=Aside0.mk (blk_below Kgr.out hb);replace Kgf:=Aside0.mk (blk_below Kgf.out hb);replace Kgp:=Aside0.mk (blk_below Kgp.out hb);replace HB : Aside0 (Below w.heap.size w W6):=Aside0.mk (below_step HB.out hb);clear kgr fgr kgf fgf kgp fgp;clear hb;have kgr:=blk_cell Kgr.out;have fgr:=blk_frozen Kgr.out;have kgf:=blk_cell Kgf.out;have fgf:=blk_frozen Kgf.out;have kgp:=blk_cell Kgp.out;have fgp:=blk_frozen Kgp.out) | ((with_reducible refine gate_dst (N:=10) rfl ?_);replace HB : Aside0 (Below w.heap.size w W6):=HB;refine box_event ?hg (N:=10) ?hd (cs:=#[.pointer none,.int .i64 0,.int .i64 0,.pointer none,.int .i64 0,.int .i64 0,.pointer none,.int .i64 0,.int .i64 0,.pointer none,.int .i64 0,.int .i64 0,.pointer none,.int .i64 0,.int .i64 0,.pointer none,.int .i64 0,.int .i64 0,.pointer none,.int .i64 0,.int .i64 0,.pointer none,.int .i64 0,.int .i64 0]) (t:=95) ?hr ?_;(case hd => rfl);(case hg => rfl);(case hr => first | (go_simp;done) | (go_simp;rfl));intro gl hg W7 hbox hb;have Lgl : Aside0 (w.heap.size ≤ gl):=Aside0.mk (by rw [hg];exact below_size HB.out);have Ngr_gl : Aside0 (gr ≠ gl):=Aside0.mk (by rw [hg];exact Nat.ne_of_lt (blk_lt Kgr.out));have Ngl_gr : Aside0 (gl ≠ gr):=Aside0.mk (fun e => Ngr_gl.out e.symm);have Ngf_gl : Aside0 (gf ≠ gl):=Aside0.mk (by rw [hg];exact Nat.ne_of_lt (blk_lt Kgf.out));have Ngl_gf : Aside0 (gl ≠ gf):=Aside0.mk (fun e => Ngf_gl.out e.symm);have Ngp_gl : Aside0 (gp ≠ gl):=Aside0.mk (by rw [hg];exact Nat.ne_of_lt (blk_lt Kgp.out));have Ngl_gp : Aside0 (gl ≠ gp):=Aside0.mk (fun e => Ngp_gl.out e.symm);replace Kgr:=Aside0.mk (blk_below Kgr.out hb);replace Kgf:=Aside0.mk (blk_below Kgf.out hb);replace Kgp:=Aside0.mk (blk_below Kgp.out hb);replace HB : Aside0 (Below w.heap.size w W7):=Aside0.mk (below_step HB.out hb);clear kgr fgr kgf fgf kgp fgp;have Kgl : Aside0 (W7.heap[gl]? = some (.cells #[.pointer none,.int .i64 0,.int .i64 0,.pointer none,.int .i64 0,.int .i64 0,.pointer none,.int .i64 0,.int .i64 0,.pointer none,.int .i64 0,.int .i64 0,.pointer none,.int .i64 0,.int .i64 0,.pointer none,.int .i64 0,.int .i64 0,.pointer none,.int .i64 0,.int .i64 0,.pointer none,.int .i64 0,.int .i64 0] 95 (0,0))):=Aside0.mk hbox;clear hb hbox hg;have kgr:=blk_cell Kgr.out;have fgr:=blk_frozen Kgr.out;have kgf:=blk_cell Kgf.out;have fgf:=blk_frozen Kgf.out;have kgp:=blk_cell Kgp.out;have fgp:=blk_frozen Kgp.out;have kgl:=blk_cell Kgl.out;have fgl:=blk_frozen Kgl.out) | ((with_reducible refine gate_store (t:=95) (p:=10) rfl ?_);replace HB : Aside0 (Below w.heap.size w W7):=HB;refine H.put_event (t:=95) (p:=10) (i:=0) rfl rfl rfl [.pointer (some ⟨gp,0,none⟩),.int .i64 1,.int .i64 2,.pointer (some ⟨gp,1,none⟩),.int .i64 1,.int .i64 1048576,.pointer (some ⟨gp,2,none⟩),.int .i64 1,.int .i64 65536,.pointer (some ⟨gp,3,none⟩),.int .i64 1,.int .i64 65536,.pointer (some ⟨gp,6,none⟩),.int .i64 1,.int .i64 1000,.pointer (some ⟨gp,7,none⟩),.int .i64 1,.int .i64 64,.pointer (some ⟨gp,8,none⟩),.int .i64 0,.int .i64 1000,.pointer (some ⟨gp,9,none⟩),.int .i64 1,.int .i64 1000] Kgl.out rfl rfl (by kernel_rfl) (by kernel_rfl) (by kernel_rfl) ?_;intro W8 hw;replace Kgr:=Aside0.mk (H.far_fill hw Ngr_gl.out Kgr.out);replace Kgf:=Aside0.mk (H.far_fill hw Ngf_gl.out Kgf.out);replace Kgp:=Aside0.mk (H.far_fill hw Ngp_gl.out Kgp.out);replace Kgl : Aside0 (W8.heap[gl]? = some (.cells #[.pointer (some ⟨gp,0,none⟩),.int .i64 1,.int .i64 2,.pointer (some ⟨gp,1,none⟩),.int .i64 1,.int .i64 1048576,.pointer (some ⟨gp,2,none⟩),.int .i64 1,.int .i64 65536,.pointer (some ⟨gp,3,none⟩),.int .i64 1,.int .i64 65536,.pointer (some ⟨gp,6,none⟩),.int .i64 1,.int .i64 1000,.pointer (some ⟨gp,7,none⟩),.int .i64 1,.int .i64 64,.pointer (some ⟨gp,8,none⟩),.int .i64 0,.int .i64 1000,.pointer (some ⟨gp,9,none⟩),.int .i64 1,.int .i64 1000] 95 (0,0))):=Aside0.mk (H.blk_fill hw Kgl.out (by kernel_rfl));replace HB : Aside0 (Below w.heap.size w W8):=Aside0.mk (H.below_fill hw Lgl.out HB.out);clear kgr fgr kgf fgf kgp fgp kgl fgl;clear hw;have kgr:=blk_cell Kgr.out;have fgr:=blk_frozen Kgr.out;have kgf:=blk_cell Kgf.out;have fgf:=blk_frozen Kgf.out;have kgp:=blk_cell Kgp.out;have fgp:=blk_frozen Kgp.out;have kgl:=blk_cell Kgl.out;have fgl:=blk_frozen Kgl.out))
 clear kgr fgr kgf fgf kgp fgp kgl fgl hcut hS1
 have KP : Aside0 (PB W8 gp (Pol.zero.put 0 1)):=Aside0.mk Kgp.out
 clear Kgp HS H4
 go_loopg [6,64] 8 (fun kq v6 v64 w' => ∃ (j : Nat) (a : Int) (p : Pol.Py),v64 = .int .i64 (j : Int) ∧ v6 = .int .i64 a ∧ Aside0 (j ≤ 7 ∧ 7 < kq + j) ∧ Aside0 (0 ≤ a ∧ a ≤ (l0.length : Int)) ∧ Aside0 (Pol.go l0 (Pol.flds1.drop (j + 1)) p a = R) ∧ Aside0 (w'.heap[gr]? = some (.cells #[.int .i64 0,.int .i64 0,.int .i64 0,.int .i64 0,.int .i64 0,.int .i64 0,.int .i64 0,.int .i64 0,.int .i64 0,.int .i64 0] 45 (0,0))) ∧ Aside0 (w'.heap[gf]? = some (.cells #[.int .i64 0,.int .i64 0] 50 (0,0))) ∧ Aside0 (PB w' gp p) ∧ Aside0 (w'.heap[gl]? = some (.cells #[.pointer (some ⟨gp,0,none⟩),.int .i64 1,.int .i64 2,.pointer (some ⟨gp,1,none⟩),.int .i64 1,.int .i64 1048576,.pointer (some ⟨gp,2,none⟩),.int .i64 1,.int .i64 65536,.pointer (some ⟨gp,3,none⟩),.int .i64 1,.int .i64 65536,.pointer (some ⟨gp,6,none⟩),.int .i64 1,.int .i64 1000,.pointer (some ⟨gp,7,none⟩),.int .i64 1,.int .i64 64,.pointer (some ⟨gp,8,none⟩),.int .i64 0,.int .i64 1000,.pointer (some ⟨gp,9,none⟩),.int .i64 1,.int .i64 1000] 95 (0,0))) ∧ Aside0 (Below w.heap.size w w'))
 case atStart => exact ⟨0,nx,_,rfl,rfl,⟨by decide,by decide⟩,HX,HR,Kgr,Kgf,KP,Kgl,HB⟩
 case round =>
  clear HB Kgr Kgf KP Kgl HX HR A1
  obtain ⟨j,a,p,rfl,rfl,hj,HX,HR,Kgr,Kgf,KP,Kgl,HB⟩:=hrel
  obtain ⟨j1,j2⟩:=hj.out
  clear hj
  by_cases hlt : j < 7
  ·obtain ⟨ofs,lo,hi,hf,hof0,hof,hex⟩:=el_at1 gp j hlt
   have hgo:=Pol.go_at (l:=l0) hf p a
   rw [HR.out] at hgo
   have hbr:=Pure.bread HY.out HN.out a (k:=40) (by decide)
   have hnx:=fun h => Pure.readn_next HY.out (a:=a) h
   generalize Pure.readn l0 a = q at hgo hbr hnx
   obtain ⟨n,m,er⟩:=q
   simp only at hgo hnx
   have Hx:=Aside0.mk hex
   have Hg:=Aside0.mk hgo
   have A2:=Aside0.mk hbr
   have Hm:=Aside0.mk hnx
   have Ho:=Aside0.mk hof
   have JL:=Aside0.mk hlt
   have J2:=Aside0.mk j2
   have hlt' : decide ((j : Int) < 7) = true:=decide_eq_true (by omega)
   have hj0 : (0 : Int) ≤ (j : Int):=by omega
   have hj7 : (j : Int) ≤ 6:=by omega
   clear hex hgo hbr hnx hf hof hof0 j1 j2 hlt HR
   by_cases he : er = 0
   ·subst he
    go_wp2_with (first | ((with_reducible refine gate_dst (N:=66) rfl ?_);refine iaddr_event (t:=102) (e:=94) (x:=62) (y:=64) (N:=66) (j:=j) rfl rfl rfl rfl rfl Try.underlying102 (by kernel_rfl) JL.out ?_) | ((with_reducible refine gate_dst (N:=67) rfl ?_);refine get_event (t:=94) (x:=66) (N:=67) rfl rfl rfl [.pointer (some ⟨gp,ofs,none⟩),.int .i64 lo,.int .i64 hi] Kgl.out rfl Hx.out Try.underlying94 rfl (by kernel_rfl) ?_) | ((with_reducible refine gate_dst (N:=13) rfl ?_);replace HB : Aside0 (Below w.heap.size w wr):=HB;refine box_event ?hg (N:=13) ?hd (cs:=#[.pointer none,.int .i64 0,.int .i64 0]) (t:=94) ?hr ?_;(case hd => rfl);(case hg => rfl);(case hr => first | (go_simp;done) | (go_simp;rfl));intro gx hg W101 hbox hb;have Lgx : Aside0 (w.heap.size ≤ gx):=Aside0.mk (by rw [hg];exact below_size HB.out);have Ngr_gx : Aside0 (gr ≠ gx):=Aside0.mk (by rw [hg];exact Nat.ne_of_lt (blk_lt Kgr.out));have Ngx_gr : Aside0 (gx ≠ gr):=Aside0.mk (fun e => Ngr_gx.out e.symm);have Ngf_gx : Aside0 (gf ≠ gx):=Aside0.mk (by rw [hg];exact Nat.ne_of_lt (blk_lt Kgf.out));have Ngx_gf : Aside0 (gx ≠ gf):=Aside0.mk (fun e => Ngf_gx.out e.symm);have Ngl_gx : Aside0 (gl ≠ gx):=Aside0.mk (by rw [hg];exact Nat.ne_of_lt (blk_lt Kgl.out));have Ngx_gl : Aside0 (gx ≠ gl):=Aside0.mk (fun e => Ngl_gx.out e.symm);have Ngp_gx : Aside0 (gp ≠ gx):=Aside0.mk (by rw [hg];exact Nat.ne_of_lt (blk_lt KP.out));have Ngx_gp : Aside0 (gx ≠ gp):=Aside0.mk (fun e => Ngp_gx.out e.symm);replace Kgr:=Aside0.mk (blk_below Kgr.out hb);replace Kgf:=Aside0.mk (blk_below Kgf.out hb);replace Kgl:=Aside0.mk (blk_below Kgl.out hb);replace KP:=Aside0.mk (PB.below KP.out hb);replace HB : Aside0 (Below w.heap.size w W101):=Aside0.mk (below_step HB.out hb);have Kgx : Aside0 (W101.heap[gx]? = some (.cells #[.pointer none,.int .i64 0,.int .i64 0] 94 (0,0))):=Aside0.mk hbox;clear hb hbox hg;have kgr:=blk_cell Kgr.out;have fgr:=blk_frozen Kgr.out;have kgf:=blk_cell Kgf.out;have fgf:=blk_frozen Kgf.out;have kgx:=blk_cell Kgx.out;have fgx:=blk_frozen Kgx.out) | ((with_reducible refine gate_store (t:=94) (p:=13) rfl ?_);replace HB : Aside0 (Below w.heap.size w W101):=HB;refine H.put_event (t:=94) (p:=13) (i:=0) rfl rfl rfl [.pointer (some ⟨gp,ofs,none⟩),.int .i64 lo,.int .i64 hi] Kgx.out rfl rfl (by kernel_rfl) (by kernel_rfl) (by kernel_rfl) ?_;intro W102 hw;replace Kgr:=Aside0.mk (H.far_fill hw Ngr_gx.out Kgr.out);replace Kgf:=Aside0.mk (H.far_fill hw Ngf_gx.out Kgf.out);replace Kgl:=Aside0.mk (H.far_fill hw Ngl_gx.out Kgl.out);replace Kgx : Aside0 (W102.heap[gx]? = some (.cells #[.pointer (some ⟨gp,ofs,none⟩),.int .i64 lo,.int .i64 hi] 94 (0,0))):=Aside0.mk (H.blk_fill hw Kgx.out (by kernel_rfl));replace KP:=Aside0.mk (PB.far KP.out hw Ngp_gx.out);replace HB : Aside0 (Below w.heap.size w W102):=Aside0.mk (H.below_fill hw Lgx.out HB.out);clear kgr fgr kgf fgf kgx fgx;clear hw;have kgr:=blk_cell Kgr.out;have fgr:=blk_frozen Kgr.out;have kgf:=blk_cell Kgf.out;have fgf:=blk_frozen Kgf.out;have kgx:=blk_cell Kgx.out;have fgx:=blk_frozen Kgx.out) | (go_at_call 76;replace HB : Aside0 (Below w.heap.size w W102):=HB;(with_reducible refine (bits_Read.calls 40 _ _ l0 a n m 0 _ ?qA21 ?qA22 A2.out).mono ?_);(case qA21 => exact Kd.C_below HR0.out HB.out);(case qA22 => exact HC0.out);rintro e W103 ⟨rfl,hd⟩;have hb:=Drawn0.below hd;clear hd;replace Kgr:=Aside0.mk (blk_below Kgr.out hb);replace Kgf:=Aside0.mk (blk_below Kgf.out hb);replace Kgl:=Aside0.mk (blk_below Kgl.out hb);replace Kgx:=Aside0.mk (blk_below Kgx.out hb);replace KP:=Aside0.mk (PB.below KP.out hb);replace HB : Aside0 (Below w.heap.size w W103):=Aside0.mk (below_step HB.out hb);clear kgr fgr kgf fgf kgx fgx;clear hb;have kgr:=blk_cell Kgr.out;have fgr:=blk_frozen Kgr.out;have kgf:=blk_cell Kgf.out;have fgf:=blk_frozen Kgf.out;have kgx:=blk_cell Kgx.out;have fgx:=blk_frozen Kgx.out;have kx:=PB.cell KP.out Ho.out;have fx:=blk_frozen KP.out) | ((with_reducible refine gate_store (t:=3) (p:=85) rfl ?_);refine store_event (t:=3) (p:=85) (v:=?vo85) (w1:=World.setCell W103 ⟨gp,ofs,none⟩ (.int .i64 n)) ?hg ?ho ?hn ?hr ?_;(case ho => rfl);(case hg => rfl);(case hn => rfl);(case hr => go_simp;done);intro W104 hw;have nP:=Aside0.mk (PB.put KP.out Ho.out hw);replace Kgr:=Aside0.mk (blk_far1 hw Ngr_gp.out Kgr.out);replace Kgf:=Aside0.mk (blk_far1 hw Ngf_gp.out Kgf.out);replace Kgl:=Aside0.mk (blk_far1 hw Ngl_gp.out Kgl.out);replace Kgx:=Aside0.mk (blk_far1 hw Ngx_gp.out Kgx.out);replace HB : Aside0 (Below w.heap.size w W104):=Aside0.mk (by rw [hw];exact below_set HB.out Lgp.out);clear kgr fgr kgf fgf kgx fgx kx fx;clear KP;have KP:=nP;clear nP hw))
    go_roundg (gk - 1)
    case measure => have:=J2.out;have:=JL.out;omega
    case rel =>
     have e9:=Hg.out
     rw [if_pos trivial] at e9
     have e8:=Hm.out trivial
     exact ⟨j + 1,m,_,by go_num,rfl,⟨by have:=JL.out;omega,by have:=J2.out;have:=JL.out;omega⟩,⟨⟨by have:=HX.out;omega,by omega⟩⟩,⟨e9.symm⟩,Kgr,Kgf,KP,Kgl,HB⟩
   ·have HE:=Aside0.mk he
    go_wp2_with (first | ((with_reducible refine gate_dst (N:=66) rfl ?_);refine iaddr_event (t:=102) (e:=94) (x:=62) (y:=64) (N:=66) (j:=j) rfl rfl rfl rfl rfl Try.underlying102 (by kernel_rfl) JL.out ?_) | ((with_reducible refine gate_dst (N:=67) rfl ?_);refine get_event (t:=94) (x:=66) (N:=67) rfl rfl rfl [.pointer (some ⟨gp,ofs,none⟩),.int .i64 lo,.int .i64 hi] Kgl.out rfl Hx.out Try.underlying94 rfl (by kernel_rfl) ?_) | ((with_reducible refine gate_dst (N:=13) rfl ?_);replace HB : Aside0 (Below w.heap.size w wr):=HB;refine box_event ?hg (N:=13) ?hd (cs:=#[.pointer none,.int .i64 0,.int .i64 0]) (t:=94) ?hr ?_;(case hd => rfl);(case hg => rfl);(case hr => first | (go_simp;done) | (go_simp;rfl));intro gx hg W101 hbox hb;have Lgx : Aside0 (w.heap.size ≤ gx):=Aside0.mk (by rw [hg];exact below_size HB.out);have Ngr_gx : Aside0 (gr ≠ gx):=Aside0.mk (by rw [hg];exact Nat.ne_of_lt (blk_lt Kgr.out));have Ngx_gr : Aside0 (gx ≠ gr):=Aside0.mk (fun e => Ngr_gx.out e.symm);have Ngf_gx : Aside0 (gf ≠ gx):=Aside0.mk (by rw [hg];exact Nat.ne_of_lt (blk_lt Kgf.out));have Ngx_gf : Aside0 (gx ≠ gf):=Aside0.mk (fun e => Ngf_gx.out e.symm);have Ngl_gx : Aside0 (gl ≠ gx):=Aside0.mk (by rw [hg];exact Nat.ne_of_lt (blk_lt Kgl.out));have Ngx_gl : Aside0 (gx ≠ gl):=Aside0.mk (fun e => Ngl_gx.out e.symm);have Ngp_gx : Aside0 (gp ≠ gx):=Aside0.mk (by rw [hg];exact Nat.ne_of_lt (blk_lt KP.out));have Ngx_gp : Aside0 (gx ≠ gp):=Aside0.mk (fun e => Ngp_gx.out e.symm);replace Kgr:=Aside0.mk (blk_below Kgr.out hb);replace Kgf:=Aside0.mk (blk_below Kgf.out hb);replace Kgl:=Aside0.mk (blk_below Kgl.out hb);replace KP:=Aside0.mk (PB.below KP.out hb);replace HB : Aside0 (Below w.heap.size w W101):=Aside0.mk (below_step HB.out hb);have Kgx : Aside0 (W101.heap[gx]? = some (.cells #[.pointer none,.int .i64 0,.int .i64 0] 94 (0,0))):=Aside0.mk hbox;clear hb hbox hg;have kgr:=blk_cell Kgr.out;have fgr:=blk_frozen Kgr.out;have kgf:=blk_cell Kgf.out;have fgf:=blk_frozen Kgf.out;have kgx:=blk_cell Kgx.out;have fgx:=blk_frozen Kgx.out) | ((with_reducible refine gate_store (t:=94) (p:=13) rfl ?_);replace HB : Aside0 (Below w.heap.size w W101):=HB;refine H.put_event (t:=94) (p:=13) (i:=0) rfl rfl rfl [.pointer (some ⟨gp,ofs,none⟩),.int .i64 lo,.int .i64 hi] Kgx.out rfl rfl (by kernel_rfl) (by kernel_rfl) (by kernel_rfl) ?_;intro W102 hw;replace Kgr:=Aside0.mk (H.far_fill hw Ngr_gx.out Kgr.out);replace Kgf:=Aside0.mk (H.far_fill hw Ngf_gx.out Kgf.out);replace Kgl:=Aside0.mk (H.far_fill hw Ngl_gx.out Kgl.out);replace Kgx : Aside0 (W102.heap[gx]? = some (.cells #[.pointer (some ⟨gp,ofs,none⟩),.int .i64 lo,.int .i64 hi] 94 (0,0))):=Aside0.mk (H.blk_fill hw Kgx.out (by kernel_rfl));replace KP:=Aside0.mk (PB.far KP.out hw Ngp_gx.out);replace HB : Aside0 (Below w.heap.size w W102):=Aside0.mk (H.below_fill hw Lgx.out HB.out);clear kgr fgr kgf fgf kgx fgx;clear hw;have kgr:=blk_cell Kgr.out;have fgr:=blk_frozen Kgr.out;have kgf:=blk_cell Kgf.out;have fgf:=blk_frozen Kgf.out;have kgx:=blk_cell Kgx.out;have fgx:=blk_frozen Kgx.out) | (go_at_call 76;replace HB : Aside0 (Below w.heap.size w W102):=HB;(with_reducible refine (bits_Read.calls 40 _ _ l0 a n m er _ ?qA21 ?qA22 A2.out).mono ?_);(case qA21 => exact Kd.C_below HR0.out HB.out);(case qA22 => exact HC0.out);rintro e W103 ⟨rfl,hd⟩;have hb:=Drawn0.below hd;clear hd;replace Kgr:=Aside0.mk (blk_below Kgr.out hb);replace Kgf:=Aside0.mk (blk_below Kgf.out hb);replace Kgl:=Aside0.mk (blk_below Kgl.out hb);replace Kgx:=Aside0.mk (blk_below Kgx.out hb);replace KP:=Aside0.mk (PB.below KP.out hb);replace HB : Aside0 (Below w.heap.size w W103):=Aside0.mk (below_step HB.out hb);clear kgr fgr kgf fgf kgx fgx;clear hb;have kgr:=blk_cell Kgr.out;have fgr:=blk_frozen Kgr.out;have kgf:=blk_cell Kgf.out;have fgf:=blk_frozen Kgf.out;have kgx:=blk_cell Kgx.out;have fgx:=blk_frozen Kgx.out) | ((with_reducible refine gate_store (t:=45) (p:=2) rfl ?_);replace HB : Aside0 (Below w.heap.size w W103):=HB;refine H.put_event (t:=45) (p:=2) (i:=0) rfl rfl rfl [.int .i64 0,.int .i64 0,.int .i64 0,.int .i64 0,.int .i64 0,.int .i64 0,.int .i64 0,.int .i64 0,.int .i64 0,.int .i64 0] Kgr.out rfl rfl (by kernel_rfl) (by kernel_rfl) (by kernel_rfl) ?_;intro W104 hw;replace Kgr : Aside0 (W104.heap[gr]? = some (.cells #[.int .i64 0,.int .i64 0,.int .i64 0,.int .i64 0,.int .i64 0,.int .i64 0,.int .i64 0,.int .i64 0,.int .i64 0,.int .i64 0] 45 (0,0))):=Aside0.mk (H.blk_fill hw Kgr.out (by kernel_rfl));replace Kgf:=Aside0.mk (H.far_fill hw Ngf_gr.out Kgf.out);replace Kgl:=Aside0.mk (H.far_fill hw Ngl_gr.out Kgl.out);replace Kgx:=Aside0.mk (H.far_fill hw Ngx_gr.out Kgx.out);replace KP:=Aside0.mk (PB.far KP.out hw Ngp_gr.out);replace HB : Aside0 (Below w.heap.size w W104):=Aside0.mk (H.below_fill hw Lgr.out HB.out);clear kgr fgr kgf fgf kgx fgx;clear hw;have kgr:=blk_cell Kgr.out;have fgr:=blk_frozen Kgr.out;have kgf:=blk_cell Kgf.out;have fgf:=blk_frozen Kgf.out;have kgx:=blk_cell Kgx.out;have fgx:=blk_frozen Kgx.out) | ((with_reducible refine gate_store (t:=50) (p:=4) rfl ?_);replace HB : Aside0 (Below w.heap.size w W104):=HB;refine H.put_event (t:=50) (p:=4) (i:=0) rfl rfl rfl [.int .i64 er,.int .i64 a] Kgf.out rfl rfl (by kernel_rfl) (by kernel_rfl) (by kernel_rfl) ?_;intro W105 hw;replace Kgr:=Aside0.mk (H.far_fill hw Ngr_gf.out Kgr.out);replace Kgf : Aside0 (W105.heap[gf]? = some (.cells #[.int .i64 er,.int .i64 a] 50 (0,0))):=Aside0.mk (H.blk_fill hw Kgf.out (by kernel_rfl));replace Kgl:=Aside0.mk (H.far_fill hw Ngl_gf.out Kgl.out);replace Kgx:=Aside0.mk (H.far_fill hw Ngx_gf.out Kgx.out);replace KP:=Aside0.mk (PB.far KP.out hw Ngp_gf.out);replace HB : Aside0 (Below w.heap.size w W105):=Aside0.mk (H.below_fill hw Lgf.out HB.out);clear kgr fgr kgf fgf kgx fgx;clear hw;have kgr:=blk_cell Kgr.out;have fgr:=blk_frozen Kgr.out;have kgf:=blk_cell Kgf.out;have fgf:=blk_frozen Kgf.out;have kgx:=blk_cell Kgx.out;have fgx:=blk_frozen Kgx.out))
    have e9:=Hg.out
    rw [if_neg HE.out] at e9
    rw [e9]
    refine bodyPost_ret (results_ctc rfl _ _ gr gf 45 50 #[.int .i64 0,.int .i64 0,.int .i64 0,.int .i64 0,.int .i64 0,.int .i64 0,.int .i64 0,.int .i64 0,.int .i64 0,.int .i64 0] #[.int .i64 er,.int .i64 a] (0,0) (0,0) _ _ rfl Kgr.out Try.underlying45 rfl (by kernel_rfl) rfl Kgf.out Try.underlying50 rfl (by kernel_rfl)) rfl ?_
    exact ⟨rfl,HB.out⟩
  ·obtain rfl : 7 = j:=by omega
   clear hlt j1 j2
   obtain ⟨a0,a1⟩:=HX.out
   have hgo:=HR.out
   rw [show Pol.flds1.drop (7 + 1) = [] from rfl] at hgo
   change Pol.tail l0 p a = R at hgo
   unfold Pol.tail at hgo
   have cR:=fun w => right_ext p w
   have Kgp : Aside0 (wr.heap[gp]? = some (.cells #[.int .i64 (p.kind),.int .i64 (p.cap),.int .i64 (p.num),.int .i64 (p.den),.int .i64 (p.width),.int .i64 (p.count),.int .i64 (p.keys),.int .i64 (p.slots),.int .i64 (p.every),.int .i64 (p.seg)] 45 (0,0))):=Aside0.mk KP.out
   clear KP HR
   by_cases c1 : Pol.ok p = true
   ·rw [if_pos c1] at hgo
    rw [c1] at cR
    simp only [if_true] at cR
    have hrd:=Pure.read6 (l:=l0) (i:=a) 39 HY.out HN.out (by omega) (by have:=HN.out;omega)
    generalize M.rd6 l0 a = q at hgo hrd
    obtain ⟨s1,s2,m,er⟩:=q
    simp only at hgo
    have htb : M.bytes (l0.take a.toNat) = true:=by
     have:=HY.out
     unfold M.bytes at this ⊢
     rw [List.all_eq_true] at this ⊢
     exact fun z hz => this z (List.mem_of_mem_take hz)
    have hadd : seal_Add.f 1 2 (l0.take a.toNat) = some ((M.add (1,2) (l0.take a.toNat)).1,(M.add (1,2) (l0.take a.toNat)).2,0):=Pure.add_ok (by decide) htb (by have:=HN.out;rw [List.length_take];omega)
    have hcut2:=cutn A0 l0 c0 a a0 a1 HC0.out
    have TL:=Aside0.mk (show a.toNat ≤ l0.length by omega)
    generalize hT : l0.take a.toNat = tl at hcut2 hadd hgo htb
    have HT:=Aside0.mk hT
    clear hT
    generalize M.add (1,2) tl = du at hgo hadd
    obtain ⟨d1,d2⟩:=du
    have A3:=Aside0.mk hrd
    have HA:=Aside0.mk hadd
    clear hrd hadd htb a0 a1 c1
    have hu23:=Try.underlying23
    have Hgo:=Aside0.mk hgo
    clear hgo
    go_wp2_with (first | ((with_reducible refine gate_dst (N:=87) rfl ?_);replace HB : Aside0 (Below w.heap.size w wr):=HB;refine H.get_event (t:=45) (x:=5) (N:=87) (i:=0) rfl rfl rfl [.int .i64 (p.kind),.int .i64 (p.cap),.int .i64 (p.num),.int .i64 (p.den),.int .i64 (p.width),.int .i64 (p.count),.int .i64 (p.keys),.int .i64 (p.slots),.int .i64 (p.every),.int .i64 (p.seg)] Kgp.out rfl (by kernel_rfl) Try.underlying45 rfl (by kernel_rfl) ?_) | (go_at_call 64;replace HB : Aside0 (Below w.heap.size w wr):=HB;(with_reducible refine (cR _).mono ?_);rintro e W201 ⟨rfl,hb⟩;replace Kgr:=Aside0.mk (blk_below Kgr.out hb);replace Kgf:=Aside0.mk (blk_below Kgf.out hb);replace Kgl:=Aside0.mk (blk_below Kgl.out hb);replace Kgp:=Aside0.mk (blk_below Kgp.out hb);replace HB : Aside0 (Below w.heap.size w W201):=Aside0.mk (below_step HB.out hb);clear hb;have kgr:=blk_cell Kgr.out;have fgr:=blk_frozen Kgr.out;have kgf:=blk_cell Kgf.out;have fgf:=blk_frozen Kgf.out;have kgp:=blk_cell Kgp.out;have fgp:=blk_frozen Kgp.out) | (go_at_call 37;replace HB : Aside0 (Below w.heap.size w W201):=HB;(with_reducible refine (seal_Read.calls 40 _ _ l0 a s1 s2 m er _ ?u1 ?u2 A3.out).mono ?_);(case u1 => exact Kd.C_below HR0.out HB.out);(case u2 => exact HC0.out);rintro e W202 ⟨rfl,hb⟩;replace Kgr:=Aside0.mk (blk_below Kgr.out hb);replace Kgf:=Aside0.mk (blk_below Kgf.out hb);replace Kgl:=Aside0.mk (blk_below Kgl.out hb);replace Kgp:=Aside0.mk (blk_below Kgp.out hb);replace HB : Aside0 (Below w.heap.size w W202):=Aside0.mk (below_step HB.out hb);clear kgr fgr kgf fgf kgp fgp;clear hb;have kgr:=blk_cell Kgr.out;have fgr:=blk_frozen Kgr.out;have kgf:=blk_cell Kgf.out;have fgf:=blk_frozen Kgf.out;have kgp:=blk_cell Kgp.out;have fgp:=blk_frozen Kgp.out) | ((with_reducible refine gate_dst (N:=18) rfl ?_);replace HB : Aside0 (Below w.heap.size w W202):=HB;refine box_event ?hg (N:=18) ?hd (cs:=#[.int .i64 0,.int .i64 0]) (t:=23) ?hr ?_;(case hd => rfl);(case hg => rfl);(case hr => first | (go_simp;done) | (go_simp;rfl));intro gu hg W203 hbox hb;have Lgu : Aside0 (w.heap.size ≤ gu):=Aside0.mk (by rw [hg];exact below_size HB.out);have Ngr_gu : Aside0 (gr ≠ gu):=Aside0.mk (by rw [hg];exact Nat.ne_of_lt (blk_lt Kgr.out));have Ngu_gr : Aside0 (gu ≠ gr):=Aside0.mk (fun e => Ngr_gu.out e.symm);have Ngf_gu : Aside0 (gf ≠ gu):=Aside0.mk (by rw [hg];exact Nat.ne_of_lt (blk_lt Kgf.out));have Ngu_gf : Aside0 (gu ≠ gf):=Aside0.mk (fun e => Ngf_gu.out e.symm);have Ngl_gu : Aside0 (gl ≠ gu):=Aside0.mk (by rw [hg];exact Nat.ne_of_lt (blk_lt Kgl.out));have Ngu_gl : Aside0 (gu ≠ gl):=Aside0.mk (fun e => Ngl_gu.out e.symm);have Ngp_gu : Aside0 (gp ≠ gu):=Aside0.mk (by rw [hg];exact Nat.ne_of_lt (blk_lt Kgp.out));have Ngu_gp : Aside0 (gu ≠ gp):=Aside0.mk (fun e => Ngp_gu.out e.symm);replace Kgr:=Aside0.mk (blk_below Kgr.out hb);replace Kgf:=Aside0.mk (blk_below Kgf.out hb);replace Kgl:=Aside0.mk (blk_below Kgl.out hb);replace Kgp:=Aside0.mk (blk_below Kgp.out hb);replace HB : Aside0 (Below w.heap.size w W203):=Aside0.mk (below_step HB.out hb);clear kgr fgr kgf fgf kgp fgp;have Kgu : Aside0 (W203.heap[gu]? = some (.cells #[.int .i64 0,.int .i64 0] 23 (0,0))):=Aside0.mk hbox;clear hb hbox hg;have kgr:=blk_cell Kgr.out;have fgr:=blk_frozen Kgr.out;have kgf:=blk_cell Kgf.out;have fgf:=blk_frozen Kgf.out;have kgp:=blk_cell Kgp.out;have fgp:=blk_frozen Kgp.out;have kgu:=blk_cell Kgu.out;have fgu:=blk_frozen Kgu.out) | ((with_reducible refine gate_store (t:=23) (p:=18) rfl ?_);replace HB : Aside0 (Below w.heap.size w W203):=HB;refine H.put_event (t:=23) (p:=18) (i:=0) rfl rfl rfl [.int .i64 s1,.int .i64 s2] Kgu.out rfl rfl (by kernel_rfl) (by kernel_rfl) (by kernel_rfl) ?_;intro W204 hw;replace Kgr:=Aside0.mk (H.far_fill hw Ngr_gu.out Kgr.out);replace Kgf:=Aside0.mk (H.far_fill hw Ngf_gu.out Kgf.out);replace Kgl:=Aside0.mk (H.far_fill hw Ngl_gu.out Kgl.out);replace Kgp:=Aside0.mk (H.far_fill hw Ngp_gu.out Kgp.out);replace Kgu : Aside0 (W204.heap[gu]? = some (.cells #[.int .i64 s1,.int .i64 s2] 23 (0,0))):=Aside0.mk (H.blk_fill hw Kgu.out (by kernel_rfl));replace HB : Aside0 (Below w.heap.size w W204):=Aside0.mk (H.below_fill hw Lgu.out HB.out);clear kgr fgr kgf fgf kgp fgp kgu fgu;clear hw;have kgr:=blk_cell Kgr.out;have fgr:=blk_frozen Kgr.out;have kgf:=blk_cell Kgf.out;have fgf:=blk_frozen Kgf.out;have kgp:=blk_cell Kgp.out;have fgp:=blk_frozen Kgp.out;have kgu:=blk_cell Kgu.out;have fgu:=blk_frozen Kgu.out))
    replace Kgr:=Aside0.mk (blk_drew Kgr.out); 
    replace Kgf:=Aside0.mk (blk_drew Kgf.out); 
    replace Kgl:=Aside0.mk (blk_drew Kgl.out); 
    replace Kgp:=Aside0.mk (blk_drew Kgp.out); 
    replace Kgu:=Aside0.mk (blk_drew Kgu.out); 
    replace HB:=Aside0.mk (below_drew1 HB.out); 
    clear kgr fgr kgf fgf kgp fgp kgu fgu
    refine start_ (n:=11) (S:=fun w' => True) (ds:=[]) #[false,false,false,false,false,false,false,false,false,false,false] (by kernel_rfl) rfl rfl trivial (fun hHeld => ?_)
    refine with_tabW t43_24.tab t43_24.bits (fun HT_ HW_ => ?_)
    generalize W204.drew = W205 at Kgr Kgf Kgl Kgp Kgu HB ⊢
    refine pure_ (i:=1) (N:=some 103) (v:=?_) (a':=?_) #[false,true,false,false,false,false,false,false,false,false,false] rfl rfl (any_of HT_.out (by kernel_rfl)) (fun _ _ _ h => h) (Or.inl ⟨by rfl,?_⟩) ?_ ?_
    rotate_left
    ·intro w'
     go_simp
     with_reducible rfl
    rotate_left
    ·simp only [Act.put,zA,zB,zC,i64_w,i32_w]
     rfl
    refine pure_ (i:=2) (N:=some 104) (v:=?_) (a':=?_) #[false,true,true,false,false,false,false,false,false,false,false] rfl rfl (any_of HT_.out (by kernel_rfl)) (fun _ _ _ h => h) (Or.inl ⟨by rfl,?_⟩) ?_ ?_
    rotate_left
    ·intro w'
     go_simp
     with_reducible rfl
    rotate_left
    ·simp only [Act.put,zA,zB,zC,i64_w,i32_w]
     rfl
    refine pure_ (i:=3) (N:=some 105) (v:=?_) (a':=?_) #[false,true,true,true,false,false,false,false,false,false,false] rfl rfl (any_of HT_.out (by kernel_rfl)) (fun _ _ _ h => h) (Or.inl ⟨by rfl,?_⟩) ?_ ?_
    rotate_left
    ·intro w'
     go_simp
     with_reducible rfl
    rotate_left
    ·simp only [Act.put,zA,zB,zC,i64_w,i32_w]
     rfl
    refine join_ (σ:=Nat) 2 #[true,true,true,true,true,true,true,true,true,false,false] (fun gv => [(102,.agg #[.int .i64 1,.int .i64 2]),(106,.tuple #[.agg #[.int .i64 d1,.int .i64 d2],.int .i64 0]),(101,.tuple #[.agg #[.int .i64 d1,.int .i64 d2],.int .i64 0]),(107,.agg #[.int .i64 d1,.int .i64 d2]),(108,.int .i64 0),(19,.pointer (some ⟨gv,0,none⟩))]) (fun gv w' => Aside0 (w'.heap[gr]? = some (.cells #[.int .i64 0,.int .i64 0,.int .i64 0,.int .i64 0,.int .i64 0,.int .i64 0,.int .i64 0,.int .i64 0,.int .i64 0,.int .i64 0] 45 (0,0))) ∧ Aside0 (w'.heap[gf]? = some (.cells #[.int .i64 0,.int .i64 0] 50 (0,0))) ∧ Aside0 (w'.heap[gl]? = some (.cells #[.pointer (some ⟨gp,0,none⟩),.int .i64 1,.int .i64 2,.pointer (some ⟨gp,1,none⟩),.int .i64 1,.int .i64 1048576,.pointer (some ⟨gp,2,none⟩),.int .i64 1,.int .i64 65536,.pointer (some ⟨gp,3,none⟩),.int .i64 1,.int .i64 65536,.pointer (some ⟨gp,6,none⟩),.int .i64 1,.int .i64 1000,.pointer (some ⟨gp,7,none⟩),.int .i64 1,.int .i64 64,.pointer (some ⟨gp,8,none⟩),.int .i64 0,.int .i64 1000,.pointer (some ⟨gp,9,none⟩),.int .i64 1,.int .i64 1000] 95 (0,0))) ∧ Aside0 (w'.heap[gp]? = some (.cells #[.int .i64 (p.kind),.int .i64 (p.cap),.int .i64 (p.num),.int .i64 (p.den),.int .i64 (p.width),.int .i64 (p.count),.int .i64 (p.keys),.int .i64 (p.slots),.int .i64 (p.every),.int .i64 (p.seg)] 45 (0,0))) ∧ Aside0 (w'.heap[gu]? = some (.cells #[.int .i64 s1,.int .i64 s2] 23 (0,0))) ∧ Aside0 (w'.heap[gv]? = some (.cells #[.int .i64 0,.int .i64 0] 23 (0,0))) ∧ Aside0 (Below w.heap.size w w') ∧ Aside0 (w.heap.size ≤ gv) ∧ Aside0 (gr ≠ gv) ∧ Aside0 (gf ≠ gv) ∧ Aside0 (gl ≠ gv) ∧ Aside0 (gp ≠ gv) ∧ Aside0 (gu ≠ gv) ∧ Aside0 (gv ≠ gr) ∧ Aside0 (gv ≠ gf) ∧ Aside0 (gv ≠ gl) ∧ Aside0 (gv ≠ gp) ∧ Aside0 (gv ≠ gu)) ?_ ?_
    rotate_left
    ·intro hCont
     refine two_ (i:=0) (j:=8) (Ni:=some 102) (Nj:=some 19) #[true,true,true,true,false,false,false,false,false,false,false] #[false,true,true,true,false,false,false,false,true,false,false] rfl rfl rfl rfl (two_of HT_.out (by kernel_rfl)) (by decide) (by decide) (fun K hK => ?_) (fun K hK => ?_)
     ·skip
      refine goes_ Try.func31 (by kernel_rfl) rfl #[] (by rfl) rfl rfl (by (try simp only [List.map_toArray,List.map_cons,List.map_nil]);first | done | rfl) ?_
      with_reducible refine (S.start_calls _).mono ?_
      rintro e W256 ⟨rfl,hb⟩
      refine ⟨_,rfl,?_⟩
      have ngr:=Aside0.mk (blk_below Kgr.out hb)
      have ngf:=Aside0.mk (blk_below Kgf.out hb)
      have ngl:=Aside0.mk (blk_below Kgl.out hb)
      have ngp:=Aside0.mk (blk_below Kgp.out hb)
      have ngu:=Aside0.mk (blk_below Kgu.out hb)
      have nB : Aside0 (Below w.heap.size w W256):=Aside0.mk (below_step HB.out hb)
      clear Kgr;have Kgr:=ngr;clear ngr
      clear Kgf;have Kgf:=ngf;clear ngf
      clear Kgl;have Kgl:=ngl;clear ngl
      clear Kgp;have Kgp:=ngp;clear ngp
      clear Kgu;have Kgu:=ngu;clear ngu
      clear HB;have HB:=nB;clear nB
      clear hb
      refine hK.out _ _ trivial (fun hHeld => ?_)
      clear hK K
      refine norm_ (a':=?_) ?_ ?_
      rotate_left
      ·show Act.put _ (some 102) _ = _
       simp only [Act.put,zA,zB,zC,i64_w,i32_w]
       rfl
      refine two_ (i:=4) (j:=8) (Ni:=some 106) (Nj:=some 19) #[true,true,true,true,true,false,false,false,false,false,false] #[true,true,true,true,false,false,false,false,true,false,false] rfl rfl rfl rfl (two_of HT_.out (by kernel_rfl)) (by decide) (by decide) (fun K hK => ?_) (fun K hK => ?_)
      ·skip
       refine goes_ Try.func27 (by kernel_rfl) rfl #[.agg #[.int .i64 1,.int .i64 2],.slice A0 tl.length c0] (by rfl) rfl rfl (by (try simp only [List.map_toArray,List.map_cons,List.map_nil]);first | done | rfl) ?_
       with_reducible refine (seal_Add.calls 1 2 _ _ tl d1 d2 0 _ (by rw [← HT.out];exact take_C (Kd.C_below HR0.out HB.out) TL.out) (by have:=HC0.out;rw [← HT.out,List.length_take];omega) HA.out).mono ?_
       rintro e W257 ⟨rfl,hb⟩
       refine ⟨_,rfl,?_⟩
       have ngr:=Aside0.mk (blk_below Kgr.out hb)
       have ngf:=Aside0.mk (blk_below Kgf.out hb)
       have ngl:=Aside0.mk (blk_below Kgl.out hb)
       have ngp:=Aside0.mk (blk_below Kgp.out hb)
       have ngu:=Aside0.mk (blk_below Kgu.out hb)
       have nB : Aside0 (Below w.heap.size w W257):=Aside0.mk (below_step HB.out hb)
       clear Kgr;have Kgr:=ngr;clear ngr
       clear Kgf;have Kgf:=ngf;clear ngf
       clear Kgl;have Kgl:=ngl;clear ngl
       clear Kgp;have Kgp:=ngp;clear ngp
       clear Kgu;have Kgu:=ngu;clear ngu
       clear HB;have HB:=nB;clear nB
       clear hb
       refine hK.out _ _ trivial (fun hHeld => ?_)
       clear hK K
       refine norm_ (a':=?_) ?_ ?_
       rotate_left
       ·show Act.put _ (some 106) _ = _
        simp only [Act.put,zA,zB,zC,i64_w,i32_w]
        rfl
       refine pure_ (i:=5) (N:=some 101) (v:=?_) (a':=?_) #[true,true,true,true,true,true,false,false,false,false,false] rfl rfl (any_of HT_.out (by kernel_rfl)) (fun _ _ _ h => h) (Or.inl ⟨by rfl,?_⟩) ?_ ?_
       rotate_left
       ·intro w'
        go_simp
        with_reducible rfl
       rotate_left
       ·simp only [Act.put,zA,zB,zC,i64_w,i32_w]
        rfl
       refine pure_ (i:=6) (N:=some 107) (v:=?_) (a':=?_) #[true,true,true,true,true,true,true,false,false,false,false] rfl rfl (any_of HT_.out (by kernel_rfl)) (fun _ _ _ h => h) (Or.inl ⟨by rfl,?_⟩) ?_ ?_
       rotate_left
       ·intro w'
        go_simp
        with_reducible rfl
       rotate_left
       ·simp only [Act.put,zA,zB,zC,i64_w,i32_w]
        rfl
       refine pure_ (i:=7) (N:=some 108) (v:=?_) (a':=?_) #[true,true,true,true,true,true,true,true,false,false,false] rfl rfl (any_of HT_.out (by kernel_rfl)) (fun _ _ _ h => h) (Or.inl ⟨by rfl,?_⟩) ?_ ?_
       rotate_left
       ·intro w'
        go_simp
        with_reducible rfl
       rotate_left
       ·simp only [Act.put,zA,zB,zC,i64_w,i32_w]
        rfl
       refine one_ (i:=8) (N:=some 19) #[true,true,true,true,true,true,true,true,true,false,false] rfl rfl (one_of HT_.out (by kernel_rfl)) (by decide) (fun K hK => ?_)
       refine H.box_step (by rfl) rfl (cs:=#[.int .i64 0,.int .i64 0]) (t:=23) ?_ ?_
       ·first | (go_simp;done) | (go_simp;rfl)
       intro gv hg W258 hbox hb
       have Lgv : Aside0 (w.heap.size ≤ gv):=Aside0.mk (by rw [hg];exact below_size HB.out)
       have Ngr_gv : Aside0 (gr ≠ gv):=Aside0.mk (by rw [hg];exact Nat.ne_of_lt (blk_lt Kgr.out));have Ngv_gr : Aside0 (gv ≠ gr):=Aside0.mk (fun e => Ngr_gv.out e.symm)
       have Ngf_gv : Aside0 (gf ≠ gv):=Aside0.mk (by rw [hg];exact Nat.ne_of_lt (blk_lt Kgf.out));have Ngv_gf : Aside0 (gv ≠ gf):=Aside0.mk (fun e => Ngf_gv.out e.symm)
       have Ngl_gv : Aside0 (gl ≠ gv):=Aside0.mk (by rw [hg];exact Nat.ne_of_lt (blk_lt Kgl.out));have Ngv_gl : Aside0 (gv ≠ gl):=Aside0.mk (fun e => Ngl_gv.out e.symm)
       have Ngp_gv : Aside0 (gp ≠ gv):=Aside0.mk (by rw [hg];exact Nat.ne_of_lt (blk_lt Kgp.out));have Ngv_gp : Aside0 (gv ≠ gp):=Aside0.mk (fun e => Ngp_gv.out e.symm)
       have Ngu_gv : Aside0 (gu ≠ gv):=Aside0.mk (by rw [hg];exact Nat.ne_of_lt (blk_lt Kgu.out));have Ngv_gu : Aside0 (gv ≠ gu):=Aside0.mk (fun e => Ngu_gv.out e.symm)
       have ngr:=Aside0.mk (blk_below Kgr.out hb)
       have ngf:=Aside0.mk (blk_below Kgf.out hb)
       have ngl:=Aside0.mk (blk_below Kgl.out hb)
       have ngp:=Aside0.mk (blk_below Kgp.out hb)
       have ngu:=Aside0.mk (blk_below Kgu.out hb)
       have nB : Aside0 (Below w.heap.size w W258):=Aside0.mk (below_step HB.out hb)
       clear Kgr;have Kgr:=ngr;clear ngr
       clear Kgf;have Kgf:=ngf;clear ngf
       clear Kgl;have Kgl:=ngl;clear ngl
       clear Kgp;have Kgp:=ngp;clear ngp
       clear Kgu;have Kgu:=ngu;clear ngu
       clear HB;have HB:=nB;clear nB
       have Kgv : Aside0 (W258.heap[gv]? = some (.cells #[.int .i64 0,.int .i64 0] 23 (0,0))):=Aside0.mk hbox
       clear hb hbox hg
       refine hK.out _ _ trivial (fun hHeld => ?_)
       clear hK K
       refine norm_ (a':=?_) ?_ ?_
       rotate_left
       ·show Act.put _ (some 19) _ = _
        simp only [Act.put,zA,zB,zC,i64_w,i32_w]
        rfl
       exact norm_ (by simp only [putAll,Act.put,List.setIfInBounds_toArray,List.set_cons_zero,List.set_cons_succ]) (hCont gv _ ⟨Kgr,Kgf,Kgl,Kgp,Kgu,Kgv,HB,Lgv,Ngr_gv,Ngf_gv,Ngl_gv,Ngp_gv,Ngu_gv,Ngv_gr,Ngv_gf,Ngv_gl,Ngv_gp,Ngv_gu⟩)
      ·skip
       refine H.box_step (by rfl) rfl (cs:=#[.int .i64 0,.int .i64 0]) (t:=23) ?_ ?_
       ·first | (go_simp;done) | (go_simp;rfl)
       intro gv hg W259 hbox hb
       have Lgv : Aside0 (w.heap.size ≤ gv):=Aside0.mk (by rw [hg];exact below_size HB.out)
       have Ngr_gv : Aside0 (gr ≠ gv):=Aside0.mk (by rw [hg];exact Nat.ne_of_lt (blk_lt Kgr.out));have Ngv_gr : Aside0 (gv ≠ gr):=Aside0.mk (fun e => Ngr_gv.out e.symm)
       have Ngf_gv : Aside0 (gf ≠ gv):=Aside0.mk (by rw [hg];exact Nat.ne_of_lt (blk_lt Kgf.out));have Ngv_gf : Aside0 (gv ≠ gf):=Aside0.mk (fun e => Ngf_gv.out e.symm)
       have Ngl_gv : Aside0 (gl ≠ gv):=Aside0.mk (by rw [hg];exact Nat.ne_of_lt (blk_lt Kgl.out));have Ngv_gl : Aside0 (gv ≠ gl):=Aside0.mk (fun e => Ngl_gv.out e.symm)
       have Ngp_gv : Aside0 (gp ≠ gv):=Aside0.mk (by rw [hg];exact Nat.ne_of_lt (blk_lt Kgp.out));have Ngv_gp : Aside0 (gv ≠ gp):=Aside0.mk (fun e => Ngp_gv.out e.symm)
       have Ngu_gv : Aside0 (gu ≠ gv):=Aside0.mk (by rw [hg];exact Nat.ne_of_lt (blk_lt Kgu.out));have Ngv_gu : Aside0 (gv ≠ gu):=Aside0.mk (fun e => Ngu_gv.out e.symm)
       have ngr:=Aside0.mk (blk_below Kgr.out hb)
       have ngf:=Aside0.mk (blk_below Kgf.out hb)
       have ngl:=Aside0.mk (blk_below Kgl.out hb)
       have ngp:=Aside0.mk (blk_below Kgp.out hb)
       have ngu:=Aside0.mk (blk_below Kgu.out hb)
       have nB : Aside0 (Below w.heap.size w W259):=Aside0.mk (below_step HB.out hb)
       clear Kgr;have Kgr:=ngr;clear ngr
       clear Kgf;have Kgf:=ngf;clear ngf
       clear Kgl;have Kgl:=ngl;clear ngl
       clear Kgp;have Kgp:=ngp;clear ngp
       clear Kgu;have Kgu:=ngu;clear ngu
       clear HB;have HB:=nB;clear nB
       have Kgv : Aside0 (W259.heap[gv]? = some (.cells #[.int .i64 0,.int .i64 0] 23 (0,0))):=Aside0.mk hbox
       clear hb hbox hg
       refine hK.out _ _ trivial (fun hHeld => ?_)
       clear hK K
       refine norm_ (a':=?_) ?_ ?_
       rotate_left
       ·show Act.put _ (some 19) _ = _
        simp only [Act.put,zA,zB,zC,i64_w,i32_w]
        rfl
       refine one_ (i:=4) (N:=some 106) #[true,true,true,true,true,false,false,false,true,false,false] rfl rfl (one_of HT_.out (by kernel_rfl)) (by decide) (fun K hK => ?_)
       refine goes_ Try.func27 (by kernel_rfl) rfl #[.agg #[.int .i64 1,.int .i64 2],.slice A0 tl.length c0] (by rfl) rfl rfl (by (try simp only [List.map_toArray,List.map_cons,List.map_nil]);first | done | rfl) ?_
       with_reducible refine (seal_Add.calls 1 2 _ _ tl d1 d2 0 _ (by rw [← HT.out];exact take_C (Kd.C_below HR0.out HB.out) TL.out) (by have:=HC0.out;rw [← HT.out,List.length_take];omega) HA.out).mono ?_
       rintro e W260 ⟨rfl,hb⟩
       refine ⟨_,rfl,?_⟩
       have ngr:=Aside0.mk (blk_below Kgr.out hb)
       have ngf:=Aside0.mk (blk_below Kgf.out hb)
       have ngl:=Aside0.mk (blk_below Kgl.out hb)
       have ngp:=Aside0.mk (blk_below Kgp.out hb)
       have ngu:=Aside0.mk (blk_below Kgu.out hb)
       have ngv:=Aside0.mk (blk_below Kgv.out hb)
       have nB : Aside0 (Below w.heap.size w W260):=Aside0.mk (below_step HB.out hb)
       clear Kgr;have Kgr:=ngr;clear ngr
       clear Kgf;have Kgf:=ngf;clear ngf
       clear Kgl;have Kgl:=ngl;clear ngl
       clear Kgp;have Kgp:=ngp;clear ngp
       clear Kgu;have Kgu:=ngu;clear ngu
       clear Kgv;have Kgv:=ngv;clear ngv
       clear HB;have HB:=nB;clear nB
       clear hb
       refine hK.out _ _ trivial (fun hHeld => ?_)
       clear hK K
       refine norm_ (a':=?_) ?_ ?_
       rotate_left
       ·show Act.put _ (some 106) _ = _
        simp only [Act.put,zA,zB,zC,i64_w,i32_w]
        rfl
       refine pure_ (i:=5) (N:=some 101) (v:=?_) (a':=?_) #[true,true,true,true,true,true,false,false,true,false,false] rfl rfl (any_of HT_.out (by kernel_rfl)) (fun _ _ _ h => h) (Or.inl ⟨by rfl,?_⟩) ?_ ?_
       rotate_left
       ·intro w'
        go_simp
        with_reducible rfl
       rotate_left
       ·simp only [Act.put,zA,zB,zC,i64_w,i32_w]
        rfl
       refine pure_ (i:=6) (N:=some 107) (v:=?_) (a':=?_) #[true,true,true,true,true,true,true,false,true,false,false] rfl rfl (any_of HT_.out (by kernel_rfl)) (fun _ _ _ h => h) (Or.inl ⟨by rfl,?_⟩) ?_ ?_
       rotate_left
       ·intro w'
        go_simp
        with_reducible rfl
       rotate_left
       ·simp only [Act.put,zA,zB,zC,i64_w,i32_w]
        rfl
       refine pure_ (i:=7) (N:=some 108) (v:=?_) (a':=?_) #[true,true,true,true,true,true,true,true,true,false,false] rfl rfl (any_of HT_.out (by kernel_rfl)) (fun _ _ _ h => h) (Or.inl ⟨by rfl,?_⟩) ?_ ?_
       rotate_left
       ·intro w'
        go_simp
        with_reducible rfl
       rotate_left
       ·simp only [Act.put,zA,zB,zC,i64_w,i32_w]
        rfl
       exact norm_ (by simp only [putAll,Act.put,List.setIfInBounds_toArray,List.set_cons_zero,List.set_cons_succ]) (hCont gv _ ⟨Kgr,Kgf,Kgl,Kgp,Kgu,Kgv,HB,Lgv,Ngr_gv,Ngf_gv,Ngl_gv,Ngp_gv,Ngu_gv,Ngv_gr,Ngv_gf,Ngv_gl,Ngv_gp,Ngv_gu⟩)
     ·skip
      refine H.box_step (by rfl) rfl (cs:=#[.int .i64 0,.int .i64 0]) (t:=23) ?_ ?_
      ·first | (go_simp;done) | (go_simp;rfl)
      intro gv hg W261 hbox hb
      have Lgv : Aside0 (w.heap.size ≤ gv):=Aside0.mk (by rw [hg];exact below_size HB.out)
      have Ngr_gv : Aside0 (gr ≠ gv):=Aside0.mk (by rw [hg];exact Nat.ne_of_lt (blk_lt Kgr.out));have Ngv_gr : Aside0 (gv ≠ gr):=Aside0.mk (fun e => Ngr_gv.out e.symm)
      have Ngf_gv : Aside0 (gf ≠ gv):=Aside0.mk (by rw [hg];exact Nat.ne_of_lt (blk_lt Kgf.out));have Ngv_gf : Aside0 (gv ≠ gf):=Aside0.mk (fun e => Ngf_gv.out e.symm)
      have Ngl_gv : Aside0 (gl ≠ gv):=Aside0.mk (by rw [hg];exact Nat.ne_of_lt (blk_lt Kgl.out));have Ngv_gl : Aside0 (gv ≠ gl):=Aside0.mk (fun e => Ngl_gv.out e.symm)
      have Ngp_gv : Aside0 (gp ≠ gv):=Aside0.mk (by rw [hg];exact Nat.ne_of_lt (blk_lt Kgp.out));have Ngv_gp : Aside0 (gv ≠ gp):=Aside0.mk (fun e => Ngp_gv.out e.symm)
      have Ngu_gv : Aside0 (gu ≠ gv):=Aside0.mk (by rw [hg];exact Nat.ne_of_lt (blk_lt Kgu.out));have Ngv_gu : Aside0 (gv ≠ gu):=Aside0.mk (fun e => Ngu_gv.out e.symm)
      have ngr:=Aside0.mk (blk_below Kgr.out hb)
      have ngf:=Aside0.mk (blk_below Kgf.out hb)
      have ngl:=Aside0.mk (blk_below Kgl.out hb)
      have ngp:=Aside0.mk (blk_below Kgp.out hb)
      have ngu:=Aside0.mk (blk_below Kgu.out hb)
      have nB : Aside0 (Below w.heap.size w W261):=Aside0.mk (below_step HB.out hb)
      clear Kgr;have Kgr:=ngr;clear ngr
      clear Kgf;have Kgf:=ngf;clear ngf
      clear Kgl;have Kgl:=ngl;clear ngl
      clear Kgp;have Kgp:=ngp;clear ngp
      clear Kgu;have Kgu:=ngu;clear ngu
      clear HB;have HB:=nB;clear nB
      have Kgv : Aside0 (W261.heap[gv]? = some (.cells #[.int .i64 0,.int .i64 0] 23 (0,0))):=Aside0.mk hbox
      clear hb hbox hg
      refine hK.out _ _ trivial (fun hHeld => ?_)
      clear hK K
      refine norm_ (a':=?_) ?_ ?_
      rotate_left
      ·show Act.put _ (some 19) _ = _
       simp only [Act.put,zA,zB,zC,i64_w,i32_w]
       rfl
      refine one_ (i:=0) (N:=some 102) #[true,true,true,true,false,false,false,false,true,false,false] rfl rfl (one_of HT_.out (by kernel_rfl)) (by decide) (fun K hK => ?_)
      refine goes_ Try.func31 (by kernel_rfl) rfl #[] (by rfl) rfl rfl (by (try simp only [List.map_toArray,List.map_cons,List.map_nil]);first | done | rfl) ?_
      with_reducible refine (S.start_calls _).mono ?_
      rintro e W262 ⟨rfl,hb⟩
      refine ⟨_,rfl,?_⟩
      have ngr:=Aside0.mk (blk_below Kgr.out hb)
      have ngf:=Aside0.mk (blk_below Kgf.out hb)
      have ngl:=Aside0.mk (blk_below Kgl.out hb)
      have ngp:=Aside0.mk (blk_below Kgp.out hb)
      have ngu:=Aside0.mk (blk_below Kgu.out hb)
      have ngv:=Aside0.mk (blk_below Kgv.out hb)
      have nB : Aside0 (Below w.heap.size w W262):=Aside0.mk (below_step HB.out hb)
      clear Kgr;have Kgr:=ngr;clear ngr
      clear Kgf;have Kgf:=ngf;clear ngf
      clear Kgl;have Kgl:=ngl;clear ngl
      clear Kgp;have Kgp:=ngp;clear ngp
      clear Kgu;have Kgu:=ngu;clear ngu
      clear Kgv;have Kgv:=ngv;clear ngv
      clear HB;have HB:=nB;clear nB
      clear hb
      refine hK.out _ _ trivial (fun hHeld => ?_)
      clear hK K
      refine norm_ (a':=?_) ?_ ?_
      rotate_left
      ·show Act.put _ (some 102) _ = _
       simp only [Act.put,zA,zB,zC,i64_w,i32_w]
       rfl
      refine one_ (i:=4) (N:=some 106) #[true,true,true,true,true,false,false,false,true,false,false] rfl rfl (one_of HT_.out (by kernel_rfl)) (by decide) (fun K hK => ?_)
      refine goes_ Try.func27 (by kernel_rfl) rfl #[.agg #[.int .i64 1,.int .i64 2],.slice A0 tl.length c0] (by rfl) rfl rfl (by (try simp only [List.map_toArray,List.map_cons,List.map_nil]);first | done | rfl) ?_
      with_reducible refine (seal_Add.calls 1 2 _ _ tl d1 d2 0 _ (by rw [← HT.out];exact take_C (Kd.C_below HR0.out HB.out) TL.out) (by have:=HC0.out;rw [← HT.out,List.length_take];omega) HA.out).mono ?_
      rintro e W263 ⟨rfl,hb⟩
      refine ⟨_,rfl,?_⟩
      have ngr:=Aside0.mk (blk_below Kgr.out hb)
      have ngf:=Aside0.mk (blk_below Kgf.out hb)
      have ngl:=Aside0.mk (blk_below Kgl.out hb)
      have ngp:=Aside0.mk (blk_below Kgp.out hb)
      have ngu:=Aside0.mk (blk_below Kgu.out hb)
      have ngv:=Aside0.mk (blk_below Kgv.out hb)
      have nB : Aside0 (Below w.heap.size w W263):=Aside0.mk (below_step HB.out hb)
      clear Kgr;have Kgr:=ngr;clear ngr
      clear Kgf;have Kgf:=ngf;clear ngf
      clear Kgl;have Kgl:=ngl;clear ngl
      clear Kgp;have Kgp:=ngp;clear ngp
      clear Kgu;have Kgu:=ngu;clear ngu
      clear Kgv;have Kgv:=ngv;clear ngv
      clear HB;have HB:=nB;clear nB
      clear hb
      refine hK.out _ _ trivial (fun hHeld => ?_)
      clear hK K
      refine norm_ (a':=?_) ?_ ?_
      rotate_left
      ·show Act.put _ (some 106) _ = _
       simp only [Act.put,zA,zB,zC,i64_w,i32_w]
       rfl
      refine pure_ (i:=5) (N:=some 101) (v:=?_) (a':=?_) #[true,true,true,true,true,true,false,false,true,false,false] rfl rfl (any_of HT_.out (by kernel_rfl)) (fun _ _ _ h => h) (Or.inl ⟨by rfl,?_⟩) ?_ ?_
      rotate_left
      ·intro w'
       go_simp
       with_reducible rfl
      rotate_left
      ·simp only [Act.put,zA,zB,zC,i64_w,i32_w]
       rfl
      refine pure_ (i:=6) (N:=some 107) (v:=?_) (a':=?_) #[true,true,true,true,true,true,true,false,true,false,false] rfl rfl (any_of HT_.out (by kernel_rfl)) (fun _ _ _ h => h) (Or.inl ⟨by rfl,?_⟩) ?_ ?_
      rotate_left
      ·intro w'
       go_simp
       with_reducible rfl
      rotate_left
      ·simp only [Act.put,zA,zB,zC,i64_w,i32_w]
       rfl
      refine pure_ (i:=7) (N:=some 108) (v:=?_) (a':=?_) #[true,true,true,true,true,true,true,true,true,false,false] rfl rfl (any_of HT_.out (by kernel_rfl)) (fun _ _ _ h => h) (Or.inl ⟨by rfl,?_⟩) ?_ ?_
      rotate_left
      ·intro w'
       go_simp
       with_reducible rfl
      rotate_left
      ·simp only [Act.put,zA,zB,zC,i64_w,i32_w]
       rfl
      exact norm_ (by simp only [putAll,Act.put,List.setIfInBounds_toArray,List.set_cons_zero,List.set_cons_succ]) (hCont gv _ ⟨Kgr,Kgf,Kgl,Kgp,Kgu,Kgv,HB,Lgv,Ngr_gv,Ngf_gv,Ngl_gv,Ngp_gv,Ngu_gv,Ngv_gr,Ngv_gf,Ngv_gl,Ngv_gp,Ngv_gu⟩)
    clear HB Kgr Kgf Kgl Kgp Kgu
    rintro gv W255 ⟨Kgr,Kgf,Kgl,Kgp,Kgu,Kgv,HB,Lgv,Ngr_gv,Ngf_gv,Ngl_gv,Ngp_gv,Ngu_gv,Ngv_gr,Ngv_gf,Ngv_gl,Ngv_gp,Ngv_gu⟩
    have hHeld : True:=trivial
    refine norm_ (a':=?_) ?_ ?_
    rotate_left
    ·simp only [putAll,Act.put,List.setIfInBounds_toArray,List.set_cons_zero,List.set_cons_succ]
     rfl
    refine one_ (i:=9) (N:=none) #[true,true,true,true,true,true,true,true,true,true,false] rfl rfl (one_of HT_.out (by kernel_rfl)) (by decide) (fun K hK => ?_)
    refine H.put_step (by rfl) rfl rfl (i:=0) [.int .i64 d1,.int .i64 d2] Kgv.out rfl rfl (by kernel_rfl) (by kernel_rfl) (by kernel_rfl) ?_
    intro W296 hw
    have ngr:=Aside0.mk (H.far_fill hw Ngr_gv.out Kgr.out)
    have ngf:=Aside0.mk (H.far_fill hw Ngf_gv.out Kgf.out)
    have ngl:=Aside0.mk (H.far_fill hw Ngl_gv.out Kgl.out)
    have ngp:=Aside0.mk (H.far_fill hw Ngp_gv.out Kgp.out)
    have ngu:=Aside0.mk (H.far_fill hw Ngu_gv.out Kgu.out)
    have ngv : Aside0 (W296.heap[gv]? = some (.cells #[.int .i64 d1,.int .i64 d2] 23 (0,0))):=Aside0.mk (H.blk_fill hw Kgv.out (by kernel_rfl))
    have nB : Aside0 (Below w.heap.size w W296):=Aside0.mk (H.below_fill hw Lgv.out HB.out)
    clear Kgr;have Kgr:=ngr;clear ngr
    clear Kgf;have Kgf:=ngf;clear ngf
    clear Kgl;have Kgl:=ngl;clear ngl
    clear Kgp;have Kgp:=ngp;clear ngp
    clear Kgu;have Kgu:=ngu;clear ngu
    clear Kgv;have Kgv:=ngv;clear ngv
    clear HB;have HB:=nB;clear nB
    clear hw
    have kgr:=blk_cell Kgr.out;have fgr:=blk_frozen Kgr.out
    have kgf:=blk_cell Kgf.out;have fgf:=blk_frozen Kgf.out
    have kgp:=blk_cell Kgp.out;have fgp:=blk_frozen Kgp.out
    have kgu:=blk_cell Kgu.out;have fgu:=blk_frozen Kgu.out
    have kgv:=blk_cell Kgv.out;have fgv:=blk_frozen Kgv.out
    refine hK.out _ _ trivial (fun hHeld => ?_)
    clear hK K
    refine pure_ (i:=10) (N:=some 20) (v:=?_) (a':=?_) #[true,true,true,true,true,true,true,true,true,true,true] rfl rfl (any_of HT_.out (by kernel_rfl)) (fun _ _ _ h => h) (Or.inl ⟨by rfl,?_⟩) ?_ ?_
    rotate_left
    ·intro w'
     go_simp
     with_reducible rfl
    rotate_left
    ·simp only [Act.put,zA,zB,zC,i64_w,i32_w]
     rfl
    refine done_ (done_of HT_.out (by kernel_rfl)) ?_
    have hgo:=Hgo.out
    clear Hgo
    by_cases he : er = 0
    ·subst he
     rw [if_pos rfl] at hgo
     by_cases q1 : s1 = d1
     ·subst q1
      by_cases q2 : s2 = d2
      ·subst q2
       rw [if_pos rfl] at hgo
       have HQ:=Aside0.mk hgo
       clear hgo
       go_wp2_with (first | ((with_reducible refine gate_dst (N:=122) rfl ?_);replace HB : Aside0 (Below w.heap.size w W296):=HB;refine H.get_event (t:=45) (x:=5) (N:=122) (i:=0) rfl rfl rfl [.int .i64 (p.kind),.int .i64 (p.cap),.int .i64 (p.num),.int .i64 (p.den),.int .i64 (p.width),.int .i64 (p.count),.int .i64 (p.keys),.int .i64 (p.slots),.int .i64 (p.every),.int .i64 (p.seg)] Kgp.out rfl (by kernel_rfl) Try.underlying45 rfl (by kernel_rfl) ?_) | ((with_reducible refine gate_store (t:=45) (p:=2) rfl ?_);replace HB : Aside0 (Below w.heap.size w W296):=HB;refine H.put_event (t:=45) (p:=2) (i:=0) rfl rfl rfl [.int .i64 (p.kind),.int .i64 (p.cap),.int .i64 (p.num),.int .i64 (p.den),.int .i64 (p.width),.int .i64 (p.count),.int .i64 (p.keys),.int .i64 (p.slots),.int .i64 (p.every),.int .i64 (p.seg)] Kgr.out rfl rfl (by kernel_rfl) (by kernel_rfl) (by kernel_rfl) ?_;intro W297 hw;replace Kgr : Aside0 (W297.heap[gr]? = some (.cells #[.int .i64 (p.kind),.int .i64 (p.cap),.int .i64 (p.num),.int .i64 (p.den),.int .i64 (p.width),.int .i64 (p.count),.int .i64 (p.keys),.int .i64 (p.slots),.int .i64 (p.every),.int .i64 (p.seg)] 45 (0,0))):=Aside0.mk (H.blk_fill hw Kgr.out (by kernel_rfl));replace Kgf:=Aside0.mk (H.far_fill hw Ngf_gr.out Kgf.out);replace Kgl:=Aside0.mk (H.far_fill hw Ngl_gr.out Kgl.out);replace Kgp:=Aside0.mk (H.far_fill hw Ngp_gr.out Kgp.out);replace Kgu:=Aside0.mk (H.far_fill hw Ngu_gr.out Kgu.out);replace Kgv:=Aside0.mk (H.far_fill hw Ngv_gr.out Kgv.out);replace HB : Aside0 (Below w.heap.size w W297):=Aside0.mk (H.below_fill hw Lgr.out HB.out);clear kgr fgr kgf fgf kgp fgp kgu fgu kgv fgv;clear hw;have kgr:=blk_cell Kgr.out;have fgr:=blk_frozen Kgr.out;have kgf:=blk_cell Kgf.out;have fgf:=blk_frozen Kgf.out;have kgp:=blk_cell Kgp.out;have fgp:=blk_frozen Kgp.out;have kgu:=blk_cell Kgu.out;have fgu:=blk_frozen Kgu.out;have kgv:=blk_cell Kgv.out;have fgv:=blk_frozen Kgv.out) | ((with_reducible refine gate_store (t:=50) (p:=4) rfl ?_);replace HB : Aside0 (Below w.heap.size w W297):=HB;refine H.put_event (t:=50) (p:=4) (i:=0) rfl rfl rfl [.int .i64 0,.int .i64 0] Kgf.out rfl rfl (by kernel_rfl) (by kernel_rfl) (by kernel_rfl) ?_;intro W298 hw;replace Kgr:=Aside0.mk (H.far_fill hw Ngr_gf.out Kgr.out);replace Kgf : Aside0 (W298.heap[gf]? = some (.cells #[.int .i64 0,.int .i64 0] 50 (0,0))):=Aside0.mk (H.blk_fill hw Kgf.out (by kernel_rfl));replace Kgl:=Aside0.mk (H.far_fill hw Ngl_gf.out Kgl.out);replace Kgp:=Aside0.mk (H.far_fill hw Ngp_gf.out Kgp.out);replace Kgu:=Aside0.mk (H.far_fill hw Ngu_gf.out Kgu.out);replace Kgv:=Aside0.mk (H.far_fill hw Ngv_gf.out Kgv.out);replace HB : Aside0 (Below w.heap.size w W298):=Aside0.mk (H.below_fill hw Lgf.out HB.out);clear kgr fgr kgf fgf kgp fgp kgu fgu kgv fgv;clear hw;have kgr:=blk_cell Kgr.out;have fgr:=blk_frozen Kgr.out;have kgf:=blk_cell Kgf.out;have fgf:=blk_frozen Kgf.out;have kgp:=blk_cell Kgp.out;have fgp:=blk_frozen Kgp.out;have kgu:=blk_cell Kgu.out;have fgu:=blk_frozen Kgu.out;have kgv:=blk_cell Kgv.out;have fgv:=blk_frozen Kgv.out))
       rw [← HQ.out]
       refine bodyPost_ret (results_ctc rfl _ _ gr gf 45 50 #[.int .i64 (p.kind),.int .i64 (p.cap),.int .i64 (p.num),.int .i64 (p.den),.int .i64 (p.width),.int .i64 (p.count),.int .i64 (p.keys),.int .i64 (p.slots),.int .i64 (p.every),.int .i64 (p.seg)] #[.int .i64 0,.int .i64 0] (0,0) (0,0) _ _ rfl Kgr.out Try.underlying45 rfl (by kernel_rfl) rfl Kgf.out Try.underlying50 rfl (by kernel_rfl)) rfl ?_
       exact ⟨rfl,HB.out⟩
      ·rw [if_neg (fun h => q2 (by injection h))] at hgo
       have HQ:=Aside0.mk hgo
       clear hgo
       go_wp2_with (first | ((with_reducible refine gate_store (t:=45) (p:=2) rfl ?_);replace HB : Aside0 (Below w.heap.size w W296):=HB;refine H.put_event (t:=45) (p:=2) (i:=0) rfl rfl rfl [.int .i64 0,.int .i64 0,.int .i64 0,.int .i64 0,.int .i64 0,.int .i64 0,.int .i64 0,.int .i64 0,.int .i64 0,.int .i64 0] Kgr.out rfl rfl (by kernel_rfl) (by kernel_rfl) (by kernel_rfl) ?_;intro W297 hw;replace Kgr : Aside0 (W297.heap[gr]? = some (.cells #[.int .i64 0,.int .i64 0,.int .i64 0,.int .i64 0,.int .i64 0,.int .i64 0,.int .i64 0,.int .i64 0,.int .i64 0,.int .i64 0] 45 (0,0))):=Aside0.mk (H.blk_fill hw Kgr.out (by kernel_rfl));replace Kgf:=Aside0.mk (H.far_fill hw Ngf_gr.out Kgf.out);replace Kgl:=Aside0.mk (H.far_fill hw Ngl_gr.out Kgl.out);replace Kgp:=Aside0.mk (H.far_fill hw Ngp_gr.out Kgp.out);replace Kgu:=Aside0.mk (H.far_fill hw Ngu_gr.out Kgu.out);replace Kgv:=Aside0.mk (H.far_fill hw Ngv_gr.out Kgv.out);replace HB : Aside0 (Below w.heap.size w W297):=Aside0.mk (H.below_fill hw Lgr.out HB.out);clear kgr fgr kgf fgf kgp fgp kgu fgu kgv fgv;clear hw;have kgr:=blk_cell Kgr.out;have fgr:=blk_frozen Kgr.out;have kgf:=blk_cell Kgf.out;have fgf:=blk_frozen Kgf.out;have kgp:=blk_cell Kgp.out;have fgp:=blk_frozen Kgp.out;have kgu:=blk_cell Kgu.out;have fgu:=blk_frozen Kgu.out;have kgv:=blk_cell Kgv.out;have fgv:=blk_frozen Kgv.out) | ((with_reducible refine gate_store (t:=50) (p:=4) rfl ?_);replace HB : Aside0 (Below w.heap.size w W297):=HB;refine H.put_event (t:=50) (p:=4) (i:=0) rfl rfl rfl [.int .i64 41,.int .i64 a] Kgf.out rfl rfl (by kernel_rfl) (by kernel_rfl) (by kernel_rfl) ?_;intro W298 hw;replace Kgr:=Aside0.mk (H.far_fill hw Ngr_gf.out Kgr.out);replace Kgf : Aside0 (W298.heap[gf]? = some (.cells #[.int .i64 41,.int .i64 a] 50 (0,0))):=Aside0.mk (H.blk_fill hw Kgf.out (by kernel_rfl));replace Kgl:=Aside0.mk (H.far_fill hw Ngl_gf.out Kgl.out);replace Kgp:=Aside0.mk (H.far_fill hw Ngp_gf.out Kgp.out);replace Kgu:=Aside0.mk (H.far_fill hw Ngu_gf.out Kgu.out);replace Kgv:=Aside0.mk (H.far_fill hw Ngv_gf.out Kgv.out);replace HB : Aside0 (Below w.heap.size w W298):=Aside0.mk (H.below_fill hw Lgf.out HB.out);clear kgr fgr kgf fgf kgp fgp kgu fgu kgv fgv;clear hw;have kgr:=blk_cell Kgr.out;have fgr:=blk_frozen Kgr.out;have kgf:=blk_cell Kgf.out;have fgf:=blk_frozen Kgf.out;have kgp:=blk_cell Kgp.out;have fgp:=blk_frozen Kgp.out;have kgu:=blk_cell Kgu.out;have fgu:=blk_frozen Kgu.out;have kgv:=blk_cell Kgv.out;have fgv:=blk_frozen Kgv.out))
       rw [← HQ.out]
       refine bodyPost_ret (results_ctc rfl _ _ gr gf 45 50 #[.int .i64 0,.int .i64 0,.int .i64 0,.int .i64 0,.int .i64 0,.int .i64 0,.int .i64 0,.int .i64 0,.int .i64 0,.int .i64 0] #[.int .i64 41,.int .i64 a] (0,0) (0,0) _ _ rfl Kgr.out Try.underlying45 rfl (by kernel_rfl) rfl Kgf.out Try.underlying50 rfl (by kernel_rfl)) rfl ?_
       exact ⟨rfl,HB.out⟩
     ·rw [if_neg (fun h => q1 (by injection h))] at hgo
      have HQ:=Aside0.mk hgo
      clear hgo
      go_wp2_with (first | ((with_reducible refine gate_store (t:=45) (p:=2) rfl ?_);replace HB : Aside0 (Below w.heap.size w W296):=HB;refine H.put_event (t:=45) (p:=2) (i:=0) rfl rfl rfl [.int .i64 0,.int .i64 0,.int .i64 0,.int .i64 0,.int .i64 0,.int .i64 0,.int .i64 0,.int .i64 0,.int .i64 0,.int .i64 0] Kgr.out rfl rfl (by kernel_rfl) (by kernel_rfl) (by kernel_rfl) ?_;intro W297 hw;replace Kgr : Aside0 (W297.heap[gr]? = some (.cells #[.int .i64 0,.int .i64 0,.int .i64 0,.int .i64 0,.int .i64 0,.int .i64 0,.int .i64 0,.int .i64 0,.int .i64 0,.int .i64 0] 45 (0,0))):=Aside0.mk (H.blk_fill hw Kgr.out (by kernel_rfl));replace Kgf:=Aside0.mk (H.far_fill hw Ngf_gr.out Kgf.out);replace Kgl:=Aside0.mk (H.far_fill hw Ngl_gr.out Kgl.out);replace Kgp:=Aside0.mk (H.far_fill hw Ngp_gr.out Kgp.out);replace Kgu:=Aside0.mk (H.far_fill hw Ngu_gr.out Kgu.out);replace Kgv:=Aside0.mk (H.far_fill hw Ngv_gr.out Kgv.out);replace HB : Aside0 (Below w.heap.size w W297):=Aside0.mk (H.below_fill hw Lgr.out HB.out);clear kgr fgr kgf fgf kgp fgp kgu fgu kgv fgv;clear hw;have kgr:=blk_cell Kgr.out;have fgr:=blk_frozen Kgr.out;have kgf:=blk_cell Kgf.out;have fgf:=blk_frozen Kgf.out;have kgp:=blk_cell Kgp.out;have fgp:=blk_frozen Kgp.out;have kgu:=blk_cell Kgu.out;have fgu:=blk_frozen Kgu.out;have kgv:=blk_cell Kgv.out;have fgv:=blk_frozen Kgv.out) | ((with_reducible refine gate_store (t:=50) (p:=4) rfl ?_);replace HB : Aside0 (Below w.heap.size w W297):=HB;refine H.put_event (t:=50) (p:=4) (i:=0) rfl rfl rfl [.int .i64 41,.int .i64 a] Kgf.out rfl rfl (by kernel_rfl) (by kernel_rfl) (by kernel_rfl) ?_;intro W298 hw;replace Kgr:=Aside0.mk (H.far_fill hw Ngr_gf.out Kgr.out);replace Kgf : Aside0 (W298.heap[gf]? = some (.cells #[.int .i64 41,.int .i64 a] 50 (0,0))):=Aside0.mk (H.blk_fill hw Kgf.out (by kernel_rfl));replace Kgl:=Aside0.mk (H.far_fill hw Ngl_gf.out Kgl.out);replace Kgp:=Aside0.mk (H.far_fill hw Ngp_gf.out Kgp.out);replace Kgu:=Aside0.mk (H.far_fill hw Ngu_gf.out Kgu.out);replace Kgv:=Aside0.mk (H.far_fill hw Ngv_gf.out Kgv.out);replace HB : Aside0 (Below w.heap.size w W298):=Aside0.mk (H.below_fill hw Lgf.out HB.out);clear kgr fgr kgf fgf kgp fgp kgu fgu kgv fgv;clear hw;have kgr:=blk_cell Kgr.out;have fgr:=blk_frozen Kgr.out;have kgf:=blk_cell Kgf.out;have fgf:=blk_frozen Kgf.out;have kgp:=blk_cell Kgp.out;have fgp:=blk_frozen Kgp.out;have kgu:=blk_cell Kgu.out;have fgu:=blk_frozen Kgu.out;have kgv:=blk_cell Kgv.out;have fgv:=blk_frozen Kgv.out))
      rw [← HQ.out]
      refine bodyPost_ret (results_ctc rfl _ _ gr gf 45 50 #[.int .i64 0,.int .i64 0,.int .i64 0,.int .i64 0,.int .i64 0,.int .i64 0,.int .i64 0,.int .i64 0,.int .i64 0,.int .i64 0] #[.int .i64 41,.int .i64 a] (0,0) (0,0) _ _ rfl Kgr.out Try.underlying45 rfl (by kernel_rfl) rfl Kgf.out Try.underlying50 rfl (by kernel_rfl)) rfl ?_
      exact ⟨rfl,HB.out⟩
    ·rw [if_neg he] at hgo
     have HQ:=Aside0.mk hgo
     clear hgo
     go_wp2_with (first | ((with_reducible refine gate_store (t:=45) (p:=2) rfl ?_);replace HB : Aside0 (Below w.heap.size w W296):=HB;refine H.put_event (t:=45) (p:=2) (i:=0) rfl rfl rfl [.int .i64 0,.int .i64 0,.int .i64 0,.int .i64 0,.int .i64 0,.int .i64 0,.int .i64 0,.int .i64 0,.int .i64 0,.int .i64 0] Kgr.out rfl rfl (by kernel_rfl) (by kernel_rfl) (by kernel_rfl) ?_;intro W297 hw;replace Kgr : Aside0 (W297.heap[gr]? = some (.cells #[.int .i64 0,.int .i64 0,.int .i64 0,.int .i64 0,.int .i64 0,.int .i64 0,.int .i64 0,.int .i64 0,.int .i64 0,.int .i64 0] 45 (0,0))):=Aside0.mk (H.blk_fill hw Kgr.out (by kernel_rfl));replace Kgf:=Aside0.mk (H.far_fill hw Ngf_gr.out Kgf.out);replace Kgl:=Aside0.mk (H.far_fill hw Ngl_gr.out Kgl.out);replace Kgp:=Aside0.mk (H.far_fill hw Ngp_gr.out Kgp.out);replace Kgu:=Aside0.mk (H.far_fill hw Ngu_gr.out Kgu.out);replace Kgv:=Aside0.mk (H.far_fill hw Ngv_gr.out Kgv.out);replace HB : Aside0 (Below w.heap.size w W297):=Aside0.mk (H.below_fill hw Lgr.out HB.out);clear kgr fgr kgf fgf kgp fgp kgu fgu kgv fgv;clear hw;have kgr:=blk_cell Kgr.out;have fgr:=blk_frozen Kgr.out;have kgf:=blk_cell Kgf.out;have fgf:=blk_frozen Kgf.out;have kgp:=blk_cell Kgp.out;have fgp:=blk_frozen Kgp.out;have kgu:=blk_cell Kgu.out;have fgu:=blk_frozen Kgu.out;have kgv:=blk_cell Kgv.out;have fgv:=blk_frozen Kgv.out) | ((with_reducible refine gate_store (t:=50) (p:=4) rfl ?_);replace HB : Aside0 (Below w.heap.size w W297):=HB;refine H.put_event (t:=50) (p:=4) (i:=0) rfl rfl rfl [.int .i64 er,.int .i64 a] Kgf.out rfl rfl (by kernel_rfl) (by kernel_rfl) (by kernel_rfl) ?_;intro W298 hw;replace Kgr:=Aside0.mk (H.far_fill hw Ngr_gf.out Kgr.out);replace Kgf : Aside0 (W298.heap[gf]? = some (.cells #[.int .i64 er,.int .i64 a] 50 (0,0))):=Aside0.mk (H.blk_fill hw Kgf.out (by kernel_rfl));replace Kgl:=Aside0.mk (H.far_fill hw Ngl_gf.out Kgl.out);replace Kgp:=Aside0.mk (H.far_fill hw Ngp_gf.out Kgp.out);replace Kgu:=Aside0.mk (H.far_fill hw Ngu_gf.out Kgu.out);replace Kgv:=Aside0.mk (H.far_fill hw Ngv_gf.out Kgv.out);replace HB : Aside0 (Below w.heap.size w W298):=Aside0.mk (H.below_fill hw Lgf.out HB.out);clear kgr fgr kgf fgf kgp fgp kgu fgu kgv fgv;clear hw;have kgr:=blk_cell Kgr.out;have fgr:=blk_frozen Kgr.out;have kgf:=blk_cell Kgf.out;have fgf:=blk_frozen Kgf.out;have kgp:=blk_cell Kgp.out;have fgp:=blk_frozen Kgp.out;have kgu:=blk_cell Kgu.out;have fgu:=blk_frozen Kgu.out;have kgv:=blk_cell Kgv.out;have fgv:=blk_frozen Kgv.out))
     rw [← HQ.out]
     refine bodyPost_ret (results_ctc rfl _ _ gr gf 45 50 #[.int .i64 0,.int .i64 0,.int .i64 0,.int .i64 0,.int .i64 0,.int .i64 0,.int .i64 0,.int .i64 0,.int .i64 0,.int .i64 0] #[.int .i64 er,.int .i64 a] (0,0) (0,0) _ _ rfl Kgr.out Try.underlying45 rfl (by kernel_rfl) rfl Kgf.out Try.underlying50 rfl (by kernel_rfl)) rfl ?_
     exact ⟨rfl,HB.out⟩
   ·rw [if_neg c1] at hgo
    have c2 : Pol.ok p = false:=by simpa using c1
    rw [c2] at cR
    simp only [Bool.false_eq_true,if_false] at cR
    have HQ:=Aside0.mk hgo
    clear hgo c1 c2 a0 a1
    go_wp2_with (first | ((with_reducible refine gate_dst (N:=87) rfl ?_);replace HB : Aside0 (Below w.heap.size w wr):=HB;refine H.get_event (t:=45) (x:=5) (N:=87) (i:=0) rfl rfl rfl [.int .i64 (p.kind),.int .i64 (p.cap),.int .i64 (p.num),.int .i64 (p.den),.int .i64 (p.width),.int .i64 (p.count),.int .i64 (p.keys),.int .i64 (p.slots),.int .i64 (p.every),.int .i64 (p.seg)] Kgp.out rfl (by kernel_rfl) Try.underlying45 rfl (by kernel_rfl) ?_) | (go_at_call 64;replace HB : Aside0 (Below w.heap.size w wr):=HB;(with_reducible refine (cR _).mono ?_);rintro e W201 ⟨rfl,hb⟩;replace Kgr:=Aside0.mk (blk_below Kgr.out hb);replace Kgf:=Aside0.mk (blk_below Kgf.out hb);replace Kgl:=Aside0.mk (blk_below Kgl.out hb);replace Kgp:=Aside0.mk (blk_below Kgp.out hb);replace HB : Aside0 (Below w.heap.size w W201):=Aside0.mk (below_step HB.out hb);clear hb;have kgr:=blk_cell Kgr.out;have fgr:=blk_frozen Kgr.out;have kgf:=blk_cell Kgf.out;have fgf:=blk_frozen Kgf.out;have kgp:=blk_cell Kgp.out;have fgp:=blk_frozen Kgp.out) | ((with_reducible refine gate_store (t:=45) (p:=2) rfl ?_);replace HB : Aside0 (Below w.heap.size w W201):=HB;refine H.put_event (t:=45) (p:=2) (i:=0) rfl rfl rfl [.int .i64 0,.int .i64 0,.int .i64 0,.int .i64 0,.int .i64 0,.int .i64 0,.int .i64 0,.int .i64 0,.int .i64 0,.int .i64 0] Kgr.out rfl rfl (by kernel_rfl) (by kernel_rfl) (by kernel_rfl) ?_;intro W202 hw;replace Kgr : Aside0 (W202.heap[gr]? = some (.cells #[.int .i64 0,.int .i64 0,.int .i64 0,.int .i64 0,.int .i64 0,.int .i64 0,.int .i64 0,.int .i64 0,.int .i64 0,.int .i64 0] 45 (0,0))):=Aside0.mk (H.blk_fill hw Kgr.out (by kernel_rfl));replace Kgf:=Aside0.mk (H.far_fill hw Ngf_gr.out Kgf.out);replace Kgl:=Aside0.mk (H.far_fill hw Ngl_gr.out Kgl.out);replace Kgp:=Aside0.mk (H.far_fill hw Ngp_gr.out Kgp.out);replace HB : Aside0 (Below w.heap.size w W202):=Aside0.mk (H.below_fill hw Lgr.out HB.out);clear kgr fgr kgf fgf kgp fgp;clear hw;have kgr:=blk_cell Kgr.out;have fgr:=blk_frozen Kgr.out;have kgf:=blk_cell Kgf.out;have fgf:=blk_frozen Kgf.out;have kgp:=blk_cell Kgp.out;have fgp:=blk_frozen Kgp.out) | ((with_reducible refine gate_store (t:=50) (p:=4) rfl ?_);replace HB : Aside0 (Below w.heap.size w W202):=HB;refine H.put_event (t:=50) (p:=4) (i:=0) rfl rfl rfl [.int .i64 40,.int .i64 4] Kgf.out rfl rfl (by kernel_rfl) (by kernel_rfl) (by kernel_rfl) ?_;intro W203 hw;replace Kgr:=Aside0.mk (H.far_fill hw Ngr_gf.out Kgr.out);replace Kgf : Aside0 (W203.heap[gf]? = some (.cells #[.int .i64 40,.int .i64 4] 50 (0,0))):=Aside0.mk (H.blk_fill hw Kgf.out (by kernel_rfl));replace Kgl:=Aside0.mk (H.far_fill hw Ngl_gf.out Kgl.out);replace Kgp:=Aside0.mk (H.far_fill hw Ngp_gf.out Kgp.out);replace HB : Aside0 (Below w.heap.size w W203):=Aside0.mk (H.below_fill hw Lgf.out HB.out);clear kgr fgr kgf fgf kgp fgp;clear hw;have kgr:=blk_cell Kgr.out;have fgr:=blk_frozen Kgr.out;have kgf:=blk_cell Kgf.out;have fgf:=blk_frozen Kgf.out;have kgp:=blk_cell Kgp.out;have fgp:=blk_frozen Kgp.out))
    rw [← HQ.out]
    refine bodyPost_ret (results_ctc rfl _ _ gr gf 45 50 #[.int .i64 0,.int .i64 0,.int .i64 0,.int .i64 0,.int .i64 0,.int .i64 0,.int .i64 0,.int .i64 0,.int .i64 0,.int .i64 0] #[.int .i64 40,.int .i64 4] (0,0) (0,0) _ _ rfl Kgr.out Try.underlying45 rfl (by kernel_rfl) rfl Kgf.out Try.underlying50 rfl (by kernel_rfl)) rfl ?_
    exact ⟨rfl,HB.out⟩
set_option maxHeartbeats 4000000 in
set_option maxRecDepth 100000 in
theorem pread_loop2 (A0 : Option Addr) (c0 : Nat) (l0 : List Int) (nx : Int) (R : Pol.Py × Int × Int × Int) (w : World) (hr0 : Kd.C (Kd.int .u8) w A0 l0.length l0) (hc0 : l0.length ≤ c0) (h4 : 4 ≤ l0.length) (hby : M.bytes l0 = true) (hnl : (l0.length : Int) ≤ 4611686018427387904) (hS : l0.take 4 = Pol.reel) (h1 : bits_Read.f 40 l0 4 = some (2,nx,0)) (hx0 : 0 ≤ nx) (hx1 : nx ≤ l0.length) (hR : Pol.go l0 (Pol.flds2.drop 1) (Pol.zero.put 0 2) nx = R) :
  Calls Try.prog 43 #[.slice A0 l0.length c0] w fun e w' => e = .returned (.tuple #[.agg #[.int .i64 (R.1.kind),.int .i64 (R.1.cap),.int .i64 (R.1.num),.int .i64 (R.1.den),.int .i64 (R.1.width),.int .i64 (R.1.count),.int .i64 (R.1.keys),.int .i64 (R.1.slots),.int .i64 (R.1.every),.int .i64 (R.1.seg)],.int .i64 R.2.1,.agg #[.int .i64 R.2.2.1,.int .i64 R.2.2.2]]) ∧ Below w.heap.size w w':=by
 have A1:=Aside0.mk h1
 have HX:=Aside0.mk (show 0 ≤ nx ∧ nx ≤ (l0.length : Int) from ⟨hx0,hx1⟩)
 have HR:=Aside0.mk hR
 have HY:=Aside0.mk hby
 have HN:=Aside0.mk hnl
 clear h1 hR hx0 hx1
 have HR0:=Aside0.mk hr0
 have HC0:=Aside0.mk hc0
 have HB:=Aside0.mk (Below.refl w.heap.size w)
 have hlt : decide ((l0.length : Int) < 4) = false:=decide_eq_false (by omega)
 have hcut:=cut4 A0 l0.length c0 h4 hc0
 have H4:=Aside0.mk h4
 obtain ⟨sv,hsv⟩ : ∃ sv,sv = strOfNums (l0.take 4):=⟨_,rfl⟩
 have HS:=Aside0.mk hsv
 have hS1 : sv.toList = [82,69,69,76]:=by rw [hsv,reel_iff hby h4];exact hS
 clear hsv hS hr0 hc0 h4 hby hnl
 go_enter Try.func43,Try.ntmps43
 go_wp2_with (first | ((with_reducible refine gate_dst (N:=2) rfl ?_);replace HB : Aside0 (Below w.heap.size w w):=HB;refine box_event ?hg (N:=2) ?hd (cs:=#[.int .i64 0,.int .i64 0,.int .i64 0,.int .i64 0,.int .i64 0,.int .i64 0,.int .i64 0,.int .i64 0,.int .i64 0,.int .i64 0]) (t:=45) ?hr ?_;(case hd => rfl);(case hg => rfl);(case hr => first | (go_simp;done) | (go_simp;rfl));intro gr hg W1 hbox hb;have Lgr : Aside0 (w.heap.size ≤ gr):=Aside0.mk (by rw [hg];exact below_size HB.out);replace HB : Aside0 (Below w.heap.size w W1):=Aside0.mk (below_step HB.out hb);have Kgr : Aside0 (W1.heap[gr]? = some (.cells #[.int .i64 0,.int .i64 0,.int .i64 0,.int .i64 0,.int .i64 0,.int .i64 0,.int .i64 0,.int .i64 0,.int .i64 0,.int .i64 0] 45 (0,0))):=Aside0.mk hbox;clear hb hbox hg;have kgr:=blk_cell Kgr.out;have fgr:=blk_frozen Kgr.out) | ((with_reducible refine gate_dst (N:=4) rfl ?_);replace HB : Aside0 (Below w.heap.size w W1):=HB;refine box_event ?hg (N:=4) ?hd (cs:=#[.int .i64 0,.int .i64 0]) (t:=50) ?hr ?_;(case hd => rfl);(case hg => rfl);(case hr => first | (go_simp;done) | (go_simp;rfl));intro gf hg W2 hbox hb;have Lgf : Aside0 (w.heap.size ≤ gf):=Aside0.mk (by rw [hg];exact below_size HB.out);have Ngr_gf : Aside0 (gr ≠ gf):=Aside0.mk (by rw [hg];exact Nat.ne_of_lt (blk_lt Kgr.out));have Ngf_gr : Aside0 (gf ≠ gr):=Aside0.mk (fun e => Ngr_gf.out e.symm);replace Kgr:=Aside0.mk (blk_below Kgr.out hb);replace HB : Aside0 (Below w.heap.size w W2):=Aside0.mk (below_step HB.out hb);clear kgr fgr;have Kgf : Aside0 (W2.heap[gf]? = some (.cells #[.int .i64 0,.int .i64 0] 50 (0,0))):=Aside0.mk hbox;clear hb hbox hg;have kgr:=blk_cell Kgr.out;have fgr:=blk_frozen Kgr.out;have kgf:=blk_cell Kgf.out;have fgf:=blk_frozen Kgf.out;have hcv:=conv4 (c:=c0) HS.out (Kd.C_below HR0.out HB.out) H4.out) | ((with_reducible refine gate_dst (N:=5) rfl ?_);replace HB : Aside0 (Below w.heap.size w W2):=HB;refine box_event ?hg (N:=5) ?hd (cs:=#[.int .i64 0,.int .i64 0,.int .i64 0,.int .i64 0,.int .i64 0,.int .i64 0,.int .i64 0,.int .i64 0,.int .i64 0,.int .i64 0]) (t:=45) ?hr ?_;(case hd => rfl);(case hg => rfl);(case hr => first | (go_simp;done) | (go_simp;rfl));intro gp hg W3 hbox hb;have Lgp : Aside0 (w.heap.size ≤ gp):=Aside0.mk (by rw [hg];exact below_size HB.out);have Ngr_gp : Aside0 (gr ≠ gp):=Aside0.mk (by rw [hg];exact Nat.ne_of_lt (blk_lt Kgr.out));have Ngp_gr : Aside0 (gp ≠ gr):=Aside0.mk (fun e => Ngr_gp.out e.symm);have Ngf_gp : Aside0 (gf ≠ gp):=Aside0.mk (by rw [hg];exact Nat.ne_of_lt (blk_lt Kgf.out));have Ngp_gf : Aside0 (gp ≠ gf):=Aside0.mk (fun e => Ngf_gp.out e.symm);replace Kgr:=Aside0.mk (blk_below Kgr.out hb);replace Kgf:=Aside0.mk (blk_below Kgf.out hb);replace HB : Aside0 (Below w.heap.size w W3):=Aside0.mk (below_step HB.out hb);clear kgr fgr kgf fgf hcv;have Kgp : Aside0 (W3.heap[gp]? = some (.cells #[.int .i64 0,.int .i64 0,.int .i64 0,.int .i64 0,.int .i64 0,.int .i64 0,.int .i64 0,.int .i64 0,.int .i64 0,.int .i64 0] 45 (0,0))):=Aside0.mk hbox;clear hb hbox hg;have kgr:=blk_cell Kgr.out;have fgr:=blk_frozen Kgr.out;have kgf:=blk_cell Kgf.out;have fgf:=blk_frozen Kgf.out;have kgp:=blk_cell Kgp.out;have fgp:=blk_frozen Kgp.out) | (go_at_call 76;replace HB : Aside0 (Below w.heap.size w W3):=HB;(with_reducible refine (bits_Read.calls 40 _ _ l0 4 2 nx 0 _ ?qA11 ?qA12 A1.out).mono ?_);(case qA11 => exact Kd.C_below HR0.out HB.out);(case qA12 => exact HC0.out);rintro e W4 ⟨rfl,hd⟩;have hb:=Drawn0.below hd;clear hd;replace Kgr:=Aside0.mk (blk_below Kgr.out hb);replace Kgf:=Aside0.mk (blk_below Kgf.out hb);replace Kgp:=Aside0.mk (blk_below Kgp.out hb);replace HB : Aside0 (Below w.heap.size w W4):=Aside0.mk (below_step HB.out hb);clear kgr fgr kgf fgf kgp fgp;clear hb;have kgr:=blk_cell Kgr.out;have fgr:=blk_frozen Kgr.out;have kgf:=blk_cell Kgf.out;have fgf:=blk_frozen Kgf.out;have kgp:=blk_cell Kgp.out;have fgp:=blk_frozen Kgp.out) | ((with_reducible refine gate_store (t:=3) (p:=57) rfl ?_);replace HB : Aside0 (Below w.heap.size w W4):=HB;refine store_event (t:=3) (p:=57) (v:=?voW5) (w1:=(World.setCells W4 gp 0 [.int .i64 2])) ?hg ?ho ?hn ?hr ?_;(case ho => rfl);(case hg => rfl);(case hn => rfl);(case hr => go_simp;kernel_rfl);intro W5 hw;replace Kgr:=Aside0.mk (H.far_fill hw Ngr_gp.out Kgr.out);replace Kgf:=Aside0.mk (H.far_fill hw Ngf_gp.out Kgf.out);replace Kgp : Aside0 (W5.heap[gp]? = some (.cells #[.int .i64 2,.int .i64 0,.int .i64 0,.int .i64 0,.int .i64 0,.int .i64 0,.int .i64 0,.int .i64 0,.int .i64 0,.int .i64 0] 45 (0,0))):=Aside0.mk (H.blk_fill hw Kgp.out (by kernel_rfl));replace HB : Aside0 (Below w.heap.size w W5):=Aside0.mk (H.below_fill hw Lgp.out HB.out);clear kgr fgr kgf fgf kgp fgp;clear hw;have kgr:=blk_cell Kgr.out;have fgr:=blk_frozen Kgr.out;have kgf:=blk_cell Kgf.out;have fgf:=blk_frozen Kgf.out;have kgp:=blk_cell Kgp.out;have fgp:=blk_frozen Kgp.out) | (go_at_call 74;replace HB : Aside0 (Below w.heap.size w W5):=HB;(with_reducible refine (fields_2 gp _ ((blk_cell Kgp.out 0).trans rfl)).mono ?_);rintro e W6 ⟨rfl,hb⟩;replace Kgr:=Aside0.mk (blk_below Kgr.out hb);replace Kgf:=Aside0.mk (blk_below Kgf.out hb);replace Kgp:=Aside0.mk (blk_below Kgp.out hb);replace HB : Aside0 (Below w.heap.size w W6):=Aside0.mk (below_step HB.out hb);clear kgr fgr kgf fgf kgp fgp;clear hb;have kgr:=blk_cell Kgr.out;have fgr:=blk_frozen Kgr.out;have kgf:=blk_cell Kgf.out;have fgf:=blk_frozen Kgf.out;have kgp:=blk_cell Kgp.out;have fgp:=blk_frozen Kgp.out) | ((with_reducible refine gate_dst (N:=10) rfl ?_);replace HB : Aside0 (Below w.heap.size w W6):=HB;refine box_event ?hg (N:=10) ?hd (cs:=#[.pointer none,.int .i64 0,.int .i64 0,.pointer none,.int .i64 0,.int .i64 0,.pointer none,.int .i64 0,.int .i64 0,.pointer none,.int .i64 0,.int .i64 0,.pointer none,.int .i64 0,.int .i64 0,.pointer none,.int .i64 0,.int .i64 0,.pointer none,.int .i64 0,.int .i64 0,.pointer none,.int .i64 0,.int .i64 0]) (t:=95) ?hr ?_;(case hd => rfl);(case hg => rfl);(case hr => first | (go_simp;done) | (go_simp;rfl));intro gl hg W7 hbox hb;have Lgl : Aside0 (w.heap.size ≤ gl):=Aside0.mk (by rw [hg];exact below_size HB.out);have Ngr_gl : Aside0 (gr ≠ gl):=Aside0.mk (by rw [hg];exact Nat.ne_of_lt (blk_lt Kgr.out));have Ngl_gr : Aside0 (gl ≠ gr):=Aside0.mk (fun e => Ngr_gl.out e.symm);have Ngf_gl : Aside0 (gf ≠ gl):=Aside0.mk (by rw [hg];exact Nat.ne_of_lt (blk_lt Kgf.out));have Ngl_gf : Aside0 (gl ≠ gf):=Aside0.mk (fun e => Ngf_gl.out e.symm);have Ngp_gl : Aside0 (gp ≠ gl):=Aside0.mk (by rw [hg];exact Nat.ne_of_lt (blk_lt Kgp.out));have Ngl_gp : Aside0 (gl ≠ gp):=Aside0.mk (fun e => Ngp_gl.out e.symm);replace Kgr:=Aside0.mk (blk_below Kgr.out hb);replace Kgf:=Aside0.mk (blk_below Kgf.out hb);replace Kgp:=Aside0.mk (blk_below Kgp.out hb);replace HB : Aside0 (Below w.heap.size w W7):=Aside0.mk (below_step HB.out hb);clear kgr fgr kgf fgf kgp fgp;have Kgl : Aside0 (W7.heap[gl]? = some (.cells #[.pointer none,.int .i64 0,.int .i64 0,.pointer none,.int .i64 0,.int .i64 0,.pointer none,.int .i64 0,.int .i64 0,.pointer none,.int .i64 0,.int .i64 0,.pointer none,.int .i64 0,.int .i64 0,.pointer none,.int .i64 0,.int .i64 0,.pointer none,.int .i64 0,.int .i64 0,.pointer none,.int .i64 0,.int .i64 0] 95 (0,0))):=Aside0.mk hbox;clear hb hbox hg;have kgr:=blk_cell Kgr.out;have fgr:=blk_frozen Kgr.out;have kgf:=blk_cell Kgf.out;have fgf:=blk_frozen Kgf.out;have kgp:=blk_cell Kgp.out;have fgp:=blk_frozen Kgp.out;have kgl:=blk_cell Kgl.out;have fgl:=blk_frozen Kgl.out) | ((with_reducible refine gate_store (t:=95) (p:=10) rfl ?_);replace HB : Aside0 (Below w.heap.size w W7):=HB;refine H.put_event (t:=95) (p:=10) (i:=0) rfl rfl rfl [.pointer (some ⟨gp,0,none⟩),.int .i64 1,.int .i64 2,.pointer (some ⟨gp,1,none⟩),.int .i64 1,.int .i64 1048576,.pointer (some ⟨gp,4,none⟩),.int .i64 1,.int .i64 1048576,.pointer (some ⟨gp,5,none⟩),.int .i64 1,.int .i64 32,.pointer (some ⟨gp,6,none⟩),.int .i64 1,.int .i64 1000,.pointer (some ⟨gp,7,none⟩),.int .i64 1,.int .i64 64,.pointer (some ⟨gp,8,none⟩),.int .i64 0,.int .i64 1000,.pointer (some ⟨gp,9,none⟩),.int .i64 1,.int .i64 1000] Kgl.out rfl rfl (by kernel_rfl) (by kernel_rfl) (by kernel_rfl) ?_;intro W8 hw;replace Kgr:=Aside0.mk (H.far_fill hw Ngr_gl.out Kgr.out);replace Kgf:=Aside0.mk (H.far_fill hw Ngf_gl.out Kgf.out);replace Kgp:=Aside0.mk (H.far_fill hw Ngp_gl.out Kgp.out);replace Kgl : Aside0 (W8.heap[gl]? = some (.cells #[.pointer (some ⟨gp,0,none⟩),.int .i64 1,.int .i64 2,.pointer (some ⟨gp,1,none⟩),.int .i64 1,.int .i64 1048576,.pointer (some ⟨gp,4,none⟩),.int .i64 1,.int .i64 1048576,.pointer (some ⟨gp,5,none⟩),.int .i64 1,.int .i64 32,.pointer (some ⟨gp,6,none⟩),.int .i64 1,.int .i64 1000,.pointer (some ⟨gp,7,none⟩),.int .i64 1,.int .i64 64,.pointer (some ⟨gp,8,none⟩),.int .i64 0,.int .i64 1000,.pointer (some ⟨gp,9,none⟩),.int .i64 1,.int .i64 1000] 95 (0,0))):=Aside0.mk (H.blk_fill hw Kgl.out (by kernel_rfl));replace HB : Aside0 (Below w.heap.size w W8):=Aside0.mk (H.below_fill hw Lgl.out HB.out);clear kgr fgr kgf fgf kgp fgp kgl fgl;clear hw;have kgr:=blk_cell Kgr.out;have fgr:=blk_frozen Kgr.out;have kgf:=blk_cell Kgf.out;have fgf:=blk_frozen Kgf.out;have kgp:=blk_cell Kgp.out;have fgp:=blk_frozen Kgp.out;have kgl:=blk_cell Kgl.out;have fgl:=blk_frozen Kgl.out))
 clear kgr fgr kgf fgf kgp fgp kgl fgl hcut hS1
 have KP : Aside0 (PB W8 gp (Pol.zero.put 0 2)):=Aside0.mk Kgp.out
 clear Kgp HS H4
 go_loopg [6,64] 8 (fun kq v6 v64 w' => ∃ (j : Nat) (a : Int) (p : Pol.Py),v64 = .int .i64 (j : Int) ∧ v6 = .int .i64 a ∧ Aside0 (j ≤ 7 ∧ 7 < kq + j) ∧ Aside0 (0 ≤ a ∧ a ≤ (l0.length : Int)) ∧ Aside0 (Pol.go l0 (Pol.flds2.drop (j + 1)) p a = R) ∧ Aside0 (w'.heap[gr]? = some (.cells #[.int .i64 0,.int .i64 0,.int .i64 0,.int .i64 0,.int .i64 0,.int .i64 0,.int .i64 0,.int .i64 0,.int .i64 0,.int .i64 0] 45 (0,0))) ∧ Aside0 (w'.heap[gf]? = some (.cells #[.int .i64 0,.int .i64 0] 50 (0,0))) ∧ Aside0 (PB w' gp p) ∧ Aside0 (w'.heap[gl]? = some (.cells #[.pointer (some ⟨gp,0,none⟩),.int .i64 1,.int .i64 2,.pointer (some ⟨gp,1,none⟩),.int .i64 1,.int .i64 1048576,.pointer (some ⟨gp,4,none⟩),.int .i64 1,.int .i64 1048576,.pointer (some ⟨gp,5,none⟩),.int .i64 1,.int .i64 32,.pointer (some ⟨gp,6,none⟩),.int .i64 1,.int .i64 1000,.pointer (some ⟨gp,7,none⟩),.int .i64 1,.int .i64 64,.pointer (some ⟨gp,8,none⟩),.int .i64 0,.int .i64 1000,.pointer (some ⟨gp,9,none⟩),.int .i64 1,.int .i64 1000] 95 (0,0))) ∧ Aside0 (Below w.heap.size w w'))
 case atStart => exact ⟨0,nx,_,rfl,rfl,⟨by decide,by decide⟩,HX,HR,Kgr,Kgf,KP,Kgl,HB⟩
 case round =>
  clear HB Kgr Kgf KP Kgl HX HR A1
  obtain ⟨j,a,p,rfl,rfl,hj,HX,HR,Kgr,Kgf,KP,Kgl,HB⟩:=hrel
  obtain ⟨j1,j2⟩:=hj.out
  clear hj
  by_cases hlt : j < 7
  ·obtain ⟨ofs,lo,hi,hf,hof0,hof,hex⟩:=el_at2 gp j hlt
   have hgo:=Pol.go_at (l:=l0) hf p a
   rw [HR.out] at hgo
   have hbr:=Pure.bread HY.out HN.out a (k:=40) (by decide)
   have hnx:=fun h => Pure.readn_next HY.out (a:=a) h
   generalize Pure.readn l0 a = q at hgo hbr hnx
   obtain ⟨n,m,er⟩:=q
   simp only at hgo hnx
   have Hx:=Aside0.mk hex
   have Hg:=Aside0.mk hgo
   have A2:=Aside0.mk hbr
   have Hm:=Aside0.mk hnx
   have Ho:=Aside0.mk hof
   have JL:=Aside0.mk hlt
   have J2:=Aside0.mk j2
   have hlt' : decide ((j : Int) < 7) = true:=decide_eq_true (by omega)
   have hj0 : (0 : Int) ≤ (j : Int):=by omega
   have hj7 : (j : Int) ≤ 6:=by omega
   clear hex hgo hbr hnx hf hof hof0 j1 j2 hlt HR
   by_cases he : er = 0
   ·subst he
    go_wp2_with (first | ((with_reducible refine gate_dst (N:=66) rfl ?_);refine iaddr_event (t:=102) (e:=94) (x:=62) (y:=64) (N:=66) (j:=j) rfl rfl rfl rfl rfl Try.underlying102 (by kernel_rfl) JL.out ?_) | ((with_reducible refine gate_dst (N:=67) rfl ?_);refine get_event (t:=94) (x:=66) (N:=67) rfl rfl rfl [.pointer (some ⟨gp,ofs,none⟩),.int .i64 lo,.int .i64 hi] Kgl.out rfl Hx.out Try.underlying94 rfl (by kernel_rfl) ?_) | ((with_reducible refine gate_dst (N:=13) rfl ?_);replace HB : Aside0 (Below w.heap.size w wr):=HB;refine box_event ?hg (N:=13) ?hd (cs:=#[.pointer none,.int .i64 0,.int .i64 0]) (t:=94) ?hr ?_;(case hd => rfl);(case hg => rfl);(case hr => first | (go_simp;done) | (go_simp;rfl));intro gx hg W101 hbox hb;have Lgx : Aside0 (w.heap.size ≤ gx):=Aside0.mk (by rw [hg];exact below_size HB.out);have Ngr_gx : Aside0 (gr ≠ gx):=Aside0.mk (by rw [hg];exact Nat.ne_of_lt (blk_lt Kgr.out));have Ngx_gr : Aside0 (gx ≠ gr):=Aside0.mk (fun e => Ngr_gx.out e.symm);have Ngf_gx : Aside0 (gf ≠ gx):=Aside0.mk (by rw [hg];exact Nat.ne_of_lt (blk_lt Kgf.out));have Ngx_gf : Aside0 (gx ≠ gf):=Aside0.mk (fun e => Ngf_gx.out e.symm);have Ngl_gx : Aside0 (gl ≠ gx):=Aside0.mk (by rw [hg];exact Nat.ne_of_lt (blk_lt Kgl.out));have Ngx_gl : Aside0 (gx ≠ gl):=Aside0.mk (fun e => Ngl_gx.out e.symm);have Ngp_gx : Aside0 (gp ≠ gx):=Aside0.mk (by rw [hg];exact Nat.ne_of_lt (blk_lt KP.out));have Ngx_gp : Aside0 (gx ≠ gp):=Aside0.mk (fun e => Ngp_gx.out e.symm);replace Kgr:=Aside0.mk (blk_below Kgr.out hb);replace Kgf:=Aside0.mk (blk_below Kgf.out hb);replace Kgl:=Aside0.mk (blk_below Kgl.out hb);replace KP:=Aside0.mk (PB.below KP.out hb);replace HB : Aside0 (Below w.heap.size w W101):=Aside0.mk (below_step HB.out hb);have Kgx : Aside0 (W101.heap[gx]? = some (.cells #[.pointer none,.int .i64 0,.int .i64 0] 94 (0,0))):=Aside0.mk hbox;clear hb hbox hg;have kgr:=blk_cell Kgr.out;have fgr:=blk_frozen Kgr.out;have kgf:=blk_cell Kgf.out;have fgf:=blk_frozen Kgf.out;have kgx:=blk_cell Kgx.out;have fgx:=blk_frozen Kgx.out) | ((with_reducible refine gate_store (t:=94) (p:=13) rfl ?_);replace HB : Aside0 (Below w.heap.size w W101):=HB;refine H.put_event (t:=94) (p:=13) (i:=0) rfl rfl rfl [.pointer (some ⟨gp,ofs,none⟩),.int .i64 lo,.int .i64 hi] Kgx.out rfl rfl (by kernel_rfl) (by kernel_rfl) (by kernel_rfl) ?_;intro W102 hw;replace Kgr:=Aside0.mk (H.far_fill hw Ngr_gx.out Kgr.out);replace Kgf:=Aside0.mk (H.far_fill hw Ngf_gx.out Kgf.out);replace Kgl:=Aside0.mk (H.far_fill hw Ngl_gx.out Kgl.out);replace Kgx : Aside0 (W102.heap[gx]? = some (.cells #[.pointer (some ⟨gp,ofs,none⟩),.int .i64 lo,.int .i64 hi] 94 (0,0))):=Aside0.mk (H.blk_fill hw Kgx.out (by kernel_rfl));replace KP:=Aside0.mk (PB.far KP.out hw Ngp_gx.out);replace HB : Aside0 (Below w.heap.size w W102):=Aside0.mk (H.below_fill hw Lgx.out HB.out);clear kgr fgr kgf fgf kgx fgx;clear hw;have kgr:=blk_cell Kgr.out;have fgr:=blk_frozen Kgr.out;have kgf:=blk_cell Kgf.out;have fgf:=blk_frozen Kgf.out;have kgx:=blk_cell Kgx.out;have fgx:=blk_frozen Kgx.out) | (go_at_call 76;replace HB : Aside0 (Below w.heap.size w W102):=HB;(with_reducible refine (bits_Read.calls 40 _ _ l0 a n m 0 _ ?qA21 ?qA22 A2.out).mono ?_);(case qA21 => exact Kd.C_below HR0.out HB.out);(case qA22 => exact HC0.out);rintro e W103 ⟨rfl,hd⟩;have hb:=Drawn0.below hd;clear hd;replace Kgr:=Aside0.mk (blk_below Kgr.out hb);replace Kgf:=Aside0.mk (blk_below Kgf.out hb);replace Kgl:=Aside0.mk (blk_below Kgl.out hb);replace Kgx:=Aside0.mk (blk_below Kgx.out hb);replace KP:=Aside0.mk (PB.below KP.out hb);replace HB : Aside0 (Below w.heap.size w W103):=Aside0.mk (below_step HB.out hb);clear kgr fgr kgf fgf kgx fgx;clear hb;have kgr:=blk_cell Kgr.out;have fgr:=blk_frozen Kgr.out;have kgf:=blk_cell Kgf.out;have fgf:=blk_frozen Kgf.out;have kgx:=blk_cell Kgx.out;have fgx:=blk_frozen Kgx.out;have kx:=PB.cell KP.out Ho.out;have fx:=blk_frozen KP.out) | ((with_reducible refine gate_store (t:=3) (p:=85) rfl ?_);refine store_event (t:=3) (p:=85) (v:=?vo85) (w1:=World.setCell W103 ⟨gp,ofs,none⟩ (.int .i64 n)) ?hg ?ho ?hn ?hr ?_;(case ho => rfl);(case hg => rfl);(case hn => rfl);(case hr => go_simp;done);intro W104 hw;have nP:=Aside0.mk (PB.put KP.out Ho.out hw);replace Kgr:=Aside0.mk (blk_far1 hw Ngr_gp.out Kgr.out);replace Kgf:=Aside0.mk (blk_far1 hw Ngf_gp.out Kgf.out);replace Kgl:=Aside0.mk (blk_far1 hw Ngl_gp.out Kgl.out);replace Kgx:=Aside0.mk (blk_far1 hw Ngx_gp.out Kgx.out);replace HB : Aside0 (Below w.heap.size w W104):=Aside0.mk (by rw [hw];exact below_set HB.out Lgp.out);clear kgr fgr kgf fgf kgx fgx kx fx;clear KP;have KP:=nP;clear nP hw))
    go_roundg (gk - 1)
    case measure => have:=J2.out;have:=JL.out;omega
    case rel =>
     have e9:=Hg.out
     rw [if_pos trivial] at e9
     have e8:=Hm.out trivial
     exact ⟨j + 1,m,_,by go_num,rfl,⟨by have:=JL.out;omega,by have:=J2.out;have:=JL.out;omega⟩,⟨⟨by have:=HX.out;omega,by omega⟩⟩,⟨e9.symm⟩,Kgr,Kgf,KP,Kgl,HB⟩
   ·have HE:=Aside0.mk he
    go_wp2_with (first | ((with_reducible refine gate_dst (N:=66) rfl ?_);refine iaddr_event (t:=102) (e:=94) (x:=62) (y:=64) (N:=66) (j:=j) rfl rfl rfl rfl rfl Try.underlying102 (by kernel_rfl) JL.out ?_) | ((with_reducible refine gate_dst (N:=67) rfl ?_);refine get_event (t:=94) (x:=66) (N:=67) rfl rfl rfl [.pointer (some ⟨gp,ofs,none⟩),.int .i64 lo,.int .i64 hi] Kgl.out rfl Hx.out Try.underlying94 rfl (by kernel_rfl) ?_) | ((with_reducible refine gate_dst (N:=13) rfl ?_);replace HB : Aside0 (Below w.heap.size w wr):=HB;refine box_event ?hg (N:=13) ?hd (cs:=#[.pointer none,.int .i64 0,.int .i64 0]) (t:=94) ?hr ?_;(case hd => rfl);(case hg => rfl);(case hr => first | (go_simp;done) | (go_simp;rfl));intro gx hg W101 hbox hb;have Lgx : Aside0 (w.heap.size ≤ gx):=Aside0.mk (by rw [hg];exact below_size HB.out);have Ngr_gx : Aside0 (gr ≠ gx):=Aside0.mk (by rw [hg];exact Nat.ne_of_lt (blk_lt Kgr.out));have Ngx_gr : Aside0 (gx ≠ gr):=Aside0.mk (fun e => Ngr_gx.out e.symm);have Ngf_gx : Aside0 (gf ≠ gx):=Aside0.mk (by rw [hg];exact Nat.ne_of_lt (blk_lt Kgf.out));have Ngx_gf : Aside0 (gx ≠ gf):=Aside0.mk (fun e => Ngf_gx.out e.symm);have Ngl_gx : Aside0 (gl ≠ gx):=Aside0.mk (by rw [hg];exact Nat.ne_of_lt (blk_lt Kgl.out));have Ngx_gl : Aside0 (gx ≠ gl):=Aside0.mk (fun e => Ngl_gx.out e.symm);have Ngp_gx : Aside0 (gp ≠ gx):=Aside0.mk (by rw [hg];exact Nat.ne_of_lt (blk_lt KP.out));have Ngx_gp : Aside0 (gx ≠ gp):=Aside0.mk (fun e => Ngp_gx.out e.symm);replace Kgr:=Aside0.mk (blk_below Kgr.out hb);replace Kgf:=Aside0.mk (blk_below Kgf.out hb);replace Kgl:=Aside0.mk (blk_below Kgl.out hb);replace KP:=Aside0.mk (PB.below KP.out hb);replace HB : Aside0 (Below w.heap.size w W101):=Aside0.mk (below_step HB.out hb);have Kgx : Aside0 (W101.heap[gx]? = some (.cells #[.pointer none,.int .i64 0,.int .i64 0] 94 (0,0))):=Aside0.mk hbox;clear hb hbox hg;have kgr:=blk_cell Kgr.out;have fgr:=blk_frozen Kgr.out;have kgf:=blk_cell Kgf.out;have fgf:=blk_frozen Kgf.out;have kgx:=blk_cell Kgx.out;have fgx:=blk_frozen Kgx.out) | ((with_reducible refine gate_store (t:=94) (p:=13) rfl ?_);replace HB : Aside0 (Below w.heap.size w W101):=HB;refine H.put_event (t:=94) (p:=13) (i:=0) rfl rfl rfl [.pointer (some ⟨gp,ofs,none⟩),.int .i64 lo,.int .i64 hi] Kgx.out rfl rfl (by kernel_rfl) (by kernel_rfl) (by kernel_rfl) ?_;intro W102 hw;replace Kgr:=Aside0.mk (H.far_fill hw Ngr_gx.out Kgr.out);replace Kgf:=Aside0.mk (H.far_fill hw Ngf_gx.out Kgf.out);replace Kgl:=Aside0.mk (H.far_fill hw Ngl_gx.out Kgl.out);replace Kgx : Aside0 (W102.heap[gx]? = some (.cells #[.pointer (some ⟨gp,ofs,none⟩),.int .i64 lo,.int .i64 hi] 94 (0,0))):=Aside0.mk (H.blk_fill hw Kgx.out (by kernel_rfl));replace KP:=Aside0.mk (PB.far KP.out hw Ngp_gx.out);replace HB : Aside0 (Below w.heap.size w W102):=Aside0.mk (H.below_fill hw Lgx.out HB.out);clear kgr fgr kgf fgf kgx fgx;clear hw;have kgr:=blk_cell Kgr.out;have fgr:=blk_frozen Kgr.out;have kgf:=blk_cell Kgf.out;have fgf:=blk_frozen Kgf.out;have kgx:=blk_cell Kgx.out;have fgx:=blk_frozen Kgx.out) | (go_at_call 76;replace HB : Aside0 (Below w.heap.size w W102):=HB;(with_reducible refine (bits_Read.calls 40 _ _ l0 a n m er _ ?qA21 ?qA22 A2.out).mono ?_);(case qA21 => exact Kd.C_below HR0.out HB.out);(case qA22 => exact HC0.out);rintro e W103 ⟨rfl,hd⟩;have hb:=Drawn0.below hd;clear hd;replace Kgr:=Aside0.mk (blk_below Kgr.out hb);replace Kgf:=Aside0.mk (blk_below Kgf.out hb);replace Kgl:=Aside0.mk (blk_below Kgl.out hb);replace Kgx:=Aside0.mk (blk_below Kgx.out hb);replace KP:=Aside0.mk (PB.below KP.out hb);replace HB : Aside0 (Below w.heap.size w W103):=Aside0.mk (below_step HB.out hb);clear kgr fgr kgf fgf kgx fgx;clear hb;have kgr:=blk_cell Kgr.out;have fgr:=blk_frozen Kgr.out;have kgf:=blk_cell Kgf.out;have fgf:=blk_frozen Kgf.out;have kgx:=blk_cell Kgx.out;have fgx:=blk_frozen Kgx.out) | ((with_reducible refine gate_store (t:=45) (p:=2) rfl ?_);replace HB : Aside0 (Below w.heap.size w W103):=HB;refine H.put_event (t:=45) (p:=2) (i:=0) rfl rfl rfl [.int .i64 0,.int .i64 0,.int .i64 0,.int .i64 0,.int .i64 0,.int .i64 0,.int .i64 0,.int .i64 0,.int .i64 0,.int .i64 0] Kgr.out rfl rfl (by kernel_rfl) (by kernel_rfl) (by kernel_rfl) ?_;intro W104 hw;replace Kgr : Aside0 (W104.heap[gr]? = some (.cells #[.int .i64 0,.int .i64 0,.int .i64 0,.int .i64 0,.int .i64 0,.int .i64 0,.int .i64 0,.int .i64 0,.int .i64 0,.int .i64 0] 45 (0,0))):=Aside0.mk (H.blk_fill hw Kgr.out (by kernel_rfl));replace Kgf:=Aside0.mk (H.far_fill hw Ngf_gr.out Kgf.out);replace Kgl:=Aside0.mk (H.far_fill hw Ngl_gr.out Kgl.out);replace Kgx:=Aside0.mk (H.far_fill hw Ngx_gr.out Kgx.out);replace KP:=Aside0.mk (PB.far KP.out hw Ngp_gr.out);replace HB : Aside0 (Below w.heap.size w W104):=Aside0.mk (H.below_fill hw Lgr.out HB.out);clear kgr fgr kgf fgf kgx fgx;clear hw;have kgr:=blk_cell Kgr.out;have fgr:=blk_frozen Kgr.out;have kgf:=blk_cell Kgf.out;have fgf:=blk_frozen Kgf.out;have kgx:=blk_cell Kgx.out;have fgx:=blk_frozen Kgx.out) | ((with_reducible refine gate_store (t:=50) (p:=4) rfl ?_);replace HB : Aside0 (Below w.heap.size w W104):=HB;refine H.put_event (t:=50) (p:=4) (i:=0) rfl rfl rfl [.int .i64 er,.int .i64 a] Kgf.out rfl rfl (by kernel_rfl) (by kernel_rfl) (by kernel_rfl) ?_;intro W105 hw;replace Kgr:=Aside0.mk (H.far_fill hw Ngr_gf.out Kgr.out);replace Kgf : Aside0 (W105.heap[gf]? = some (.cells #[.int .i64 er,.int .i64 a] 50 (0,0))):=Aside0.mk (H.blk_fill hw Kgf.out (by kernel_rfl));replace Kgl:=Aside0.mk (H.far_fill hw Ngl_gf.out Kgl.out);replace Kgx:=Aside0.mk (H.far_fill hw Ngx_gf.out Kgx.out);replace KP:=Aside0.mk (PB.far KP.out hw Ngp_gf.out);replace HB : Aside0 (Below w.heap.size w W105):=Aside0.mk (H.below_fill hw Lgf.out HB.out);clear kgr fgr kgf fgf kgx fgx;clear hw;have kgr:=blk_cell Kgr.out;have fgr:=blk_frozen Kgr.out;have kgf:=blk_cell Kgf.out;have fgf:=blk_frozen Kgf.out;have kgx:=blk_cell Kgx.out;have fgx:=blk_frozen Kgx.out))
    have e9:=Hg.out
    rw [if_neg HE.out] at e9
    rw [e9]
    refine bodyPost_ret (results_ctc rfl _ _ gr gf 45 50 #[.int .i64 0,.int .i64 0,.int .i64 0,.int .i64 0,.int .i64 0,.int .i64 0,.int .i64 0,.int .i64 0,.int .i64 0,.int .i64 0] #[.int .i64 er,.int .i64 a] (0,0) (0,0) _ _ rfl Kgr.out Try.underlying45 rfl (by kernel_rfl) rfl Kgf.out Try.underlying50 rfl (by kernel_rfl)) rfl ?_
    exact ⟨rfl,HB.out⟩
  ·obtain rfl : 7 = j:=by omega
   clear hlt j1 j2
   obtain ⟨a0,a1⟩:=HX.out
   have hgo:=HR.out
   rw [show Pol.flds2.drop (7 + 1) = [] from rfl] at hgo
   change Pol.tail l0 p a = R at hgo
   unfold Pol.tail at hgo
   have cR:=fun w => right_ext p w
   have Kgp : Aside0 (wr.heap[gp]? = some (.cells #[.int .i64 (p.kind),.int .i64 (p.cap),.int .i64 (p.num),.int .i64 (p.den),.int .i64 (p.width),.int .i64 (p.count),.int .i64 (p.keys),.int .i64 (p.slots),.int .i64 (p.every),.int .i64 (p.seg)] 45 (0,0))):=Aside0.mk KP.out
   clear KP HR
   by_cases c1 : Pol.ok p = true
   ·rw [if_pos c1] at hgo
    rw [c1] at cR
    simp only [if_true] at cR
    have hrd:=Pure.read6 (l:=l0) (i:=a) 39 HY.out HN.out (by omega) (by have:=HN.out;omega)
    generalize M.rd6 l0 a = q at hgo hrd
    obtain ⟨s1,s2,m,er⟩:=q
    simp only at hgo
    have htb : M.bytes (l0.take a.toNat) = true:=by
     have:=HY.out
     unfold M.bytes at this ⊢
     rw [List.all_eq_true] at this ⊢
     exact fun z hz => this z (List.mem_of_mem_take hz)
    have hadd : seal_Add.f 1 2 (l0.take a.toNat) = some ((M.add (1,2) (l0.take a.toNat)).1,(M.add (1,2) (l0.take a.toNat)).2,0):=Pure.add_ok (by decide) htb (by have:=HN.out;rw [List.length_take];omega)
    have hcut2:=cutn A0 l0 c0 a a0 a1 HC0.out
    have TL:=Aside0.mk (show a.toNat ≤ l0.length by omega)
    generalize hT : l0.take a.toNat = tl at hcut2 hadd hgo htb
    have HT:=Aside0.mk hT
    clear hT
    generalize M.add (1,2) tl = du at hgo hadd
    obtain ⟨d1,d2⟩:=du
    have A3:=Aside0.mk hrd
    have HA:=Aside0.mk hadd
    clear hrd hadd htb a0 a1 c1
    have hu23:=Try.underlying23
    have Hgo:=Aside0.mk hgo
    clear hgo
    go_wp2_with (first | ((with_reducible refine gate_dst (N:=87) rfl ?_);replace HB : Aside0 (Below w.heap.size w wr):=HB;refine H.get_event (t:=45) (x:=5) (N:=87) (i:=0) rfl rfl rfl [.int .i64 (p.kind),.int .i64 (p.cap),.int .i64 (p.num),.int .i64 (p.den),.int .i64 (p.width),.int .i64 (p.count),.int .i64 (p.keys),.int .i64 (p.slots),.int .i64 (p.every),.int .i64 (p.seg)] Kgp.out rfl (by kernel_rfl) Try.underlying45 rfl (by kernel_rfl) ?_) | (go_at_call 64;replace HB : Aside0 (Below w.heap.size w wr):=HB;(with_reducible refine (cR _).mono ?_);rintro e W201 ⟨rfl,hb⟩;replace Kgr:=Aside0.mk (blk_below Kgr.out hb);replace Kgf:=Aside0.mk (blk_below Kgf.out hb);replace Kgl:=Aside0.mk (blk_below Kgl.out hb);replace Kgp:=Aside0.mk (blk_below Kgp.out hb);replace HB : Aside0 (Below w.heap.size w W201):=Aside0.mk (below_step HB.out hb);clear hb;have kgr:=blk_cell Kgr.out;have fgr:=blk_frozen Kgr.out;have kgf:=blk_cell Kgf.out;have fgf:=blk_frozen Kgf.out;have kgp:=blk_cell Kgp.out;have fgp:=blk_frozen Kgp.out) | (go_at_call 37;replace HB : Aside0 (Below w.heap.size w W201):=HB;(with_reducible refine (seal_Read.calls 40 _ _ l0 a s1 s2 m er _ ?u1 ?u2 A3.out).mono ?_);(case u1 => exact Kd.C_below HR0.out HB.out);(case u2 => exact HC0.out);rintro e W202 ⟨rfl,hb⟩;replace Kgr:=Aside0.mk (blk_below Kgr.out hb);replace Kgf:=Aside0.mk (blk_below Kgf.out hb);replace Kgl:=Aside0.mk (blk_below Kgl.out hb);replace Kgp:=Aside0.mk (blk_below Kgp.out hb);replace HB : Aside0 (Below w.heap.size w W202):=Aside0.mk (below_step HB.out hb);clear kgr fgr kgf fgf kgp fgp;clear hb;have kgr:=blk_cell Kgr.out;have fgr:=blk_frozen Kgr.out;have kgf:=blk_cell Kgf.out;have fgf:=blk_frozen Kgf.out;have kgp:=blk_cell Kgp.out;have fgp:=blk_frozen Kgp.out) | ((with_reducible refine gate_dst (N:=18) rfl ?_);replace HB : Aside0 (Below w.heap.size w W202):=HB;refine box_event ?hg (N:=18) ?hd (cs:=#[.int .i64 0,.int .i64 0]) (t:=23) ?hr ?_;(case hd => rfl);(case hg => rfl);(case hr => first | (go_simp;done) | (go_simp;rfl));intro gu hg W203 hbox hb;have Lgu : Aside0 (w.heap.size ≤ gu):=Aside0.mk (by rw [hg];exact below_size HB.out);have Ngr_gu : Aside0 (gr ≠ gu):=Aside0.mk (by rw [hg];exact Nat.ne_of_lt (blk_lt Kgr.out));have Ngu_gr : Aside0 (gu ≠ gr):=Aside0.mk (fun e => Ngr_gu.out e.symm);have Ngf_gu : Aside0 (gf ≠ gu):=Aside0.mk (by rw [hg];exact Nat.ne_of_lt (blk_lt Kgf.out));have Ngu_gf : Aside0 (gu ≠ gf):=Aside0.mk (fun e => Ngf_gu.out e.symm);have Ngl_gu : Aside0 (gl ≠ gu):=Aside0.mk (by rw [hg];exact Nat.ne_of_lt (blk_lt Kgl.out));have Ngu_gl : Aside0 (gu ≠ gl):=Aside0.mk (fun e => Ngl_gu.out e.symm);have Ngp_gu : Aside0 (gp ≠ gu):=Aside0.mk (by rw [hg];exact Nat.ne_of_lt (blk_lt Kgp.out));have Ngu_gp : Aside0 (gu ≠ gp):=Aside0.mk (fun e => Ngp_gu.out e.symm);replace Kgr:=Aside0.mk (blk_below Kgr.out hb);replace Kgf:=Aside0.mk (blk_below Kgf.out hb);replace Kgl:=Aside0.mk (blk_below Kgl.out hb);replace Kgp:=Aside0.mk (blk_below Kgp.out hb);replace HB : Aside0 (Below w.heap.size w W203):=Aside0.mk (below_step HB.out hb);clear kgr fgr kgf fgf kgp fgp;have Kgu : Aside0 (W203.heap[gu]? = some (.cells #[.int .i64 0,.int .i64 0] 23 (0,0))):=Aside0.mk hbox;clear hb hbox hg;have kgr:=blk_cell Kgr.out;have fgr:=blk_frozen Kgr.out;have kgf:=blk_cell Kgf.out;have fgf:=blk_frozen Kgf.out;have kgp:=blk_cell Kgp.out;have fgp:=blk_frozen Kgp.out;have kgu:=blk_cell Kgu.out;have fgu:=blk_frozen Kgu.out) | ((with_reducible refine gate_store (t:=23) (p:=18) rfl ?_);replace HB : Aside0 (Below w.heap.size w W203):=HB;refine H.put_event (t:=23) (p:=18) (i:=0) rfl rfl rfl [.int .i64 s1,.int .i64 s2] Kgu.out rfl rfl (by kernel_rfl) (by kernel_rfl) (by kernel_rfl) ?_;intro W204 hw;replace Kgr:=Aside0.mk (H.far_fill hw Ngr_gu.out Kgr.out);replace Kgf:=Aside0.mk (H.far_fill hw Ngf_gu.out Kgf.out);replace Kgl:=Aside0.mk (H.far_fill hw Ngl_gu.out Kgl.out);replace Kgp:=Aside0.mk (H.far_fill hw Ngp_gu.out Kgp.out);replace Kgu : Aside0 (W204.heap[gu]? = some (.cells #[.int .i64 s1,.int .i64 s2] 23 (0,0))):=Aside0.mk (H.blk_fill hw Kgu.out (by kernel_rfl));replace HB : Aside0 (Below w.heap.size w W204):=Aside0.mk (H.below_fill hw Lgu.out HB.out);clear kgr fgr kgf fgf kgp fgp kgu fgu;clear hw;have kgr:=blk_cell Kgr.out;have fgr:=blk_frozen Kgr.out;have kgf:=blk_cell Kgf.out;have fgf:=blk_frozen Kgf.out;have kgp:=blk_cell Kgp.out;have fgp:=blk_frozen Kgp.out;have kgu:=blk_cell Kgu.out;have fgu:=blk_frozen Kgu.out))
    replace Kgr:=Aside0.mk (blk_drew Kgr.out); 
    replace Kgf:=Aside0.mk (blk_drew Kgf.out); 
    replace Kgl:=Aside0.mk (blk_drew Kgl.out); 
    replace Kgp:=Aside0.mk (blk_drew Kgp.out); 
    replace Kgu:=Aside0.mk (blk_drew Kgu.out); 
    replace HB:=Aside0.mk (below_drew1 HB.out); 
    clear kgr fgr kgf fgf kgp fgp kgu fgu
    refine start_ (n:=11) (S:=fun w' => True) (ds:=[]) #[false,false,false,false,false,false,false,false,false,false,false] (by kernel_rfl) rfl rfl trivial (fun hHeld => ?_)
    refine with_tabW t43_24.tab t43_24.bits (fun HT_ HW_ => ?_)
    generalize W204.drew = W205 at Kgr Kgf Kgl Kgp Kgu HB ⊢
    refine pure_ (i:=1) (N:=some 103) (v:=?_) (a':=?_) #[false,true,false,false,false,false,false,false,false,false,false] rfl rfl (any_of HT_.out (by kernel_rfl)) (fun _ _ _ h => h) (Or.inl ⟨by rfl,?_⟩) ?_ ?_
    rotate_left
    ·intro w'
     go_simp
     with_reducible rfl
    rotate_left
    ·simp only [Act.put,zA,zB,zC,i64_w,i32_w]
     rfl
    refine pure_ (i:=2) (N:=some 104) (v:=?_) (a':=?_) #[false,true,true,false,false,false,false,false,false,false,false] rfl rfl (any_of HT_.out (by kernel_rfl)) (fun _ _ _ h => h) (Or.inl ⟨by rfl,?_⟩) ?_ ?_
    rotate_left
    ·intro w'
     go_simp
     with_reducible rfl
    rotate_left
    ·simp only [Act.put,zA,zB,zC,i64_w,i32_w]
     rfl
    refine pure_ (i:=3) (N:=some 105) (v:=?_) (a':=?_) #[false,true,true,true,false,false,false,false,false,false,false] rfl rfl (any_of HT_.out (by kernel_rfl)) (fun _ _ _ h => h) (Or.inl ⟨by rfl,?_⟩) ?_ ?_
    rotate_left
    ·intro w'
     go_simp
     with_reducible rfl
    rotate_left
    ·simp only [Act.put,zA,zB,zC,i64_w,i32_w]
     rfl
    refine join_ (σ:=Nat) 2 #[true,true,true,true,true,true,true,true,true,false,false] (fun gv => [(102,.agg #[.int .i64 1,.int .i64 2]),(106,.tuple #[.agg #[.int .i64 d1,.int .i64 d2],.int .i64 0]),(101,.tuple #[.agg #[.int .i64 d1,.int .i64 d2],.int .i64 0]),(107,.agg #[.int .i64 d1,.int .i64 d2]),(108,.int .i64 0),(19,.pointer (some ⟨gv,0,none⟩))]) (fun gv w' => Aside0 (w'.heap[gr]? = some (.cells #[.int .i64 0,.int .i64 0,.int .i64 0,.int .i64 0,.int .i64 0,.int .i64 0,.int .i64 0,.int .i64 0,.int .i64 0,.int .i64 0] 45 (0,0))) ∧ Aside0 (w'.heap[gf]? = some (.cells #[.int .i64 0,.int .i64 0] 50 (0,0))) ∧ Aside0 (w'.heap[gl]? = some (.cells #[.pointer (some ⟨gp,0,none⟩),.int .i64 1,.int .i64 2,.pointer (some ⟨gp,1,none⟩),.int .i64 1,.int .i64 1048576,.pointer (some ⟨gp,4,none⟩),.int .i64 1,.int .i64 1048576,.pointer (some ⟨gp,5,none⟩),.int .i64 1,.int .i64 32,.pointer (some ⟨gp,6,none⟩),.int .i64 1,.int .i64 1000,.pointer (some ⟨gp,7,none⟩),.int .i64 1,.int .i64 64,.pointer (some ⟨gp,8,none⟩),.int .i64 0,.int .i64 1000,.pointer (some ⟨gp,9,none⟩),.int .i64 1,.int .i64 1000] 95 (0,0))) ∧ Aside0 (w'.heap[gp]? = some (.cells #[.int .i64 (p.kind),.int .i64 (p.cap),.int .i64 (p.num),.int .i64 (p.den),.int .i64 (p.width),.int .i64 (p.count),.int .i64 (p.keys),.int .i64 (p.slots),.int .i64 (p.every),.int .i64 (p.seg)] 45 (0,0))) ∧ Aside0 (w'.heap[gu]? = some (.cells #[.int .i64 s1,.int .i64 s2] 23 (0,0))) ∧ Aside0 (w'.heap[gv]? = some (.cells #[.int .i64 0,.int .i64 0] 23 (0,0))) ∧ Aside0 (Below w.heap.size w w') ∧ Aside0 (w.heap.size ≤ gv) ∧ Aside0 (gr ≠ gv) ∧ Aside0 (gf ≠ gv) ∧ Aside0 (gl ≠ gv) ∧ Aside0 (gp ≠ gv) ∧ Aside0 (gu ≠ gv) ∧ Aside0 (gv ≠ gr) ∧ Aside0 (gv ≠ gf) ∧ Aside0 (gv ≠ gl) ∧ Aside0 (gv ≠ gp) ∧ Aside0 (gv ≠ gu)) ?_ ?_
    rotate_left
    ·intro hCont
     refine two_ (i:=0) (j:=8) (Ni:=some 102) (Nj:=some 19) #[true,true,true,true,false,false,false,false,false,false,false] #[false,true,true,true,false,false,false,false,true,false,false] rfl rfl rfl rfl (two_of HT_.out (by kernel_rfl)) (by decide) (by decide) (fun K hK => ?_) (fun K hK => ?_)
     ·skip
      refine goes_ Try.func31 (by kernel_rfl) rfl #[] (by rfl) rfl rfl (by (try simp only [List.map_toArray,List.map_cons,List.map_nil]);first | done | rfl) ?_
      with_reducible refine (S.start_calls _).mono ?_
      rintro e W256 ⟨rfl,hb⟩
      refine ⟨_,rfl,?_⟩
      have ngr:=Aside0.mk (blk_below Kgr.out hb)
      have ngf:=Aside0.mk (blk_below Kgf.out hb)
      have ngl:=Aside0.mk (blk_below Kgl.out hb)
      have ngp:=Aside0.mk (blk_below Kgp.out hb)
      have ngu:=Aside0.mk (blk_below Kgu.out hb)
      have nB : Aside0 (Below w.heap.size w W256):=Aside0.mk (below_step HB.out hb)
      clear Kgr;have Kgr:=ngr;clear ngr
      clear Kgf;have Kgf:=ngf;clear ngf
      clear Kgl;have Kgl:=ngl;clear ngl
      clear Kgp;have Kgp:=ngp;clear ngp
      clear Kgu;have Kgu:=ngu;clear ngu
      clear HB;have HB:=nB;clear nB
      clear hb
      refine hK.out _ _ trivial (fun hHeld => ?_)
      clear hK K
      refine norm_ (a':=?_) ?_ ?_
      rotate_left
      ·show Act.put _ (some 102) _ = _
       simp only [Act.put,zA,zB,zC,i64_w,i32_w]
       rfl
      refine two_ (i:=4) (j:=8) (Ni:=some 106) (Nj:=some 19) #[true,true,true,true,true,false,false,false,false,false,false] #[true,true,true,true,false,false,false,false,true,false,false] rfl rfl rfl rfl (two_of HT_.out (by kernel_rfl)) (by decide) (by decide) (fun K hK => ?_) (fun K hK => ?_)
      ·skip
       refine goes_ Try.func27 (by kernel_rfl) rfl #[.agg #[.int .i64 1,.int .i64 2],.slice A0 tl.length c0] (by rfl) rfl rfl (by (try simp only [List.map_toArray,List.map_cons,List.map_nil]);first | done | rfl) ?_
       with_reducible refine (seal_Add.calls 1 2 _ _ tl d1 d2 0 _ (by rw [← HT.out];exact take_C (Kd.C_below HR0.out HB.out) TL.out) (by have:=HC0.out;rw [← HT.out,List.length_take];omega) HA.out).mono ?_
       rintro e W257 ⟨rfl,hb⟩
       refine ⟨_,rfl,?_⟩
       have ngr:=Aside0.mk (blk_below Kgr.out hb)
       have ngf:=Aside0.mk (blk_below Kgf.out hb)
       have ngl:=Aside0.mk (blk_below Kgl.out hb)
       have ngp:=Aside0.mk (blk_below Kgp.out hb)
       have ngu:=Aside0.mk (blk_below Kgu.out hb)
       have nB : Aside0 (Below w.heap.size w W257):=Aside0.mk (below_step HB.out hb)
       clear Kgr;have Kgr:=ngr;clear ngr
       clear Kgf;have Kgf:=ngf;clear ngf
       clear Kgl;have Kgl:=ngl;clear ngl
       clear Kgp;have Kgp:=ngp;clear ngp
       clear Kgu;have Kgu:=ngu;clear ngu
       clear HB;have HB:=nB;clear nB
       clear hb
       refine hK.out _ _ trivial (fun hHeld => ?_)
       clear hK K
       refine norm_ (a':=?_) ?_ ?_
       rotate_left
       ·show Act.put _ (some 106) _ = _
        simp only [Act.put,zA,zB,zC,i64_w,i32_w]
        rfl
       refine pure_ (i:=5) (N:=some 101) (v:=?_) (a':=?_) #[true,true,true,true,true,true,false,false,false,false,false] rfl rfl (any_of HT_.out (by kernel_rfl)) (fun _ _ _ h => h) (Or.inl ⟨by rfl,?_⟩) ?_ ?_
       rotate_left
       ·intro w'
        go_simp
        with_reducible rfl
       rotate_left
       ·simp only [Act.put,zA,zB,zC,i64_w,i32_w]
        rfl
       refine pure_ (i:=6) (N:=some 107) (v:=?_) (a':=?_) #[true,true,true,true,true,true,true,false,false,false,false] rfl rfl (any_of HT_.out (by kernel_rfl)) (fun _ _ _ h => h) (Or.inl ⟨by rfl,?_⟩) ?_ ?_
       rotate_left
       ·intro w'
        go_simp
        with_reducible rfl
       rotate_left
       ·simp only [Act.put,zA,zB,zC,i64_w,i32_w]
        rfl
       refine pure_ (i:=7) (N:=some 108) (v:=?_) (a':=?_) #[true,true,true,true,true,true,true,true,false,false,false] rfl rfl (any_of HT_.out (by kernel_rfl)) (fun _ _ _ h => h) (Or.inl ⟨by rfl,?_⟩) ?_ ?_
       rotate_left
       ·intro w'
        go_simp
        with_reducible rfl
       rotate_left
       ·simp only [Act.put,zA,zB,zC,i64_w,i32_w]
        rfl
       refine one_ (i:=8) (N:=some 19) #[true,true,true,true,true,true,true,true,true,false,false] rfl rfl (one_of HT_.out (by kernel_rfl)) (by decide) (fun K hK => ?_)
       refine H.box_step (by rfl) rfl (cs:=#[.int .i64 0,.int .i64 0]) (t:=23) ?_ ?_
       ·first | (go_simp;done) | (go_simp;rfl)
       intro gv hg W258 hbox hb
       have Lgv : Aside0 (w.heap.size ≤ gv):=Aside0.mk (by rw [hg];exact below_size HB.out)
       have Ngr_gv : Aside0 (gr ≠ gv):=Aside0.mk (by rw [hg];exact Nat.ne_of_lt (blk_lt Kgr.out));have Ngv_gr : Aside0 (gv ≠ gr):=Aside0.mk (fun e => Ngr_gv.out e.symm)
       have Ngf_gv : Aside0 (gf ≠ gv):=Aside0.mk (by rw [hg];exact Nat.ne_of_lt (blk_lt Kgf.out));have Ngv_gf : Aside0 (gv ≠ gf):=Aside0.mk (fun e => Ngf_gv.out e.symm)
       have Ngl_gv : Aside0 (gl ≠ gv):=Aside0.mk (by rw [hg];exact Nat.ne_of_lt (blk_lt Kgl.out));have Ngv_gl : Aside0 (gv ≠ gl):=Aside0.mk (fun e => Ngl_gv.out e.symm)
       have Ngp_gv : Aside0 (gp ≠ gv):=Aside0.mk (by rw [hg];exact Nat.ne_of_lt (blk_lt Kgp.out));have Ngv_gp : Aside0 (gv ≠ gp):=Aside0.mk (fun e => Ngp_gv.out e.symm)
       have Ngu_gv : Aside0 (gu ≠ gv):=Aside0.mk (by rw [hg];exact Nat.ne_of_lt (blk_lt Kgu.out));have Ngv_gu : Aside0 (gv ≠ gu):=Aside0.mk (fun e => Ngu_gv.out e.symm)
       have ngr:=Aside0.mk (blk_below Kgr.out hb)
       have ngf:=Aside0.mk (blk_below Kgf.out hb)
       have ngl:=Aside0.mk (blk_below Kgl.out hb)
       have ngp:=Aside0.mk (blk_below Kgp.out hb)
       have ngu:=Aside0.mk (blk_below Kgu.out hb)
       have nB : Aside0 (Below w.heap.size w W258):=Aside0.mk (below_step HB.out hb)
       clear Kgr;have Kgr:=ngr;clear ngr
       clear Kgf;have Kgf:=ngf;clear ngf
       clear Kgl;have Kgl:=ngl;clear ngl
       clear Kgp;have Kgp:=ngp;clear ngp
       clear Kgu;have Kgu:=ngu;clear ngu
       clear HB;have HB:=nB;clear nB
       have Kgv : Aside0 (W258.heap[gv]? = some (.cells #[.int .i64 0,.int .i64 0] 23 (0,0))):=Aside0.mk hbox
       clear hb hbox hg
       refine hK.out _ _ trivial (fun hHeld => ?_)
       clear hK K
       refine norm_ (a':=?_) ?_ ?_
       rotate_left
       ·show Act.put _ (some 19) _ = _
        simp only [Act.put,zA,zB,zC,i64_w,i32_w]
        rfl
       exact norm_ (by simp only [putAll,Act.put,List.setIfInBounds_toArray,List.set_cons_zero,List.set_cons_succ]) (hCont gv _ ⟨Kgr,Kgf,Kgl,Kgp,Kgu,Kgv,HB,Lgv,Ngr_gv,Ngf_gv,Ngl_gv,Ngp_gv,Ngu_gv,Ngv_gr,Ngv_gf,Ngv_gl,Ngv_gp,Ngv_gu⟩)
      ·skip
       refine H.box_step (by rfl) rfl (cs:=#[.int .i64 0,.int .i64 0]) (t:=23) ?_ ?_
       ·first | (go_simp;done) | (go_simp;rfl)
       intro gv hg W259 hbox hb
       have Lgv : Aside0 (w.heap.size ≤ gv):=Aside0.mk (by rw [hg];exact below_size HB.out)
       have Ngr_gv : Aside0 (gr ≠ gv):=Aside0.mk (by rw [hg];exact Nat.ne_of_lt (blk_lt Kgr.out));have Ngv_gr : Aside0 (gv ≠ gr):=Aside0.mk (fun e => Ngr_gv.out e.symm)
       have Ngf_gv : Aside0 (gf ≠ gv):=Aside0.mk (by rw [hg];exact Nat.ne_of_lt (blk_lt Kgf.out));have Ngv_gf : Aside0 (gv ≠ gf):=Aside0.mk (fun e => Ngf_gv.out e.symm)
       have Ngl_gv : Aside0 (gl ≠ gv):=Aside0.mk (by rw [hg];exact Nat.ne_of_lt (blk_lt Kgl.out));have Ngv_gl : Aside0 (gv ≠ gl):=Aside0.mk (fun e => Ngl_gv.out e.symm)
       have Ngp_gv : Aside0 (gp ≠ gv):=Aside0.mk (by rw [hg];exact Nat.ne_of_lt (blk_lt Kgp.out));have Ngv_gp : Aside0 (gv ≠ gp):=Aside0.mk (fun e => Ngp_gv.out e.symm)
       have Ngu_gv : Aside0 (gu ≠ gv):=Aside0.mk (by rw [hg];exact Nat.ne_of_lt (blk_lt Kgu.out));have Ngv_gu : Aside0 (gv ≠ gu):=Aside0.mk (fun e => Ngu_gv.out e.symm)
       have ngr:=Aside0.mk (blk_below Kgr.out hb)
       have ngf:=Aside0.mk (blk_below Kgf.out hb)
       have ngl:=Aside0.mk (blk_below Kgl.out hb)
       have ngp:=Aside0.mk (blk_below Kgp.out hb)
       have ngu:=Aside0.mk (blk_below Kgu.out hb)
       have nB : Aside0 (Below w.heap.size w W259):=Aside0.mk (below_step HB.out hb)
       clear Kgr;have Kgr:=ngr;clear ngr
       clear Kgf;have Kgf:=ngf;clear ngf
       clear Kgl;have Kgl:=ngl;clear ngl
       clear Kgp;have Kgp:=ngp;clear ngp
       clear Kgu;have Kgu:=ngu;clear ngu
       clear HB;have HB:=nB;clear nB
       have Kgv : Aside0 (W259.heap[gv]? = some (.cells #[.int .i64 0,.int .i64 0] 23 (0,0))):=Aside0.mk hbox
       clear hb hbox hg
       refine hK.out _ _ trivial (fun hHeld => ?_)
       clear hK K
       refine norm_ (a':=?_) ?_ ?_
       rotate_left
       ·show Act.put _ (some 19) _ = _
        simp only [Act.put,zA,zB,zC,i64_w,i32_w]
        rfl
       refine one_ (i:=4) (N:=some 106) #[true,true,true,true,true,false,false,false,true,false,false] rfl rfl (one_of HT_.out (by kernel_rfl)) (by decide) (fun K hK => ?_)
       refine goes_ Try.func27 (by kernel_rfl) rfl #[.agg #[.int .i64 1,.int .i64 2],.slice A0 tl.length c0] (by rfl) rfl rfl (by (try simp only [List.map_toArray,List.map_cons,List.map_nil]);first | done | rfl) ?_
       with_reducible refine (seal_Add.calls 1 2 _ _ tl d1 d2 0 _ (by rw [← HT.out];exact take_C (Kd.C_below HR0.out HB.out) TL.out) (by have:=HC0.out;rw [← HT.out,List.length_take];omega) HA.out).mono ?_
       rintro e W260 ⟨rfl,hb⟩
       refine ⟨_,rfl,?_⟩
       have ngr:=Aside0.mk (blk_below Kgr.out hb)
       have ngf:=Aside0.mk (blk_below Kgf.out hb)
       have ngl:=Aside0.mk (blk_below Kgl.out hb)
       have ngp:=Aside0.mk (blk_below Kgp.out hb)
       have ngu:=Aside0.mk (blk_below Kgu.out hb)
       have ngv:=Aside0.mk (blk_below Kgv.out hb)
       have nB : Aside0 (Below w.heap.size w W260):=Aside0.mk (below_step HB.out hb)
       clear Kgr;have Kgr:=ngr;clear ngr
       clear Kgf;have Kgf:=ngf;clear ngf
       clear Kgl;have Kgl:=ngl;clear ngl
       clear Kgp;have Kgp:=ngp;clear ngp
       clear Kgu;have Kgu:=ngu;clear ngu
       clear Kgv;have Kgv:=ngv;clear ngv
       clear HB;have HB:=nB;clear nB
       clear hb
       refine hK.out _ _ trivial (fun hHeld => ?_)
       clear hK K
       refine norm_ (a':=?_) ?_ ?_
       rotate_left
       ·show Act.put _ (some 106) _ = _
        simp only [Act.put,zA,zB,zC,i64_w,i32_w]
        rfl
       refine pure_ (i:=5) (N:=some 101) (v:=?_) (a':=?_) #[true,true,true,true,true,true,false,false,true,false,false] rfl rfl (any_of HT_.out (by kernel_rfl)) (fun _ _ _ h => h) (Or.inl ⟨by rfl,?_⟩) ?_ ?_
       rotate_left
       ·intro w'
        go_simp
        with_reducible rfl
       rotate_left
       ·simp only [Act.put,zA,zB,zC,i64_w,i32_w]
        rfl
       refine pure_ (i:=6) (N:=some 107) (v:=?_) (a':=?_) #[true,true,true,true,true,true,true,false,true,false,false] rfl rfl (any_of HT_.out (by kernel_rfl)) (fun _ _ _ h => h) (Or.inl ⟨by rfl,?_⟩) ?_ ?_
       rotate_left
       ·intro w'
        go_simp
        with_reducible rfl
       rotate_left
       ·simp only [Act.put,zA,zB,zC,i64_w,i32_w]
        rfl
       refine pure_ (i:=7) (N:=some 108) (v:=?_) (a':=?_) #[true,true,true,true,true,true,true,true,true,false,false] rfl rfl (any_of HT_.out (by kernel_rfl)) (fun _ _ _ h => h) (Or.inl ⟨by rfl,?_⟩) ?_ ?_
       rotate_left
       ·intro w'
        go_simp
        with_reducible rfl
       rotate_left
       ·simp only [Act.put,zA,zB,zC,i64_w,i32_w]
        rfl
       exact norm_ (by simp only [putAll,Act.put,List.setIfInBounds_toArray,List.set_cons_zero,List.set_cons_succ]) (hCont gv _ ⟨Kgr,Kgf,Kgl,Kgp,Kgu,Kgv,HB,Lgv,Ngr_gv,Ngf_gv,Ngl_gv,Ngp_gv,Ngu_gv,Ngv_gr,Ngv_gf,Ngv_gl,Ngv_gp,Ngv_gu⟩)
     ·skip
      refine H.box_step (by rfl) rfl (cs:=#[.int .i64 0,.int .i64 0]) (t:=23) ?_ ?_
      ·first | (go_simp;done) | (go_simp;rfl)
      intro gv hg W261 hbox hb
      have Lgv : Aside0 (w.heap.size ≤ gv):=Aside0.mk (by rw [hg];exact below_size HB.out)
      have Ngr_gv : Aside0 (gr ≠ gv):=Aside0.mk (by rw [hg];exact Nat.ne_of_lt (blk_lt Kgr.out));have Ngv_gr : Aside0 (gv ≠ gr):=Aside0.mk (fun e => Ngr_gv.out e.symm)
      have Ngf_gv : Aside0 (gf ≠ gv):=Aside0.mk (by rw [hg];exact Nat.ne_of_lt (blk_lt Kgf.out));have Ngv_gf : Aside0 (gv ≠ gf):=Aside0.mk (fun e => Ngf_gv.out e.symm)
      have Ngl_gv : Aside0 (gl ≠ gv):=Aside0.mk (by rw [hg];exact Nat.ne_of_lt (blk_lt Kgl.out));have Ngv_gl : Aside0 (gv ≠ gl):=Aside0.mk (fun e => Ngl_gv.out e.symm)
      have Ngp_gv : Aside0 (gp ≠ gv):=Aside0.mk (by rw [hg];exact Nat.ne_of_lt (blk_lt Kgp.out));have Ngv_gp : Aside0 (gv ≠ gp):=Aside0.mk (fun e => Ngp_gv.out e.symm)
      have Ngu_gv : Aside0 (gu ≠ gv):=Aside0.mk (by rw [hg];exact Nat.ne_of_lt (blk_lt Kgu.out));have Ngv_gu : Aside0 (gv ≠ gu):=Aside0.mk (fun e => Ngu_gv.out e.symm)
      have ngr:=Aside0.mk (blk_below Kgr.out hb)
      have ngf:=Aside0.mk (blk_below Kgf.out hb)
      have ngl:=Aside0.mk (blk_below Kgl.out hb)
      have ngp:=Aside0.mk (blk_below Kgp.out hb)
      have ngu:=Aside0.mk (blk_below Kgu.out hb)
      have nB : Aside0 (Below w.heap.size w W261):=Aside0.mk (below_step HB.out hb)
      clear Kgr;have Kgr:=ngr;clear ngr
      clear Kgf;have Kgf:=ngf;clear ngf
      clear Kgl;have Kgl:=ngl;clear ngl
      clear Kgp;have Kgp:=ngp;clear ngp
      clear Kgu;have Kgu:=ngu;clear ngu
      clear HB;have HB:=nB;clear nB
      have Kgv : Aside0 (W261.heap[gv]? = some (.cells #[.int .i64 0,.int .i64 0] 23 (0,0))):=Aside0.mk hbox
      clear hb hbox hg
      refine hK.out _ _ trivial (fun hHeld => ?_)
      clear hK K
      refine norm_ (a':=?_) ?_ ?_
      rotate_left
      ·show Act.put _ (some 19) _ = _
       simp only [Act.put,zA,zB,zC,i64_w,i32_w]
       rfl
      refine one_ (i:=0) (N:=some 102) #[true,true,true,true,false,false,false,false,true,false,false] rfl rfl (one_of HT_.out (by kernel_rfl)) (by decide) (fun K hK => ?_)
      refine goes_ Try.func31 (by kernel_rfl) rfl #[] (by rfl) rfl rfl (by (try simp only [List.map_toArray,List.map_cons,List.map_nil]);first | done | rfl) ?_
      with_reducible refine (S.start_calls _).mono ?_
      rintro e W262 ⟨rfl,hb⟩
      refine ⟨_,rfl,?_⟩
      have ngr:=Aside0.mk (blk_below Kgr.out hb)
      have ngf:=Aside0.mk (blk_below Kgf.out hb)
      have ngl:=Aside0.mk (blk_below Kgl.out hb)
      have ngp:=Aside0.mk (blk_below Kgp.out hb)
      have ngu:=Aside0.mk (blk_below Kgu.out hb)
      have ngv:=Aside0.mk (blk_below Kgv.out hb)
      have nB : Aside0 (Below w.heap.size w W262):=Aside0.mk (below_step HB.out hb)
      clear Kgr;have Kgr:=ngr;clear ngr
      clear Kgf;have Kgf:=ngf;clear ngf
      clear Kgl;have Kgl:=ngl;clear ngl
      clear Kgp;have Kgp:=ngp;clear ngp
      clear Kgu;have Kgu:=ngu;clear ngu
      clear Kgv;have Kgv:=ngv;clear ngv
      clear HB;have HB:=nB;clear nB
      clear hb
      refine hK.out _ _ trivial (fun hHeld => ?_)
      clear hK K
      refine norm_ (a':=?_) ?_ ?_
      rotate_left
      ·show Act.put _ (some 102) _ = _
       simp only [Act.put,zA,zB,zC,i64_w,i32_w]
       rfl
      refine one_ (i:=4) (N:=some 106) #[true,true,true,true,true,false,false,false,true,false,false] rfl rfl (one_of HT_.out (by kernel_rfl)) (by decide) (fun K hK => ?_)
      refine goes_ Try.func27 (by kernel_rfl) rfl #[.agg #[.int .i64 1,.int .i64 2],.slice A0 tl.length c0] (by rfl) rfl rfl (by (try simp only [List.map_toArray,List.map_cons,List.map_nil]);first | done | rfl) ?_
      with_reducible refine (seal_Add.calls 1 2 _ _ tl d1 d2 0 _ (by rw [← HT.out];exact take_C (Kd.C_below HR0.out HB.out) TL.out) (by have:=HC0.out;rw [← HT.out,List.length_take];omega) HA.out).mono ?_
      rintro e W263 ⟨rfl,hb⟩
      refine ⟨_,rfl,?_⟩
      have ngr:=Aside0.mk (blk_below Kgr.out hb)
      have ngf:=Aside0.mk (blk_below Kgf.out hb)
      have ngl:=Aside0.mk (blk_below Kgl.out hb)
      have ngp:=Aside0.mk (blk_below Kgp.out hb)
      have ngu:=Aside0.mk (blk_below Kgu.out hb)
      have ngv:=Aside0.mk (blk_below Kgv.out hb)
      have nB : Aside0 (Below w.heap.size w W263):=Aside0.mk (below_step HB.out hb)
      clear Kgr;have Kgr:=ngr;clear ngr
      clear Kgf;have Kgf:=ngf;clear ngf
      clear Kgl;have Kgl:=ngl;clear ngl
      clear Kgp;have Kgp:=ngp;clear ngp
      clear Kgu;have Kgu:=ngu;clear ngu
      clear Kgv;have Kgv:=ngv;clear ngv
      clear HB;have HB:=nB;clear nB
      clear hb
      refine hK.out _ _ trivial (fun hHeld => ?_)
      clear hK K
      refine norm_ (a':=?_) ?_ ?_
      rotate_left
      ·show Act.put _ (some 106) _ = _
       simp only [Act.put,zA,zB,zC,i64_w,i32_w]
       rfl
      refine pure_ (i:=5) (N:=some 101) (v:=?_) (a':=?_) #[true,true,true,true,true,true,false,false,true,false,false] rfl rfl (any_of HT_.out (by kernel_rfl)) (fun _ _ _ h => h) (Or.inl ⟨by rfl,?_⟩) ?_ ?_
      rotate_left
      ·intro w'
       go_simp
       with_reducible rfl
      rotate_left
      ·simp only [Act.put,zA,zB,zC,i64_w,i32_w]
       rfl
      refine pure_ (i:=6) (N:=some 107) (v:=?_) (a':=?_) #[true,true,true,true,true,true,true,false,true,false,false] rfl rfl (any_of HT_.out (by kernel_rfl)) (fun _ _ _ h => h) (Or.inl ⟨by rfl,?_⟩) ?_ ?_
      rotate_left
      ·intro w'
       go_simp
       with_reducible rfl
      rotate_left
      ·simp only [Act.put,zA,zB,zC,i64_w,i32_w]
       rfl
      refine pure_ (i:=7) (N:=some 108) (v:=?_) (a':=?_) #[true,true,true,true,true,true,true,true,true,false,false] rfl rfl (any_of HT_.out (by kernel_rfl)) (fun _ _ _ h => h) (Or.inl ⟨by rfl,?_⟩) ?_ ?_
      rotate_left
      ·intro w'
       go_simp
       with_reducible rfl
      rotate_left
      ·simp only [Act.put,zA,zB,zC,i64_w,i32_w]
       rfl
      exact norm_ (by simp only [putAll,Act.put,List.setIfInBounds_toArray,List.set_cons_zero,List.set_cons_succ]) (hCont gv _ ⟨Kgr,Kgf,Kgl,Kgp,Kgu,Kgv,HB,Lgv,Ngr_gv,Ngf_gv,Ngl_gv,Ngp_gv,Ngu_gv,Ngv_gr,Ngv_gf,Ngv_gl,Ngv_gp,Ngv_gu⟩)
    clear HB Kgr Kgf Kgl Kgp Kgu
    rintro gv W255 ⟨Kgr,Kgf,Kgl,Kgp,Kgu,Kgv,HB,Lgv,Ngr_gv,Ngf_gv,Ngl_gv,Ngp_gv,Ngu_gv,Ngv_gr,Ngv_gf,Ngv_gl,Ngv_gp,Ngv_gu⟩
    have hHeld : True:=trivial
    refine norm_ (a':=?_) ?_ ?_
    rotate_left
    ·simp only [putAll,Act.put,List.setIfInBounds_toArray,List.set_cons_zero,List.set_cons_succ]
     rfl
    refine one_ (i:=9) (N:=none) #[true,true,true,true,true,true,true,true,true,true,false] rfl rfl (one_of HT_.out (by kernel_rfl)) (by decide) (fun K hK => ?_)
    refine H.put_step (by rfl) rfl rfl (i:=0) [.int .i64 d1,.int .i64 d2] Kgv.out rfl rfl (by kernel_rfl) (by kernel_rfl) (by kernel_rfl) ?_
    intro W296 hw
    have ngr:=Aside0.mk (H.far_fill hw Ngr_gv.out Kgr.out)
    have ngf:=Aside0.mk (H.far_fill hw Ngf_gv.out Kgf.out)
    have ngl:=Aside0.mk (H.far_fill hw Ngl_gv.out Kgl.out)
    have ngp:=Aside0.mk (H.far_fill hw Ngp_gv.out Kgp.out)
    have ngu:=Aside0.mk (H.far_fill hw Ngu_gv.out Kgu.out)
    have ngv : Aside0 (W296.heap[gv]? = some (.cells #[.int .i64 d1,.int .i64 d2] 23 (0,0))):=Aside0.mk (H.blk_fill hw Kgv.out (by kernel_rfl))
    have nB : Aside0 (Below w.heap.size w W296):=Aside0.mk (H.below_fill hw Lgv.out HB.out)
    clear Kgr;have Kgr:=ngr;clear ngr
    clear Kgf;have Kgf:=ngf;clear ngf
    clear Kgl;have Kgl:=ngl;clear ngl
    clear Kgp;have Kgp:=ngp;clear ngp
    clear Kgu;have Kgu:=ngu;clear ngu
    clear Kgv;have Kgv:=ngv;clear ngv
    clear HB;have HB:=nB;clear nB
    clear hw
    have kgr:=blk_cell Kgr.out;have fgr:=blk_frozen Kgr.out
    have kgf:=blk_cell Kgf.out;have fgf:=blk_frozen Kgf.out
    have kgp:=blk_cell Kgp.out;have fgp:=blk_frozen Kgp.out
    have kgu:=blk_cell Kgu.out;have fgu:=blk_frozen Kgu.out
    have kgv:=blk_cell Kgv.out;have fgv:=blk_frozen Kgv.out
    refine hK.out _ _ trivial (fun hHeld => ?_)
    clear hK K
    refine pure_ (i:=10) (N:=some 20) (v:=?_) (a':=?_) #[true,true,true,true,true,true,true,true,true,true,true] rfl rfl (any_of HT_.out (by kernel_rfl)) (fun _ _ _ h => h) (Or.inl ⟨by rfl,?_⟩) ?_ ?_
    rotate_left
    ·intro w'
     go_simp
     with_reducible rfl
    rotate_left
    ·simp only [Act.put,zA,zB,zC,i64_w,i32_w]
     rfl
    refine done_ (done_of HT_.out (by kernel_rfl)) ?_
    have hgo:=Hgo.out
    clear Hgo
    by_cases he : er = 0
    ·subst he
     rw [if_pos rfl] at hgo
     by_cases q1 : s1 = d1
     ·subst q1
      by_cases q2 : s2 = d2
      ·subst q2
       rw [if_pos rfl] at hgo
       have HQ:=Aside0.mk hgo
       clear hgo
       go_wp2_with (first | ((with_reducible refine gate_dst (N:=122) rfl ?_);replace HB : Aside0 (Below w.heap.size w W296):=HB;refine H.get_event (t:=45) (x:=5) (N:=122) (i:=0) rfl rfl rfl [.int .i64 (p.kind),.int .i64 (p.cap),.int .i64 (p.num),.int .i64 (p.den),.int .i64 (p.width),.int .i64 (p.count),.int .i64 (p.keys),.int .i64 (p.slots),.int .i64 (p.every),.int .i64 (p.seg)] Kgp.out rfl (by kernel_rfl) Try.underlying45 rfl (by kernel_rfl) ?_) | ((with_reducible refine gate_store (t:=45) (p:=2) rfl ?_);replace HB : Aside0 (Below w.heap.size w W296):=HB;refine H.put_event (t:=45) (p:=2) (i:=0) rfl rfl rfl [.int .i64 (p.kind),.int .i64 (p.cap),.int .i64 (p.num),.int .i64 (p.den),.int .i64 (p.width),.int .i64 (p.count),.int .i64 (p.keys),.int .i64 (p.slots),.int .i64 (p.every),.int .i64 (p.seg)] Kgr.out rfl rfl (by kernel_rfl) (by kernel_rfl) (by kernel_rfl) ?_;intro W297 hw;replace Kgr : Aside0 (W297.heap[gr]? = some (.cells #[.int .i64 (p.kind),.int .i64 (p.cap),.int .i64 (p.num),.int .i64 (p.den),.int .i64 (p.width),.int .i64 (p.count),.int .i64 (p.keys),.int .i64 (p.slots),.int .i64 (p.every),.int .i64 (p.seg)] 45 (0,0))):=Aside0.mk (H.blk_fill hw Kgr.out (by kernel_rfl));replace Kgf:=Aside0.mk (H.far_fill hw Ngf_gr.out Kgf.out);replace Kgl:=Aside0.mk (H.far_fill hw Ngl_gr.out Kgl.out);replace Kgp:=Aside0.mk (H.far_fill hw Ngp_gr.out Kgp.out);replace Kgu:=Aside0.mk (H.far_fill hw Ngu_gr.out Kgu.out);replace Kgv:=Aside0.mk (H.far_fill hw Ngv_gr.out Kgv.out);replace HB : Aside0 (Below w.heap.size w W297):=Aside0.mk (H.below_fill hw Lgr.out HB.out);clear kgr fgr kgf fgf kgp fgp kgu fgu kgv fgv;clear hw;have kgr:=blk_cell Kgr.out;have fgr:=blk_frozen Kgr.out;have kgf:=blk_cell Kgf.out;have fgf:=blk_frozen Kgf.out;have kgp:=blk_cell Kgp.out;have fgp:=blk_frozen Kgp.out;have kgu:=blk_cell Kgu.out;have fgu:=blk_frozen Kgu.out;have kgv:=blk_cell Kgv.out;have fgv:=blk_frozen Kgv.out) | ((with_reducible refine gate_store (t:=50) (p:=4) rfl ?_);replace HB : Aside0 (Below w.heap.size w W297):=HB;refine H.put_event (t:=50) (p:=4) (i:=0) rfl rfl rfl [.int .i64 0,.int .i64 0] Kgf.out rfl rfl (by kernel_rfl) (by kernel_rfl) (by kernel_rfl) ?_;intro W298 hw;replace Kgr:=Aside0.mk (H.far_fill hw Ngr_gf.out Kgr.out);replace Kgf : Aside0 (W298.heap[gf]? = some (.cells #[.int .i64 0,.int .i64 0] 50 (0,0))):=Aside0.mk (H.blk_fill hw Kgf.out (by kernel_rfl));replace Kgl:=Aside0.mk (H.far_fill hw Ngl_gf.out Kgl.out);replace Kgp:=Aside0.mk (H.far_fill hw Ngp_gf.out Kgp.out);replace Kgu:=Aside0.mk (H.far_fill hw Ngu_gf.out Kgu.out);replace Kgv:=Aside0.mk (H.far_fill hw Ngv_gf.out Kgv.out);replace HB : Aside0 (Below w.heap.size w W298):=Aside0.mk (H.below_fill hw Lgf.out HB.out);clear kgr fgr kgf fgf kgp fgp kgu fgu kgv fgv;clear hw;have kgr:=blk_cell Kgr.out;have fgr:=blk_frozen Kgr.out;have kgf:=blk_cell Kgf.out;have fgf:=blk_frozen Kgf.out;have kgp:=blk_cell Kgp.out;have fgp:=blk_frozen Kgp.out;have kgu:=blk_cell Kgu.out;have fgu:=blk_frozen Kgu.out;have kgv:=blk_cell Kgv.out;have fgv:=blk_frozen Kgv.out))
       rw [← HQ.out]
       refine bodyPost_ret (results_ctc rfl _ _ gr gf 45 50 #[.int .i64 (p.kind),.int .i64 (p.cap),.int .i64 (p.num),.int .i64 (p.den),.int .i64 (p.width),.int .i64 (p.count),.int .i64 (p.keys),.int .i64 (p.slots),.int .i64 (p.every),.int .i64 (p.seg)] #[.int .i64 0,.int .i64 0] (0,0) (0,0) _ _ rfl Kgr.out Try.underlying45 rfl (by kernel_rfl) rfl Kgf.out Try.underlying50 rfl (by kernel_rfl)) rfl ?_
       exact ⟨rfl,HB.out⟩
      ·rw [if_neg (fun h => q2 (by injection h))] at hgo
       have HQ:=Aside0.mk hgo
       clear hgo
       go_wp2_with (first | ((with_reducible refine gate_store (t:=45) (p:=2) rfl ?_);replace HB : Aside0 (Below w.heap.size w W296):=HB;refine H.put_event (t:=45) (p:=2) (i:=0) rfl rfl rfl [.int .i64 0,.int .i64 0,.int .i64 0,.int .i64 0,.int .i64 0,.int .i64 0,.int .i64 0,.int .i64 0,.int .i64 0,.int .i64 0] Kgr.out rfl rfl (by kernel_rfl) (by kernel_rfl) (by kernel_rfl) ?_;intro W297 hw;replace Kgr : Aside0 (W297.heap[gr]? = some (.cells #[.int .i64 0,.int .i64 0,.int .i64 0,.int .i64 0,.int .i64 0,.int .i64 0,.int .i64 0,.int .i64 0,.int .i64 0,.int .i64 0] 45 (0,0))):=Aside0.mk (H.blk_fill hw Kgr.out (by kernel_rfl));replace Kgf:=Aside0.mk (H.far_fill hw Ngf_gr.out Kgf.out);replace Kgl:=Aside0.mk (H.far_fill hw Ngl_gr.out Kgl.out);replace Kgp:=Aside0.mk (H.far_fill hw Ngp_gr.out Kgp.out);replace Kgu:=Aside0.mk (H.far_fill hw Ngu_gr.out Kgu.out);replace Kgv:=Aside0.mk (H.far_fill hw Ngv_gr.out Kgv.out);replace HB : Aside0 (Below w.heap.size w W297):=Aside0.mk (H.below_fill hw Lgr.out HB.out);clear kgr fgr kgf fgf kgp fgp kgu fgu kgv fgv;clear hw;have kgr:=blk_cell Kgr.out;have fgr:=blk_frozen Kgr.out;have kgf:=blk_cell Kgf.out;have fgf:=blk_frozen Kgf.out;have kgp:=blk_cell Kgp.out;have fgp:=blk_frozen Kgp.out;have kgu:=blk_cell Kgu.out;have fgu:=blk_frozen Kgu.out;have kgv:=blk_cell Kgv.out;have fgv:=blk_frozen Kgv.out) | ((with_reducible refine gate_store (t:=50) (p:=4) rfl ?_);replace HB : Aside0 (Below w.heap.size w W297):=HB;refine H.put_event (t:=50) (p:=4) (i:=0) rfl rfl rfl [.int .i64 41,.int .i64 a] Kgf.out rfl rfl (by kernel_rfl) (by kernel_rfl) (by kernel_rfl) ?_;intro W298 hw;replace Kgr:=Aside0.mk (H.far_fill hw Ngr_gf.out Kgr.out);replace Kgf : Aside0 (W298.heap[gf]? = some (.cells #[.int .i64 41,.int .i64 a] 50 (0,0))):=Aside0.mk (H.blk_fill hw Kgf.out (by kernel_rfl));replace Kgl:=Aside0.mk (H.far_fill hw Ngl_gf.out Kgl.out);replace Kgp:=Aside0.mk (H.far_fill hw Ngp_gf.out Kgp.out);replace Kgu:=Aside0.mk (H.far_fill hw Ngu_gf.out Kgu.out);replace Kgv:=Aside0.mk (H.far_fill hw Ngv_gf.out Kgv.out);replace HB : Aside0 (Below w.heap.size w W298):=Aside0.mk (H.below_fill hw Lgf.out HB.out);clear kgr fgr kgf fgf kgp fgp kgu fgu kgv fgv;clear hw;have kgr:=blk_cell Kgr.out;have fgr:=blk_frozen Kgr.out;have kgf:=blk_cell Kgf.out;have fgf:=blk_frozen Kgf.out;have kgp:=blk_cell Kgp.out;have fgp:=blk_frozen Kgp.out;have kgu:=blk_cell Kgu.out;have fgu:=blk_frozen Kgu.out;have kgv:=blk_cell Kgv.out;have fgv:=blk_frozen Kgv.out))
       rw [← HQ.out]
       refine bodyPost_ret (results_ctc rfl _ _ gr gf 45 50 #[.int .i64 0,.int .i64 0,.int .i64 0,.int .i64 0,.int .i64 0,.int .i64 0,.int .i64 0,.int .i64 0,.int .i64 0,.int .i64 0] #[.int .i64 41,.int .i64 a] (0,0) (0,0) _ _ rfl Kgr.out Try.underlying45 rfl (by kernel_rfl) rfl Kgf.out Try.underlying50 rfl (by kernel_rfl)) rfl ?_
       exact ⟨rfl,HB.out⟩
     ·rw [if_neg (fun h => q1 (by injection h))] at hgo
      have HQ:=Aside0.mk hgo
      clear hgo
      go_wp2_with (first | ((with_reducible refine gate_store (t:=45) (p:=2) rfl ?_);replace HB : Aside0 (Below w.heap.size w W296):=HB;refine H.put_event (t:=45) (p:=2) (i:=0) rfl rfl rfl [.int .i64 0,.int .i64 0,.int .i64 0,.int .i64 0,.int .i64 0,.int .i64 0,.int .i64 0,.int .i64 0,.int .i64 0,.int .i64 0] Kgr.out rfl rfl (by kernel_rfl) (by kernel_rfl) (by kernel_rfl) ?_;intro W297 hw;replace Kgr : Aside0 (W297.heap[gr]? = some (.cells #[.int .i64 0,.int .i64 0,.int .i64 0,.int .i64 0,.int .i64 0,.int .i64 0,.int .i64 0,.int .i64 0,.int .i64 0,.int .i64 0] 45 (0,0))):=Aside0.mk (H.blk_fill hw Kgr.out (by kernel_rfl));replace Kgf:=Aside0.mk (H.far_fill hw Ngf_gr.out Kgf.out);replace Kgl:=Aside0.mk (H.far_fill hw Ngl_gr.out Kgl.out);replace Kgp:=Aside0.mk (H.far_fill hw Ngp_gr.out Kgp.out);replace Kgu:=Aside0.mk (H.far_fill hw Ngu_gr.out Kgu.out);replace Kgv:=Aside0.mk (H.far_fill hw Ngv_gr.out Kgv.out);replace HB : Aside0 (Below w.heap.size w W297):=Aside0.mk (H.below_fill hw Lgr.out HB.out);clear kgr fgr kgf fgf kgp fgp kgu fgu kgv fgv;clear hw;have kgr:=blk_cell Kgr.out;have fgr:=blk_frozen Kgr.out;have kgf:=blk_cell Kgf.out;have fgf:=blk_frozen Kgf.out;have kgp:=blk_cell Kgp.out;have fgp:=blk_frozen Kgp.out;have kgu:=blk_cell Kgu.out;have fgu:=blk_frozen Kgu.out;have kgv:=blk_cell Kgv.out;have fgv:=blk_frozen Kgv.out) | ((with_reducible refine gate_store (t:=50) (p:=4) rfl ?_);replace HB : Aside0 (Below w.heap.size w W297):=HB;refine H.put_event (t:=50) (p:=4) (i:=0) rfl rfl rfl [.int .i64 41,.int .i64 a] Kgf.out rfl rfl (by kernel_rfl) (by kernel_rfl) (by kernel_rfl) ?_;intro W298 hw;replace Kgr:=Aside0.mk (H.far_fill hw Ngr_gf.out Kgr.out);replace Kgf : Aside0 (W298.heap[gf]? = some (.cells #[.int .i64 41,.int .i64 a] 50 (0,0))):=Aside0.mk (H.blk_fill hw Kgf.out (by kernel_rfl));replace Kgl:=Aside0.mk (H.far_fill hw Ngl_gf.out Kgl.out);replace Kgp:=Aside0.mk (H.far_fill hw Ngp_gf.out Kgp.out);replace Kgu:=Aside0.mk (H.far_fill hw Ngu_gf.out Kgu.out);replace Kgv:=Aside0.mk (H.far_fill hw Ngv_gf.out Kgv.out);replace HB : Aside0 (Below w.heap.size w W298):=Aside0.mk (H.below_fill hw Lgf.out HB.out);clear kgr fgr kgf fgf kgp fgp kgu fgu kgv fgv;clear hw;have kgr:=blk_cell Kgr.out;have fgr:=blk_frozen Kgr.out;have kgf:=blk_cell Kgf.out;have fgf:=blk_frozen Kgf.out;have kgp:=blk_cell Kgp.out;have fgp:=blk_frozen Kgp.out;have kgu:=blk_cell Kgu.out;have fgu:=blk_frozen Kgu.out;have kgv:=blk_cell Kgv.out;have fgv:=blk_frozen Kgv.out))
      rw [← HQ.out]
      refine bodyPost_ret (results_ctc rfl _ _ gr gf 45 50 #[.int .i64 0,.int .i64 0,.int .i64 0,.int .i64 0,.int .i64 0,.int .i64 0,.int .i64 0,.int .i64 0,.int .i64 0,.int .i64 0] #[.int .i64 41,.int .i64 a] (0,0) (0,0) _ _ rfl Kgr.out Try.underlying45 rfl (by kernel_rfl) rfl Kgf.out Try.underlying50 rfl (by kernel_rfl)) rfl ?_
      exact ⟨rfl,HB.out⟩
    ·rw [if_neg he] at hgo
     have HQ:=Aside0.mk hgo
     clear hgo
     go_wp2_with (first | ((with_reducible refine gate_store (t:=45) (p:=2) rfl ?_);replace HB : Aside0 (Below w.heap.size w W296):=HB;refine H.put_event (t:=45) (p:=2) (i:=0) rfl rfl rfl [.int .i64 0,.int .i64 0,.int .i64 0,.int .i64 0,.int .i64 0,.int .i64 0,.int .i64 0,.int .i64 0,.int .i64 0,.int .i64 0] Kgr.out rfl rfl (by kernel_rfl) (by kernel_rfl) (by kernel_rfl) ?_;intro W297 hw;replace Kgr : Aside0 (W297.heap[gr]? = some (.cells #[.int .i64 0,.int .i64 0,.int .i64 0,.int .i64 0,.int .i64 0,.int .i64 0,.int .i64 0,.int .i64 0,.int .i64 0,.int .i64 0] 45 (0,0))):=Aside0.mk (H.blk_fill hw Kgr.out (by kernel_rfl));replace Kgf:=Aside0.mk (H.far_fill hw Ngf_gr.out Kgf.out);replace Kgl:=Aside0.mk (H.far_fill hw Ngl_gr.out Kgl.out);replace Kgp:=Aside0.mk (H.far_fill hw Ngp_gr.out Kgp.out);replace Kgu:=Aside0.mk (H.far_fill hw Ngu_gr.out Kgu.out);replace Kgv:=Aside0.mk (H.far_fill hw Ngv_gr.out Kgv.out);replace HB : Aside0 (Below w.heap.size w W297):=Aside0.mk (H.below_fill hw Lgr.out HB.out);clear kgr fgr kgf fgf kgp fgp kgu fgu kgv fgv;clear hw;have kgr:=blk_cell Kgr.out;have fgr:=blk_frozen Kgr.out;have kgf:=blk_cell Kgf.out;have fgf:=blk_frozen Kgf.out;have kgp:=blk_cell Kgp.out;have fgp:=blk_frozen Kgp.out;have kgu:=blk_cell Kgu.out;have fgu:=blk_frozen Kgu.out;have kgv:=blk_cell Kgv.out;have fgv:=blk_frozen Kgv.out) | ((with_reducible refine gate_store (t:=50) (p:=4) rfl ?_);replace HB : Aside0 (Below w.heap.size w W297):=HB;refine H.put_event (t:=50) (p:=4) (i:=0) rfl rfl rfl [.int .i64 er,.int .i64 a] Kgf.out rfl rfl (by kernel_rfl) (by kernel_rfl) (by kernel_rfl) ?_;intro W298 hw;replace Kgr:=Aside0.mk (H.far_fill hw Ngr_gf.out Kgr.out);replace Kgf : Aside0 (W298.heap[gf]? = some (.cells #[.int .i64 er,.int .i64 a] 50 (0,0))):=Aside0.mk (H.blk_fill hw Kgf.out (by kernel_rfl));replace Kgl:=Aside0.mk (H.far_fill hw Ngl_gf.out Kgl.out);replace Kgp:=Aside0.mk (H.far_fill hw Ngp_gf.out Kgp.out);replace Kgu:=Aside0.mk (H.far_fill hw Ngu_gf.out Kgu.out);replace Kgv:=Aside0.mk (H.far_fill hw Ngv_gf.out Kgv.out);replace HB : Aside0 (Below w.heap.size w W298):=Aside0.mk (H.below_fill hw Lgf.out HB.out);clear kgr fgr kgf fgf kgp fgp kgu fgu kgv fgv;clear hw;have kgr:=blk_cell Kgr.out;have fgr:=blk_frozen Kgr.out;have kgf:=blk_cell Kgf.out;have fgf:=blk_frozen Kgf.out;have kgp:=blk_cell Kgp.out;have fgp:=blk_frozen Kgp.out;have kgu:=blk_cell Kgu.out;have fgu:=blk_frozen Kgu.out;have kgv:=blk_cell Kgv.out;have fgv:=blk_frozen Kgv.out))
     rw [← HQ.out]
     refine bodyPost_ret (results_ctc rfl _ _ gr gf 45 50 #[.int .i64 0,.int .i64 0,.int .i64 0,.int .i64 0,.int .i64 0,.int .i64 0,.int .i64 0,.int .i64 0,.int .i64 0,.int .i64 0] #[.int .i64 er,.int .i64 a] (0,0) (0,0) _ _ rfl Kgr.out Try.underlying45 rfl (by kernel_rfl) rfl Kgf.out Try.underlying50 rfl (by kernel_rfl)) rfl ?_
     exact ⟨rfl,HB.out⟩
   ·rw [if_neg c1] at hgo
    have c2 : Pol.ok p = false:=by simpa using c1
    rw [c2] at cR
    simp only [Bool.false_eq_true,if_false] at cR
    have HQ:=Aside0.mk hgo
    clear hgo c1 c2 a0 a1
    go_wp2_with (first | ((with_reducible refine gate_dst (N:=87) rfl ?_);replace HB : Aside0 (Below w.heap.size w wr):=HB;refine H.get_event (t:=45) (x:=5) (N:=87) (i:=0) rfl rfl rfl [.int .i64 (p.kind),.int .i64 (p.cap),.int .i64 (p.num),.int .i64 (p.den),.int .i64 (p.width),.int .i64 (p.count),.int .i64 (p.keys),.int .i64 (p.slots),.int .i64 (p.every),.int .i64 (p.seg)] Kgp.out rfl (by kernel_rfl) Try.underlying45 rfl (by kernel_rfl) ?_) | (go_at_call 64;replace HB : Aside0 (Below w.heap.size w wr):=HB;(with_reducible refine (cR _).mono ?_);rintro e W201 ⟨rfl,hb⟩;replace Kgr:=Aside0.mk (blk_below Kgr.out hb);replace Kgf:=Aside0.mk (blk_below Kgf.out hb);replace Kgl:=Aside0.mk (blk_below Kgl.out hb);replace Kgp:=Aside0.mk (blk_below Kgp.out hb);replace HB : Aside0 (Below w.heap.size w W201):=Aside0.mk (below_step HB.out hb);clear hb;have kgr:=blk_cell Kgr.out;have fgr:=blk_frozen Kgr.out;have kgf:=blk_cell Kgf.out;have fgf:=blk_frozen Kgf.out;have kgp:=blk_cell Kgp.out;have fgp:=blk_frozen Kgp.out) | ((with_reducible refine gate_store (t:=45) (p:=2) rfl ?_);replace HB : Aside0 (Below w.heap.size w W201):=HB;refine H.put_event (t:=45) (p:=2) (i:=0) rfl rfl rfl [.int .i64 0,.int .i64 0,.int .i64 0,.int .i64 0,.int .i64 0,.int .i64 0,.int .i64 0,.int .i64 0,.int .i64 0,.int .i64 0] Kgr.out rfl rfl (by kernel_rfl) (by kernel_rfl) (by kernel_rfl) ?_;intro W202 hw;replace Kgr : Aside0 (W202.heap[gr]? = some (.cells #[.int .i64 0,.int .i64 0,.int .i64 0,.int .i64 0,.int .i64 0,.int .i64 0,.int .i64 0,.int .i64 0,.int .i64 0,.int .i64 0] 45 (0,0))):=Aside0.mk (H.blk_fill hw Kgr.out (by kernel_rfl));replace Kgf:=Aside0.mk (H.far_fill hw Ngf_gr.out Kgf.out);replace Kgl:=Aside0.mk (H.far_fill hw Ngl_gr.out Kgl.out);replace Kgp:=Aside0.mk (H.far_fill hw Ngp_gr.out Kgp.out);replace HB : Aside0 (Below w.heap.size w W202):=Aside0.mk (H.below_fill hw Lgr.out HB.out);clear kgr fgr kgf fgf kgp fgp;clear hw;have kgr:=blk_cell Kgr.out;have fgr:=blk_frozen Kgr.out;have kgf:=blk_cell Kgf.out;have fgf:=blk_frozen Kgf.out;have kgp:=blk_cell Kgp.out;have fgp:=blk_frozen Kgp.out) | ((with_reducible refine gate_store (t:=50) (p:=4) rfl ?_);replace HB : Aside0 (Below w.heap.size w W202):=HB;refine H.put_event (t:=50) (p:=4) (i:=0) rfl rfl rfl [.int .i64 40,.int .i64 4] Kgf.out rfl rfl (by kernel_rfl) (by kernel_rfl) (by kernel_rfl) ?_;intro W203 hw;replace Kgr:=Aside0.mk (H.far_fill hw Ngr_gf.out Kgr.out);replace Kgf : Aside0 (W203.heap[gf]? = some (.cells #[.int .i64 40,.int .i64 4] 50 (0,0))):=Aside0.mk (H.blk_fill hw Kgf.out (by kernel_rfl));replace Kgl:=Aside0.mk (H.far_fill hw Ngl_gf.out Kgl.out);replace Kgp:=Aside0.mk (H.far_fill hw Ngp_gf.out Kgp.out);replace HB : Aside0 (Below w.heap.size w W203):=Aside0.mk (H.below_fill hw Lgf.out HB.out);clear kgr fgr kgf fgf kgp fgp;clear hw;have kgr:=blk_cell Kgr.out;have fgr:=blk_frozen Kgr.out;have kgf:=blk_cell Kgf.out;have fgf:=blk_frozen Kgf.out;have kgp:=blk_cell Kgp.out;have fgp:=blk_frozen Kgp.out))
    rw [← HQ.out]
    refine bodyPost_ret (results_ctc rfl _ _ gr gf 45 50 #[.int .i64 0,.int .i64 0,.int .i64 0,.int .i64 0,.int .i64 0,.int .i64 0,.int .i64 0,.int .i64 0,.int .i64 0,.int .i64 0] #[.int .i64 40,.int .i64 4] (0,0) (0,0) _ _ rfl Kgr.out Try.underlying45 rfl (by kernel_rfl) rfl Kgf.out Try.underlying50 rfl (by kernel_rfl)) rfl ?_
    exact ⟨rfl,HB.out⟩
theorem pread_all (A0 : Option Addr) (c0 : Nat) (l0 : List Int) (w : World) (hr0 : Kd.C (Kd.int .u8) w A0 l0.length l0) (hc0 : l0.length ≤ c0) (hb : M.bytes l0 = true) (hn : (l0.length : Int) ≤ 4611686018427387904) :
  Calls Try.prog 43 #[.slice A0 l0.length c0] w fun e w' => e = .returned (.tuple #[.agg #[.int .i64 (Pol.read l0).1.kind,.int .i64 (Pol.read l0).1.cap,.int .i64 (Pol.read l0).1.num,.int .i64 (Pol.read l0).1.den,.int .i64 (Pol.read l0).1.width,.int .i64 (Pol.read l0).1.count,.int .i64 (Pol.read l0).1.keys,.int .i64 (Pol.read l0).1.slots,.int .i64 (Pol.read l0).1.every,.int .i64 (Pol.read l0).1.seg],.int .i64 (Pol.read l0).2.1,.agg #[.int .i64 (Pol.read l0).2.2.1,.int .i64 (Pol.read l0).2.2.2]]) ∧ Below w.heap.size w w':=by
 by_cases h4 : l0.length < 4
 ·have e : Pol.read l0 = (Pol.zero,0,41,0):=by
   unfold Pol.read
   rw [if_neg]
   intro h
   have:=congrArg List.length h
   rw [List.length_take] at this
   simp [Pol.reel] at this
   omega
  rw [e]
  exact pread_short A0 c0 l0 w hr0 hc0 h4
 ·have h4' : 4 ≤ l0.length:=by omega
  by_cases hS : l0.take 4 = Pol.reel
  ·have h1:=Pure.bread hb hn 4 (k:=40) (by decide)
   by_cases c1 : (Pure.readn l0 4).2.2 = 0
   ·have hx:=Pure.readn_next hb c1
    by_cases c2 : (Pure.readn l0 4).1 = 1
    ·have hg:=Pol.read_go1 hS c1 c2
     exact pread_loop1 A0 c0 l0 (Pure.readn l0 4).2.1 (Pol.read l0) w hr0 hc0 h4' hb hn hS (by rw [h1,← c1,← c2]) (by omega) hx.2.2.1 hg.symm
    ·by_cases c3 : (Pure.readn l0 4).1 = 2
     ·have hg:=Pol.read_go2 hS c1 c3
      exact pread_loop2 A0 c0 l0 (Pure.readn l0 4).2.1 (Pol.read l0) w hr0 hc0 h4' hb hn hS (by rw [h1,← c1,← c3]) (by omega) hx.2.2.1 hg.symm
     ·have e : Pol.read l0 = (Pol.zero,0,40,4):=by
       unfold Pol.read
       rw [if_pos hS,if_pos c1,if_neg (fun h => h.elim c2 c3)]
      rw [e]
      exact pread_f2 A0 c0 l0 (Pure.readn l0 4).1 (Pure.readn l0 4).2.1 w hr0 hc0 h4' hb hS (by rw [h1,← c1]) c2 c3
   ·have e : Pol.read l0 = (Pol.zero,0,(Pure.readn l0 4).2.2,4):=by
     unfold Pol.read
     rw [if_pos hS,if_neg c1]
    rw [e]
    exact pread_f1 A0 c0 l0 (Pure.readn l0 4).1 (Pure.readn l0 4).2.1 (Pure.readn l0 4).2.2 w hr0 hc0 h4' hb hS h1 c1
  ·have e : Pol.read l0 = (Pol.zero,0,41,0):=by
    unfold Pol.read
    rw [if_neg hS]
   rw [e]
   exact pread_head A0 c0 l0 w hr0 hc0 h4' hb hS
theorem pread_ext (A0 : Option Addr) (c0 : Nat) (l0 : List Int) (r1 r2 r3 r4 r5 r6 r7 r8 r9 r10 r11 r12 r13 : Int) (w : World) (hr0 : Kd.C (Kd.int .u8) w A0 l0.length l0) (hc0 : l0.length ≤ c0) (h : Pol.readO l0 = some (r1,r2,r3,r4,r5,r6,r7,r8,r9,r10,r11,r12,r13)) :
  Calls Try.prog 43 #[.slice A0 l0.length c0] w fun e w' => e = .returned (.tuple #[.agg #[.int .i64 r1,.int .i64 r2,.int .i64 r3,.int .i64 r4,.int .i64 r5,.int .i64 r6,.int .i64 r7,.int .i64 r8,.int .i64 r9,.int .i64 r10],.int .i64 r11,.agg #[.int .i64 r12,.int .i64 r13]]) ∧ Below w.heap.size w w':=by
 unfold Pol.readO at h
 by_cases hb : M.bytes l0 = true
 ·rw [if_pos hb] at h
  by_cases hn : (l0.length : Int) ≤ 4611686018427387904
  ·rw [if_pos hn] at h
   have:=pread_all A0 c0 l0 w hr0 hc0 hb hn
   cases h
   exact this
  ·rw [if_neg hn] at h
   cases h
 ·rw [if_neg hb] at h
  cases h
end Go.Proofs.Ytbiijcehgiibeaa.H

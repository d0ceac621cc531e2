/- Proved here, in whole numbers: reading a policy number by number, each laid into its place, comes to Pol.read. No program in sight. · Steps of the walks of policy.Read and of the document's Read: four bytes as a string, an element's address, a number stored in a policy, three results of which two lie in memory. Laid tighter for a claim's bound by wip/shake.py (SQ=1). -/
import Derived.Test.YtbiijcehgiibeaaKPReadsJSix
import Derived.Test.YtbiijcehgiibeaaKPReadsJHap
namespace Go.Proofs.Ytbiijcehgiibeaa.Pol
def Py.put (p : Py) (i : Nat) (v : Int) : Py :=
  match i with
  | 0 => { p with kind := v }
  | 1 => { p with cap := v }
  | 2 => { p with num := v }
  | 3 => { p with den := v }
  | 4 => { p with width := v }
  | 5 => { p with count := v }
  | 6 => { p with keys := v }
  | 7 => { p with slots := v }
  | 8 => { p with every := v }
  | 9 => { p with seg := v }
  | _ => p
theorem cells_put (p : Py) (v : Int) : ∀ i : Nat, i < 10 → cells (p.put i v) = (cells p).set i v := by
  intro i hi
  obtain rfl | rfl | rfl | rfl | rfl | rfl | rfl | rfl | rfl | rfl : i = 0 ∨ i = 1 ∨ i = 2 ∨ i = 3 ∨ i = 4 ∨ i = 5 ∨ i = 6 ∨ i = 7 ∨ i = 8 ∨ i = 9 := by omega
  all_goals rfl
def go (l : List Int) : List (Nat × Int × Int) → Py → Int → Py × Int × Int × Int
  | [], p, a => tail l p a
  | f :: fs, p, a => if (Pure.readn l a).2.2 = 0 then go l fs (p.put f.1 (Pure.readn l a).1) (Pure.readn l a).2.1 else (zero, 0, (Pure.readn l a).2.2, a)
def puts : Py → List (Nat × Int × Int) → List Int → Py
  | p, f :: fs, x :: xs => puts (p.put f.1 x) fs xs
  | p, _, _ => p
theorem rds_len (l : List Int) : ∀ (n : Nat) (a : Int), (rds l n a).2.2 = 0 → (rds l n a).1.length = n := by
  intro n
  induction n with
  | zero => intro a _; rfl
  | succ n ih =>
    intro a h
    unfold rds at h ⊢
    by_cases c : (Pure.readn l a).2.2 = 0
    · rw [if_pos c] at h ⊢
      simp only [List.length_cons]
      rw [ih _ h]
    · rw [if_neg c] at h
      exact absurd h c
theorem go_eq (l : List Int) : ∀ (fs : List (Nat × Int × Int)) (p : Py) (a : Int), go l fs p a = if (rds l fs.length a).2.2 = 0 then tail l (puts p fs (rds l fs.length a).1) (rds l fs.length a).2.1 else (zero, 0, (rds l fs.length a).2.2, (rds l fs.length a).2.1) := by
  intro fs
  induction fs with
  | nil => intro p a; rfl
  | cons f fs ih =>
    intro p a
    unfold go
    by_cases c : (Pure.readn l a).2.2 = 0
    · rw [if_pos c, ih, List.length_cons, rds, if_pos c]
      rfl
    · rw [if_neg c, List.length_cons, rds, if_neg c, if_neg c]
theorem seven {xs : List Int} (h : xs.length = 7) : ∃ a b c d e f g, xs = [a, b, c, d, e, f, g] := by
  match xs, h with
  | [a, b, c, d, e, f, g], _ => exact ⟨a, b, c, d, e, f, g, rfl⟩
theorem read_go1 {l : List Int} (h1 : l.take 4 = reel) (h2 : (Pure.readn l 4).2.2 = 0) (h3 : (Pure.readn l 4).1 = 1) : read l = go l (flds1.drop 1) (zero.put 0 1) (Pure.readn l 4).2.1 := by
  unfold read
  rw [if_pos h1, if_pos h2, if_pos (.inl h3), go_eq, h3]
  show _ = if (rds l 7 _).2.2 = 0 then tail l (puts _ _ (rds l 7 _).1) (rds l 7 _).2.1 else (zero, 0, (rds l 7 _).2.2, (rds l 7 _).2.1)
  by_cases c : (rds l 7 (Pure.readn l 4).2.1).2.2 = 0
  · rw [if_pos c, if_pos c]
    obtain ⟨a, b, d, e, f, g, i, hx⟩ := seven (rds_len l 7 _ c)
    rw [hx]
    rfl
  · rw [if_neg c, if_neg c]
theorem read_go2 {l : List Int} (h1 : l.take 4 = reel) (h2 : (Pure.readn l 4).2.2 = 0) (h3 : (Pure.readn l 4).1 = 2) : read l = go l (flds2.drop 1) (zero.put 0 2) (Pure.readn l 4).2.1 := by
  unfold read
  rw [if_pos h1, if_pos h2, if_pos (.inr h3), go_eq, h3]
  show _ = if (rds l 7 _).2.2 = 0 then tail l (puts _ _ (rds l 7 _).1) (rds l 7 _).2.1 else (zero, 0, (rds l 7 _).2.2, (rds l 7 _).2.1)
  by_cases c : (rds l 7 (Pure.readn l 4).2.1).2.2 = 0
  · rw [if_pos c, if_pos c]
    obtain ⟨a, b, d, e, f, g, i, hx⟩ := seven (rds_len l 7 _ c)
    rw [hx]
    rfl
  · rw [if_neg c, if_neg c]
theorem go_at {l : List Int} {fs : List (Nat × Int × Int)} {j : Nat} {f : Nat × Int × Int} (h : fs[j]? = some f) (p : Py) (a : Int) : go l (fs.drop j) p a = if (Pure.readn l a).2.2 = 0 then go l (fs.drop (j + 1)) (p.put f.1 (Pure.readn l a).1) (Pure.readn l a).2.1 else (zero, 0, (Pure.readn l a).2.2, a) := by
  obtain ⟨hj, rfl⟩ := List.getElem?_eq_some_iff.1 h
  rw [List.drop_eq_getElem_cons hj, go]
end Go.Proofs.Ytbiijcehgiibeaa.Pol
namespace Go.Proofs.Ytbiijcehgiibeaa.H
open Go.RowKit Go.Proofs.YtbiijcehgiibeaaW.PrintWords Go.Proofs.YtbiijcehgiibeaaW.PrintLast Go.Proofs.YtbiijcehgiibeaaW.PrintMore Go.Proofs.Ytbiijcehgiibeaa.Q
set_option linter.unusedVariables false
set_option linter.unusedSimpArgs false
theorem conv_bytes {W : World} {A : Option Addr} {c : Nat} {xs : List Int} (h : Kd.C (Kd.int .u8) W A xs.length xs) (h0 : 0 < xs.length) : (convert 24 9 (.slice A xs.length c)).run Try.prog W = .ok (.string (strOfNums xs)) W:=by
 obtain ⟨_,_,hcell⟩:=Kd.reads_of_C (enc:=Value.int .u8) (h1:=fun _ => rfl) (d:=(0 : Int)) h
 obtain ⟨ad,rfl,hcl⟩:=hcell h0
 have hl : (loadCells ad xs.length).run Try.prog W = .ok (xs.map (Value.int .u8)).toArray W:=by
  have:=run_loadCells_list (P:=Try.prog) W ad (xs.map (Value.int .u8)) (fun j v hj => by
   have hjl : j < xs.length:=by
    rcases Nat.lt_or_ge j xs.length with h | h
    ·exact h
    ·simp [List.getElem?_eq_none (show (xs.map (Value.int .u8)).length ≤ j by simpa using h)] at hj
   rw [hcl j hjl]
   simp [List.getElem?_eq_getElem hjl] at hj
   subst hj
   simp [List.getD,List.getElem?_eq_getElem hjl])
  simpa using this
 rw [run_convert_bytes_string W 24 9 5 _ _ c Try.underlying24 Try.underlying5 Try.underlying9,run_bytesToString W _ _ c xs hl,foldl_push_bytes]
 simp [strOfNums,ByteArray.empty,ByteArray.emptyWithCapacity]
 rfl
theorem take_C {W : World} {A : Option Addr} {l : List Int} (h : Kd.C (Kd.int .u8) W A l.length l) {n : Nat} (hn : n ≤ l.length) : Kd.C (Kd.int .u8) W A (l.take n).length (l.take n):=by
 have h2 : ReadsOf (Value.int .u8) (0 : Int) W A l.length l:=Kd.reads_of_C (enc:=Value.int .u8) (h1:=fun _ => rfl) (d:=(0 : Int)) h
 have h3:=h2.take_ n hn
 have hl : (l.take n).length = n:=by rw [List.length_take];omega
 exact Kd.C_of_reads (d:=(0 : Int)) (by rw [hl];exact h3)
theorem conv4 {W : World} {A : Option Addr} {c : Nat} {l : List Int} {S : ByteArray} (hS : S = strOfNums (l.take 4)) (h : Kd.C (Kd.int .u8) W A l.length l) (h4 : 4 ≤ l.length) : (convert 24 9 (.slice A 4 c)).run Try.prog W = .ok (.string S) W:=by
 subst hS
 have hl : (l.take 4).length = 4:=by rw [List.length_take];omega
 have:=conv_bytes (c:=c) (take_C h h4) (by omega)
 rw [hl] at this
 exact this
theorem reel_iff {xs : List Int} (hb : M.bytes xs = true) (h4 : 4 ≤ xs.length) : (strOfNums (xs.take 4)).toList = [82,69,69,76] ↔ xs.take 4 = Pol.reel:=by
 rw [ByteArray.toList_eq,strOfNums_data]
 match xs,h4 with
 | a :: b :: c :: d :: r,_ =>
  have ha:=M.bytes_mem hb a (by simp)
  have hb':=M.bytes_mem hb b (by simp)
  have hc:=M.bytes_mem hb c (by simp)
  have hd:=M.bytes_mem hb d (by simp)
  have key : ∀ (x : Int) (k : Nat),0 ≤ x ∧ x < 256 → k < 256 → (UInt8.ofNat x.toNat = UInt8.ofNat k ↔ x = (k : Int)):=by
   intro x k h1 h2
   constructor
   ·intro h
    have:=congrArg UInt8.toNat h
    simp only [UInt8.toNat_ofNat'] at this
    omega
   ·rintro rfl
    simp
  have e1:=key a 82 ha (by decide)
  have e2:=key b 69 hb' (by decide)
  have e3:=key c 69 hc (by decide)
  have e4:=key d 76 hd (by decide)
  constructor
  ·intro h
   simp only [List.take_succ_cons,List.take_zero,List.map_cons,List.map_nil,List.cons.injEq,and_true] at h
   obtain ⟨h1,h2,h3,h4⟩:=h
   have q1:=e1.1 h1
   have q2:=e2.1 h2
   have q3:=e3.1 h3
   have q4:=e4.1 h4
   subst q1 q2 q3 q4
   rfl
  ·intro h
   simp only [Pol.reel,List.take_succ_cons,List.take_zero,List.cons.injEq,and_true] at h
   obtain ⟨rfl,rfl,rfl,rfl⟩:=h
   rfl
theorem cutn (A : Option Addr) (l : List Int) (c : Nat) (a : Int) (h0 : 0 ≤ a) (h : a ≤ l.length) (hc : l.length ≤ c) : ∀ W : World,(Instr.slice 24 (.slice A l.length c) none (some (.int .i64 a)) none).run Try.prog W = .ok (.slice A (l.take a.toNat).length c) W:=by
 cases hq : Try.prog.info? 5 with
 | none => have:=info5;rw [hq] at this;cases this
 | some i =>
  intro W
  have:=cut_to (P:=Try.prog) 24 5 .i64 Try.underlying24 hq A l.length c a h0 h hc W
  rw [show (l.take a.toNat).length = a.toNat by rw [List.length_take];omega]
  exact this
theorem cut4 (A : Option Addr) (n c : Nat) (h : 4 ≤ n) (hc : n ≤ c) : ∀ W : World,(Instr.slice 24 (.slice A n c) none (some (.int .i64 4)) none).run Try.prog W = .ok (.slice A 4 c) W:=by
 cases hq : Try.prog.info? 5 with
 | none => have:=info5;rw [hq] at this;cases this
 | some i => exact fun W => cut_to (P:=Try.prog) 24 5 .i64 Try.underlying24 hq A n c 4 (by decide) (by omega) hc W
section
variable {P : Program}
theorem results_ctc {fn : Func} {p u p' : Tmp} {ty ty' : TypeId} (h : fn.results = #[.cell p ty,.tmp u,.cell p' ty']) (tmps : Array Value) (w : World) (g g' : Nat) (t t' : TypeId) (cs cs' : Array Value) (fr fr' : Nat × Nat) (d d' : TypeDesc)
  (hp : tmps.getD p undef = .pointer (some ⟨g,0,none⟩)) (hg : w.heap[g]? = some (.cells cs t fr))
  (hu : P.underlying ty = some d) (hd : (match d with | .struct _ | .array _ _ => true | _ => false) = true) (hi : (P.info? ty).map (·.size) = some cs.size)
  (hp' : tmps.getD p' undef = .pointer (some ⟨g',0,none⟩)) (hg' : w.heap[g']? = some (.cells cs' t' fr'))
  (hu' : P.underlying ty' = some d') (hd' : (match d' with | .struct _ | .array _ _ => true | _ => false) = true) (hi' : (P.info? ty').map (·.size) = some cs'.size) :
  (results fn tmps).run P w = .ok (.tuple #[.agg cs,tmps.getD u undef,.agg cs']) w:=by
 have h1 : tmps[p]?.getD undef = .pointer (some ⟨g,0,none⟩):=by simpa using hp
 have h2 : tmps[p']?.getD undef = .pointer (some ⟨g',0,none⟩):=by simpa using hp'
 simp [results,h,h1,h2,asAddr,run_loadVar_row w g t ty cs fr d hg hu hd hi,run_loadVar_row w g' t' ty' cs' fr' d' hg' hu' hd' hi']
end
section
variable {P : Program} {ops : Array Oper} {rest : List Oper} {o : Oper} {a : Act} {Q : Exit → Act → World → Prop}
theorem iaddr_event {W : World} (hgd : o.guard = none) {t e : TypeId} {x y N : Tmp} (ho : o.op = .indexAddr t (.tmp x) (.tmp y)) (_hd : o.dst = some N) {g i n c sz j : Nat} (hx : a.eval (.tmp x) = .slice (some ⟨g,i,none⟩) n c) (hy : a.eval (.tmp y) = .int .i64 (j : Int))
  (ht : P.underlying t = some (.slice e)) (hi : (P.info? e).map (·.size) = some sz) (hj : j < n)
  (h : wpList P ops Q rest (a.put o.dst (.pointer (some ⟨g,i + j * sz,none⟩))) W) : wpList P ops Q (o :: rest) a W:=by
 refine wpList_plain hgd fun K hK => ?_
 have hrun : (Instr.indexAt t (.slice (some ⟨g,i,none⟩) n c) (.int .i64 (j : Int))).run P W = .ok (.pointer (some ⟨g,i + j * sz,none⟩)) W:=by
  cases hq : P.info? e with
  | none => simp [hq] at hi
  | some inf =>
   have hs : inf.size = sz:=by simpa [hq] using hi
   simp [Instr.indexAt,asIntOf,run_underlying ht W,sizeOf,typeInfo,hq,hs,hj,Addr.add_mid]
 unfold Oper.wp execOp
 simp only [ho,hx,hy,Sem.run_bind,hrun,Result.andThen_ok,Sem.run_pure]
 exact hK _ _ h
end
theorem blk_far1 {g g' i t : Nat} {w w' : World} {cs : Array Value} {v : Value} (hw : w' = World.setCell w ⟨g',i,none⟩ v) (hn : g ≠ g') (h : w.heap[g]? = some (.cells cs t (0,0))) : w'.heap[g]? = some (.cells cs t (0,0)):=by
 subst hw
 exact blk_far h hn v
def PB (W : World) (g : Nat) (p : Pol.Py) : Prop:=W.heap[g]? = some (Obj.cells ((Pol.cells p).map (Value.int .i64)).toArray 45 (0,0))
theorem PB.cell {W : World} {g : Nat} {p : Pol.Py} (h : PB W g p) {i : Nat} (hi : i < 10) : W.cell? ⟨g,i,none⟩ = some (.int .i64 ((Pol.cells p).getD i 0)):=by
 rw [blk_cell h i]
 obtain rfl | rfl | rfl | rfl | rfl | rfl | rfl | rfl | rfl | rfl : i = 0 ∨ i = 1 ∨ i = 2 ∨ i = 3 ∨ i = 4 ∨ i = 5 ∨ i = 6 ∨ i = 7 ∨ i = 8 ∨ i = 9:=by omega
 all_goals rfl
theorem PB.put {W W' : World} {g : Nat} {p : Pol.Py} (h : PB W g p) {i : Nat} {v : Int} (hi : i < 10) (hw : W' = W.setCell ⟨g,i,none⟩ (.int .i64 v)) : PB W' g (p.put i v):=by
 subst hw
 have:=blk_set h i (.int .i64 v)
 unfold PB
 rw [Pol.cells_put p v i hi,List.map_set,← List.setIfInBounds_toArray]
 exact this
theorem PB.below {W W' : World} {g : Nat} {p : Pol.Py} (h : PB W g p) (hb : Below W.heap.size W W') : PB W' g p:=blk_below h hb
theorem PB.far {W W' : World} {g g' i : Nat} {p : Pol.Py} {vs : List Value} (h : PB W g p) (hw : W' = World.setCells W g' i vs) (hn : g ≠ g') : PB W' g p:=far_fill hw hn h
end Go.Proofs.Ytbiijcehgiibeaa.H

/- Steps of the walk of policy.Header: a literal of bytes that bears the run-time's mark, and bytes appended to it and to what grew of it. Laid tighter for a claim's bound by wip/shake.py (SQ=1). · Proved here, in whole numbers: a number's bytes are read as the number, whatever stands around; and what is read is written as what was read. -/
import Derived.Test.YtbiijcehgiibeaaKPReadsJSix
import Derived.Test.YtbiijcehgiibeaaKPReadsJFloat
import Derived.Lib.SlBytesConst
namespace Go.Proofs.Ytbiijcehgiibeaa.H
open Go.RowKit Go.Proofs.YtbiijcehgiibeaaW.PrintWords Go.Proofs.YtbiijcehgiibeaaW.PrintLast Go.Proofs.YtbiijcehgiibeaaW.PrintMore Go.Proofs.Ytbiijcehgiibeaa.Q
set_option linter.unusedVariables false
set_option linter.unusedSimpArgs false
def Marked (base : Nat) (W : World) (v : Value) (xs : List Int) : Prop:=∃ g,v = .slice (some ⟨g,0,none⟩) xs.length xs.length ∧ base ≤ g ∧ W.heap[g]? = some (.cells (encs (Value.int .u8) xs).toArray 5 (xs.length,xs.length + 1))
def Out (base : Nat) (W : World) (v : Value) (xs : List Int) : Prop:=Kd.R (Kd.int .u8) 5 W base (fun _ => True) v xs ∨ Marked base W v xs
theorem out_below {base : Nat} {W W' : World} {v : Value} {xs : List Int} (h : Out base W v xs) (hb : Below W.heap.size W W') : Out base W' v xs:=by
 rcases h with h | ⟨g,h1,h2,h3⟩
 ·exact .inl (Kd.R_below h hb)
 ·exact .inr ⟨g,h1,h2,blk_below h3 hb⟩
theorem out_far {base : Nat} {W W' : World} {v : Value} {xs : List Int} (h : Out base W v xs) {g t i : Nat} {cs : Array Value} {vs : List Value} (K : W.heap[g]? = some (.cells cs t (0,0))) (ht : t ≠ 5) (hw : W' = World.setCells W g i vs) : Out base W' v xs:=by
 have hh : ∀ k,k < W.heap.size → k ≠ g → W'.heap[k]? = W.heap[k]?:=fun k hk hne => by
  subst hw
  clear K h
  have hsz : ∀ (vs : List Value) (i : Nat) (W : World),(World.setCells W g i vs).heap.size = W.heap.size:=by
   intro vs
   induction vs with
   | nil => intro i W;rfl
   | cons v vs ih => intro i W;rw [World.setCells,ih];simp [World.setCell]
  clear hk
  induction vs generalizing i W with
  | nil => rfl
  | cons v vs ih => rw [World.setCells,ih];exact Below.heap_setCell W ⟨g,i,none⟩ v k hne
 rcases h with h | ⟨g',h1,h2,h3⟩
 ·refine .inl (Kd.R_move (ok:=fun k => k < W.heap.size ∧ k ≠ g) ?_ (fun k hk => hh k hk.1 hk.2) |> fun h => Kd.R_mono h (fun _ _ => trivial))
  have:=Kd.R_bound h
  exact Kd.R_mono (Kd.R_types (g:=g) (t:=t) this K (fun q hq => by
   simp [Kd.int,Kd.scalar] at hq
   subst hq
   exact fun e => ht e.symm)) (fun k hk => ⟨hk.1.2.2.1,hk.2⟩)
 ·have hne : g' ≠ g:=fun e => by
   subst e
   rw [K] at h3
   injection h3 with h3
   injection h3 with _ h3 _
   exact ht h3
  exact .inr ⟨g',h1,h2,(hh g' (blk_lt h3) hne).trans h3⟩
section
variable {ops : Array Oper} {rest : List Oper} {o : Oper} {a : Act} {Q : Exit → Act → World → Prop}
set_option maxRecDepth 20000 in
theorem out_append {w0 W : World} (hgd : o.guard = none) (s x : Operand) (ho : o.op = .call { callee:=.builtin .append,args:=#[s,x],argTypes:=#[24,24] })
  {v : Value} {A : Option Addr} {c : Nat} (xs ys : List Int) (hs : a.eval s = v) (hx : a.eval x = .slice A ys.length c) (hO : Out w0.heap.size W v xs) (hC : Kd.C (Kd.int .u8) W A ys.length ys)
  (hne : 0 < ys.length) (HB : Below w0.heap.size w0 W) (hl : xs.length + ys.length ≤ 1000000)
  (h : ∀ v1 w1,Kd.R (Kd.int .u8) 5 w1 w0.heap.size (fun _ => True) v1 (xs ++ ys) → Below w0.heap.size w0 w1 → (∀ (g t : Nat) (cs : Array Value),W.heap[g]? = some (Obj.cells cs t (0,0)) → t ≠ 5 → w1.heap[g]? = some (Obj.cells cs t (0,0))) → wpList Try.prog ops Q rest (a.put o.dst v1) w1) :
  wpList Try.prog ops Q (o :: rest) a W:=by
 rcases hO with hO | ⟨g,rfl,hg,hb⟩
 ·refine Kd.R_append_row (Value.int .u8) (0 : Int) (w0:=w0) w0.heap.size hgd s x 24 5 (.int .u8 0) 1 ho Try.underlying24 info5 rfl (by decide) v xs ys A ys.length c (fun _ => True) hs hx (fun _ _ => trivial) hO hC HB HB.size (by omega) ?_
  intro v1 w1 hR hB hG _
  exact h v1 w1 hR hB (fun g t cs hk ht => blk_grown hk hG (Kd.R_ne hO hk (fun e => ht e.symm)))
 ·obtain ⟨_,_,hcell⟩:=Kd.reads_of_C (enc:=Value.int .u8) (h1:=fun _ => rfl) (d:=(0 : Int)) hC
  obtain ⟨ad,rfl,hcl⟩:=hcell hne
  clear hC
  cases hq : Try.prog.info? 5 with
  | none =>
   have:=info5
   rw [hq] at this
   cases this
  | some i =>
   have hi : i.zero = some (.int .u8 0) ∧ i.size = 1 ∧ i.bytes = 1:=by
    have:=info5
    rw [hq] at this
    simpa using this
   refine wpList_append_grows W hgd s x 24 ho 5 i (.int .u8 0) 1 1 Try.underlying24 hq hi.1 hi.2.1 hi.2.2 rfl (by decide) (some ⟨g,0,none⟩) xs.length xs.length (encs (Value.int .u8) xs) hs (fun e => by cases e) (by simp [encs_length]) ?_ ad ys.length c (encs (Value.int .u8) ys) hx (by simp [encs_length]) ?_ ?_ (by omega) (by simp only [maxLen];omega) (by omega) ?_
   ·rintro b hb' j u hu
    injection hb' with hb'
    subst hb'
    rw [Addr.add_mid,Nat.zero_add,cell_of_row W g j _ 5 _ hb]
    simpa using hu
   ·intro j u hu
    have hj : j < ys.length:=by
     have:=(List.getElem?_eq_some_iff.1 hu).1
     simpa [encs_length] using this
    rw [encs_get (d:=(0 : Int)) ys j hj] at hu
    rw [← hu]
    exact hcl j hj
   ·intro u hu
    simp only [encs,List.mem_map] at hu
    obtain ⟨q,_,rfl⟩:=hu
    rfl
   ·intro v1 w1 hown hgr
    refine h v1 w1 (Kd.R_lower (Kd.R_of_own (by rw [encs_append,List.length_append];exact hown) (fun _ _ => trivial)) HB.size) (HB.grown hgr HB.size (by simp)) (fun g t cs hk ht => blk_grown hk hgr (by simp))
theorem mark_event {w0 W : World} (hgd : o.guard = none) {x N : Tmp} (ho : o.op = .convert 24 24 (.tmp x)) (_hd : o.dst = some N) {g n c : Nat} {cs : Array Value} (hx : a.eval (.tmp x) = .slice (some ⟨g,0,none⟩) n c) (K : W.heap[g]? = some (.cells cs 5 (0,0)))
  (h : ∀ w',w'.heap[g]? = some (Obj.cells cs 5 (cs.size,cs.size + 1)) → (∀ k,k ≠ g → w'.heap[k]? = W.heap[k]?) → (w0.heap.size ≤ g → Below w0.heap.size w0 W → Below w0.heap.size w0 w') → wpList Try.prog ops Q rest (a.put o.dst (.slice (some ⟨g,0,none⟩) n c)) w') :
  wpList Try.prog ops Q (o :: rest) a W:=by
 have hsh : W.shape? g = some (5,cs.size):=by
  unfold World.shape?
  rw [K]
 have hlt:=blk_lt K
 have hrun : (convert 24 24 (.slice (some ⟨g,0,none⟩) n c)).run Try.prog W = .ok (.slice (some ⟨g,0,none⟩) n c) (W.freeze ⟨g,cs.size,none⟩ 1):=by
  simp [convert,run_underlying Try.underlying24,run_underlying Try.underlying5,markStringish,hsh]
 have hg : (W.freeze ⟨g,cs.size,none⟩ 1).heap[g]? = some (Obj.cells cs 5 (cs.size,cs.size + 1)):=by
  unfold World.freeze
  rw [if_neg (by decide)]
  simp only [Array.getElem?_modify,if_pos rfl,K,Option.map_some]
  rfl
 have hne : ∀ k,k ≠ g → (W.freeze ⟨g,cs.size,none⟩ 1).heap[k]? = W.heap[k]?:=fun k hk => by
  unfold World.freeze
  rw [if_neg (by decide)]
  simp only [Array.getElem?_modify]
  rw [if_neg (fun e => hk e.symm)]
 refine wpList_plain hgd fun K' hK' => ?_
 unfold Oper.wp execOp
 simp only [ho,hx,Sem.run_bind,hrun,Result.andThen_ok,Sem.run_pure]
 refine hK' _ _ (h _ hg hne fun h1 hB => ?_)
 have hf : ∀ (w : World) (q : Addr),(w.freeze q 1).os = w.os ∧ (w.freeze q 1).tape = w.tape ∧ (w.freeze q 1).output = w.output ∧ (w.freeze q 1).heap.size = w.heap.size:=fun w q => by
  unfold World.freeze
  rw [if_neg (by decide)]
  simp
 obtain ⟨f1,f2,f3,f4⟩:=hf W ⟨g,cs.size,none⟩
 exact ⟨f1.trans hB.os,f2.trans hB.tape,f3.trans hB.output,by rw [f4];exact hB.size,fun k hk => (hne k (by omega)).trans (hB.block k hk)⟩
end
end Go.Proofs.Ytbiijcehgiibeaa.H
namespace Go.Proofs.Ytbiijcehgiibeaa.Pure
theorem wr_len (d : Nat) : ∀ n : Int, 1 ≤ (wr d n).length ∧ (wr d n).length ≤ d + 1 := by
  induction d with
  | zero => intro n; simp [wr]
  | succ d ih =>
    intro n
    unfold wr
    split
    · have := ih (n / 128)
      simp only [List.length_cons]
      omega
    · simp
theorem wr_bytes (d : Nat) : ∀ n : Int, 0 ≤ n → n < 128 ^ (d + 1) → M.bytes (wr d n) = true := by
  induction d with
  | zero =>
    intro n h0 h1
    have : n < 128 := by simpa using h1
    simp [wr, M.bytes]
    omega
  | succ d ih =>
    intro n h0 h1
    unfold wr
    rw [Int.pow_succ] at h1
    split
    · have := ih (n / 128) (by omega) (by omega)
      unfold M.bytes at this ⊢
      rw [List.all_cons, this, Bool.and_true]
      exact decide_eq_true (by omega)
    · simp [M.bytes]
      omega
theorem wr_rd9 (l : List Int) (hb : M.bytes l = true) (a : Nat) : ∀ (d i : Nat) (acc n nx : Int), d + i = 8 → a + i ≤ l.length → rd9 l a (d + 1) i acc = (n, nx, 0) →
    ∃ m : Int, n = acc + m * 128 ^ i ∧ 0 ≤ m ∧ (0 < m ∨ i = 0) ∧ m < 64 * 128 ^ d ∧ nx = (a : Int) + i + (wr d m).length ∧ ∃ post, l.drop (a + i) = wr d m ++ post := by
  intro d
  induction d with
  | zero =>
    intro i acc n nx hd hle h
    have hby := M.bytes_getD hb (a + i)
    unfold rd9 at h
    by_cases c1 : a + i = l.length
    · rw [if_pos c1] at h; cases h
    rw [if_neg c1] at h
    by_cases c2 : l.getD (a + i) 0 = 0 ∧ 0 < i
    · rw [if_pos c2] at h; cases h
    rw [if_neg c2] at h
    by_cases c3 : i = 8 ∧ 64 ≤ l.getD (a + i) 0
    · rw [if_pos c3] at h; cases h
    rw [if_neg c3, if_pos (by omega)] at h
    have hlt : a + i < l.length := by omega
    injection h with h1 h2
    injection h2 with h2 h3
    refine ⟨l.getD (a + i) 0, ?_, hby.1, by omega, by rw [Int.pow_zero]; omega, ?_, l.drop (a + i + 1), ?_⟩
    · rw [← h1, show l.getD (a + i) 0 % 128 = l.getD (a + i) 0 by omega]
    · rw [← h2]; rfl
    · rw [List.drop_eq_getElem_cons hlt, List.getD_eq_getElem?_getD, List.getElem?_eq_getElem hlt]; rfl
  | succ d ih =>
    intro i acc n nx hd hle h
    have hby := M.bytes_getD hb (a + i)
    have hp2 : (128 : Int) ^ (d + 1) = 128 ^ d * 128 := Int.pow_succ ..
    have hp3 : (1 : Int) ≤ 128 ^ d := Int.pow_pos (by decide)
    unfold rd9 at h
    by_cases c1 : a + i = l.length
    · rw [if_pos c1] at h; cases h
    rw [if_neg c1] at h
    by_cases c2 : l.getD (a + i) 0 = 0 ∧ 0 < i
    · rw [if_pos c2] at h; cases h
    rw [if_neg c2, if_neg (by omega)] at h
    have hlt : a + i < l.length := by omega
    have hdr : l.drop (a + i) = l.getD (a + i) 0 :: l.drop (a + i + 1) := by
      rw [List.drop_eq_getElem_cons hlt, List.getD_eq_getElem?_getD, List.getElem?_eq_getElem hlt]; rfl
    generalize l.getD (a + i) 0 = c at *
    by_cases c3 : c < 128
    · rw [if_pos c3] at h
      injection h with h1 h2
      injection h2 with h2 h3
      refine ⟨c, ?_, hby.1, by omega, by omega, ?_, l.drop (a + i + 1), ?_⟩
      · rw [← h1, show c % 128 = c by omega]
      · rw [← h2]; unfold wr; rw [if_neg (by omega)]; rfl
      · unfold wr; rw [if_neg (by omega)]; exact hdr
    · rw [if_neg c3] at h
      obtain ⟨m, e1, e2, e3, e4, e5, post, e6⟩ := ih (i + 1) _ n nx (by omega) (by omega) h
      have hp : (128 : Int) ^ (i + 1) = 128 ^ i * 128 := Int.pow_succ ..
      have hw : wr (d + 1) (c % 128 + 128 * m) = c :: wr d m := by
        rw [wr, if_pos (by omega), show (c % 128 + 128 * m) % 128 + 128 = c by omega, show (c % 128 + 128 * m) / 128 = m by omega]
      refine ⟨c % 128 + 128 * m, ?_, by omega, by omega, by omega, ?_, post, ?_⟩
      · rw [e1, hp]
        generalize (128 : Int) ^ i = q
        generalize c % 128 = v
        grind
      · rw [e5, hw, List.length_cons]; omega
      · rw [hw, hdr, show a + i + 1 = a + (i + 1) by omega, e6]
        rfl
theorem wr_readn {l : List Int} (hb : M.bytes l = true) {a n nx : Int} (h : readn l a = (n, nx, 0)) :
    0 ≤ n ∧ n ≤ 4611686018427387903 ∧ 0 ≤ a ∧ nx = a + (wr 8 n).length ∧ nx ≤ l.length ∧ ∃ post, l.drop a.toNat = wr 8 n ++ post := by
  unfold readn at h
  by_cases c : a < 0 ∨ a > (l.length : Int)
  · rw [if_pos c] at h; cases h
  · rw [if_neg c] at h
    obtain ⟨m, e1, e2, e3, e4, e5, post, e6⟩ := wr_rd9 l hb a.toNat 8 0 0 n nx rfl (by omega) h
    obtain rfl : n = m := by rw [e1, Int.pow_zero]; omega
    have h3 := congrArg List.length e6
    simp only [List.length_drop, List.length_append, Nat.add_zero] at h3
    refine ⟨e2, by omega, by omega, by omega, by omega, post, by simpa using e6⟩
theorem readn_next {l : List Int} (hb : M.bytes l = true) {a : Int} (h : (readn l a).2.2 = 0) : 0 ≤ a ∧ a < (readn l a).2.1 ∧ (readn l a).2.1 ≤ l.length ∧ 0 ≤ (readn l a).1 ∧ (readn l a).1 ≤ 4611686018427387903 := by
  obtain ⟨e1, e2, e3, e4, e5, -⟩ := wr_readn hb (a := a) (n := (readn l a).1) (nx := (readn l a).2.1) (by rw [← h])
  have := (wr_len 8 (readn l a).1).1
  omega
end Go.Proofs.Ytbiijcehgiibeaa.Pure

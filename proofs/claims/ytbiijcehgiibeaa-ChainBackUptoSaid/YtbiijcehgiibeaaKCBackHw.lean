/- Steps of a walk, used in the texts of chain and policy: a slice is made; within a region that draws its order a block is made, a value is stored. -/
import Derived.Test.YtbiijcehgiibeaaKCBackWMore
import Derived.Deep.MidRow
namespace Go.Proofs.Ytbiijcehgiibeaa.H
open Go.RowKit Go.Proofs.YtbiijcehgiibeaaW.PrintWords Go.Proofs.YtbiijcehgiibeaaW.PrintLast Go.Proofs.YtbiijcehgiibeaaW.PrintMore
set_option linter.unusedVariables false
section
variable {P : Program} {ops : Array Oper} {rest : List Oper} {o : Oper} {a : Act} {Q : Exit → Act → World → Prop} {Kc : Act → World → Prop}
theorem slice_event {W : World} (hgd : o.guard = none) {N : Tmp} (_hd : o.dst = some N) {cs : Array Value} {t : TypeId} {n : Nat}
    (hrun : (execOp a.eval o).run P W = .ok (.value (.slice (some ⟨W.heap.size, 0, none⟩) n n)) (W.alloc (.cells cs t (0, 0))))
    (h : ∀ g, g = W.heap.size → ∀ w1, w1.heap[g]? = some (.cells cs t (0, 0)) → Below W.heap.size W w1 → wpList P ops Q rest (a.put o.dst (.slice (some ⟨g, 0, none⟩) n n)) w1) : wpList P ops Q (o :: rest) a W :=
  Kd.event_run hgd hrun (h _ rfl _ (blk_new W _) (below_alloc (Below.refl _ _) _))
theorem box_step {W : World} (hw : Region.wanted o (yielded ops a.tmps) = true) {N : Option Tmp} (hN : o.dst = N) {cs : Array Value} {t : TypeId}
    (hrun : (execOp a.eval o).run P W = .ok (.value (.pointer (some ⟨W.heap.size, 0, none⟩))) (W.alloc (.cells cs t (0, 0))))
    (h : ∀ g, g = W.heap.size → ∀ w1, w1.heap[g]? = some (.cells cs t (0, 0)) → Below W.heap.size W w1 → Kc (a.put N (.pointer (some ⟨g, 0, none⟩))) w1) :
    if Region.wanted o (yielded ops a.tmps) = true then Oper.wp P o a W Kc Q else Kc (a.put N undef) W := by
  subst hN
  exact event_step hw hrun (h _ rfl _ (blk_new W _) (below_alloc (Below.refl _ _) _))
end
def fillA (cs : Array Value) : Nat → List Value → Array Value
  | _, [] => cs
  | i, v :: vs => fillA (cs.setIfInBounds i v) (i + 1) vs
theorem blk_fillA {g t : Nat} (vs : List Value) : ∀ {w : World} {cs : Array Value} (i : Nat), w.heap[g]? = some (.cells cs t (0, 0)) → (World.setCells w g i vs).heap[g]? = some (.cells (fillA cs i vs) t (0, 0)) := by
  induction vs with
  | nil => exact fun i h => h
  | cons v vs ih => exact fun i h => ih (i + 1) (blk_set h i v)
def setL : List Value → Nat → List Value → List Value
  | [], _, _ => []
  | a :: L, 0, [] => a :: L
  | _ :: L, 0, v :: vs => v :: setL L 0 vs
  | a :: L, i + 1, vs => a :: setL L i vs
theorem setL_nil (L : List Value) : ∀ i, setL L i [] = L := by
  induction L with
  | nil => intro i; simp [setL]
  | cons a L ih => intro i; cases i with
    | zero => simp [setL]
    | succ i => simp [setL, ih i]
theorem setL_set (v : Value) (vs : List Value) (L : List Value) : ∀ i, setL (L.set i v) (i + 1) vs = setL L i (v :: vs) := by
  induction L with
  | nil => intro i; simp [setL]
  | cons a L ih => intro i; cases i with
    | zero => simp [setL]
    | succ i => simp [setL, ih i]
theorem fillA_eq (vs : List Value) : ∀ (L : List Value) (i : Nat), fillA L.toArray i vs = (setL L i vs).toArray := by
  induction vs with
  | nil => intro L i; rw [setL_nil]; rfl
  | cons v vs ih => intro L i; rw [fillA, List.setIfInBounds_toArray, ih, setL_set]
theorem blk_fill {g t : Nat} {w w' : World} {L L' : List Value} {vs : List Value} {i : Nat} (hw : w' = World.setCells w g i vs) (h : w.heap[g]? = some (.cells L.toArray t (0, 0))) (e : setL L i vs = L') : w'.heap[g]? = some (.cells L'.toArray t (0, 0)) := by
  subst e
  subst hw
  have := blk_fillA vs i h
  rwa [fillA_eq] at this
theorem far_fillA {g g' t : Nat} (hn : g' ≠ g) (vs : List Value) : ∀ {w : World} {cs : Array Value} (i : Nat), w.heap[g']? = some (.cells cs t (0, 0)) → (World.setCells w g i vs).heap[g']? = some (.cells cs t (0, 0)) := by
  induction vs with
  | nil => exact fun i h => h
  | cons v vs ih => exact fun i h => ih (i + 1) (blk_far h hn v)
theorem far_fill {g g' t : Nat} {w w' : World} {cs : Array Value} {vs : List Value} {i : Nat} (hw : w' = World.setCells w g i vs) (hn : g' ≠ g) (h : w.heap[g']? = some (.cells cs t (0, 0))) : w'.heap[g']? = some (.cells cs t (0, 0)) := by
  subst hw
  exact far_fillA hn vs i h
theorem below_fillA {g : Nat} {w0 : World} (hg : w0.heap.size ≤ g) (vs : List Value) : ∀ {w : World} (i : Nat), Below w0.heap.size w0 w → Below w0.heap.size w0 (World.setCells w g i vs) := by
  induction vs with
  | nil => exact fun i h => h
  | cons v vs ih => exact fun i h => ih (i + 1) (below_set h hg)
theorem below_fill {g : Nat} {w0 w w' : World} {vs : List Value} {i : Nat} (hw : w' = World.setCells w g i vs) (hg : w0.heap.size ≤ g) (h : Below w0.heap.size w0 w) : Below w0.heap.size w0 w' := by
  subst hw
  exact below_fillA hg vs i h
section
variable {P : Program} {ops : Array Oper} {rest : List Oper} {o : Oper} {a : Act} {Q : Exit → Act → World → Prop} {Kc : Act → World → Prop}
theorem there_blk {W : World} {g ty : Nat} {L : List Value} (K : W.heap[g]? = some (.cells L.toArray ty (0, 0))) {i n : Nat} (h : i + n ≤ L.length) : W.there g i n := fun j hj => by
  rw [blk_cell K (i + j)]
  refine ⟨?_, blk_frozen K _⟩
  rw [List.getElem?_toArray, List.getElem?_eq_getElem (by omega)]
  rfl
theorem put_event {W : World} (hgd : o.guard = none) {t : TypeId} {p : Tmp} {y : Operand} (ho : o.op = .store t (.tmp p) y) (hN : o.dst = none) {g i ty : Nat} {L : List Value} (vs : List Value) (K : W.heap[g]? = some (.cells L.toArray ty (0, 0)))
    (hx : a.eval (.tmp p) = .pointer (some ⟨g, i, none⟩)) (hy : a.eval y = .agg vs.toArray) (hl : Nat.ble (i + vs.length) L.length = true) (hi : (P.info? t).map (·.size) = some vs.length) (h1 : vs.all (·.oneCell') = true)
    (h : ∀ w', w' = World.setCells W g i vs → wpList P ops Q rest a w') : wpList P ops Q (o :: rest) a W := by
  refine wpList_store_mid hgd t (.tmp p) y ho g i vs.toArray hx hy (there_blk K (by simpa using Nat.le_of_ble_eq_true hl)) (by simpa using hi) (by simpa using h1) ?_
  rw [hN]
  exact h _ rfl
end
end Go.Proofs.Ytbiijcehgiibeaa.H

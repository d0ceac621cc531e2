/- Proved here, in whole numbers: a policy's header is read as the policy, whatever stands behind it; what is read is written as what was read; what is read hangs on the bytes up to its end; a beginning of a header is at fault, and so is a header with one of its last six bytes turned. · Steps of the walk of the law PolicyBack: rows of bytes of the call's own, told by their block; plain facts on a header with one of its last six bytes turned. -/
import Derived.Test.YtbiijcehgiibeaaKPBackJQg5
import Derived.Test.YtbiijcehgiibeaaKPBackHp2
namespace Go.Proofs.Ytbiijcehgiibeaa.Pol
open Go.Proofs.Ytbiijcehgiibeaa
set_option linter.unusedVariables false
set_option linter.unusedSimpArgs false
theorem drop_behind {l a post : List Int} {i : Nat} (h : l.drop i = a ++ post) : l.drop (i + a.length) = post := by
  rw [← List.drop_drop, h, List.drop_left]
theorem rds_wr : ∀ (xs : List Int) (l : List Int) (a : Nat) (post : List Int), (∀ x ∈ xs, 0 ≤ x ∧ x ≤ 1048576) → l.drop a = xs.flatMap (Pure.wr 8) ++ post → rds l xs.length (a : Int) = (xs, (a : Int) + (xs.flatMap (Pure.wr 8)).length, 0) := by
  intro xs
  induction xs with
  | nil => intro l a post hx hl; simp [rds]
  | cons x xs ih =>
    intro l a post hx hl
    rw [List.flatMap_cons, List.append_assoc] at hl
    have h0 := hx x (by simp)
    have r := Pure.readn_wr l a x _ h0.1 (by omega) hl
    have r2 := ih l (a + (Pure.wr 8 x).length) post (fun y hy => hx y (by simp [hy])) (drop_behind hl)
    rw [show ((a + (Pure.wr 8 x).length : Nat) : Int) = (a : Int) + (Pure.wr 8 x).length by omega] at r2
    rw [List.length_cons, rds, r]
    simp only
    rw [if_pos trivial, r2, List.flatMap_cons, List.length_append]
    refine Prod.ext rfl (Prod.ext ?_ rfl)
    simp only
    omega
theorem wr_rds {l : List Int} (hb : M.bytes l = true) : ∀ (n : Nat) (a : Int), 0 ≤ a → a ≤ l.length → (rds l n a).2.2 = 0 →
    (∀ x ∈ (rds l n a).1, 0 ≤ x) ∧ (rds l n a).2.1 = a + ((rds l n a).1.flatMap (Pure.wr 8)).length ∧ (rds l n a).2.1 ≤ l.length ∧ ∃ post, l.drop a.toNat = (rds l n a).1.flatMap (Pure.wr 8) ++ post := by
  intro n
  induction n with
  | zero => intro a h0 h1 h; exact ⟨by simp [rds], by simp [rds], h1, l.drop a.toNat, by simp [rds]⟩
  | succ n ih =>
    intro a h0 h1 h
    unfold rds at h ⊢
    by_cases c : (Pure.readn l a).2.2 = 0
    · rw [if_pos c] at h ⊢
      obtain ⟨p0, p1, p2, p3, p4, q1, p5⟩ := Pure.wr_readn hb (a := a) (n := (Pure.readn l a).1) (nx := (Pure.readn l a).2.1) (by rw [← c])
      obtain ⟨i1, i2, i3, q2, i4⟩ := ih (Pure.readn l a).2.1 (by omega) p4 h
      simp only
      refine ⟨fun x hx => ?_, ?_, i3, q2, ?_⟩
      · rcases List.mem_cons.1 hx with rfl | hx
        · exact p0
        · exact i1 x hx
      · rw [i2, List.flatMap_cons, List.length_append]
        omega
      · rw [List.flatMap_cons, List.append_assoc, ← i4, p5]
        have := drop_behind p5
        rw [← this]
        congr 2
        omega
    · rw [if_neg c] at h
      exact absurd h c
def hdr (p : Py) : List Int := body p ++ M.wr6 (M.add (1, 2) (body p))
theorem header_hdr {p : Py} (h : ok p = true) : header p = (hdr p, 0) := by unfold header hdr; rw [if_pos h]
theorem header_not {p : Py} (h : ok p = false) : header p = ([], 40) := by unfold header; rw [if_neg (by rw [h]; decide)]
theorem due_right (p : Py) : M.right (M.add (1, 2) (body p)).1 (M.add (1, 2) (body p)).2 = true := M.add_right _ _ (by decide)
theorem hdr_length (p : Py) : (hdr p).length = (body p).length + 6 := by unfold hdr; rw [List.length_append, M.wr6_length]
theorem hdr_bytes {p : Py} (h : ok p = true) : M.bytes (hdr p) = true := Pure.bytes_append (H.body_bytes h) (M.wr6_bytes _)
theorem flat_len : ∀ xs : List Int, xs.length ≤ (xs.flatMap (Pure.wr 8)).length := by
  intro xs
  induction xs with
  | nil => simp
  | cons x xs ih =>
    rw [List.flatMap_cons, List.length_append, List.length_cons]
    have := (Pure.wr_len 8 x).1
    omega
theorem eight_len (p : Py) : (eight p).length = 8 := by unfold eight; split <;> rfl
theorem body_long (p : Py) : 12 ≤ (body p).length := by
  unfold body
  have := flat_len (eight p)
  rw [eight_len] at this
  rw [List.length_append, show reel.length = 4 from rfl]
  omega
theorem ok_kind {p : Py} (h : ok p = true) : p.kind = 1 ∨ p.kind = 2 := by
  refine Decidable.byContradiction fun hn => ?_
  rw [ok_no (fun e => hn (.inl e)) (fun e => hn (.inr e))] at h
  cases h
theorem make_eight {p : Py} (h : ok p = true) : eight p = p.kind :: (eight p).drop 1 ∧ make p.kind ((eight p).drop 1) = p := by
  rcases ok_kind h with k | k
  · have hw : p.width = 0 ∧ p.count = 0 := by
      refine Decidable.byContradiction fun hn => ?_
      have : p.width ≠ 0 ∨ p.count ≠ 0 := by omega
      rw [ok_no1 k this] at h
      cases h
    unfold eight make
    rw [if_neg (by omega), if_pos k]
    refine ⟨rfl, ?_⟩
    obtain ⟨a0, a1, a2, a3, a4, a5, a6, a7, a8, a9⟩ := p
    simp only at hw
    obtain ⟨rfl, rfl⟩ := hw
    rfl
  · have hw : p.num = 0 ∧ p.den = 0 := by
      refine Decidable.byContradiction fun hn => ?_
      have : p.num ≠ 0 ∨ p.den ≠ 0 := by omega
      rw [ok_no2 k this] at h
      cases h
    unfold eight make
    rw [if_pos k, if_neg (by omega)]
    refine ⟨rfl, ?_⟩
    obtain ⟨a0, a1, a2, a3, a4, a5, a6, a7, a8, a9⟩ := p
    simp only at hw
    obtain ⟨rfl, rfl⟩ := hw
    rfl
theorem eight_make {k : Int} {xs : List Int} (hk : k = 1 ∨ k = 2) (hx : xs.length = 7) : eight (make k xs) = k :: xs := by
  obtain ⟨a, b, c, d, e, f, g, rfl⟩ := seven hx
  rcases hk with rfl | rfl <;> rfl
theorem read_body {p : Py} (h : ok p = true) (rest : List Int) : read (body p ++ rest) = tail (body p ++ rest) p ((body p).length : Int) := by
  obtain ⟨h1, h2⟩ := make_eight h
  have hin := H.eight_in h
  have hb : body p ++ rest = reel ++ (Pure.wr 8 p.kind ++ (((eight p).drop 1).flatMap (Pure.wr 8) ++ rest)) := by
    unfold body
    rw [h1, List.flatMap_cons]
    simp only [List.append_assoc, List.drop_one, List.tail_cons]
  have hk : 0 ≤ p.kind ∧ p.kind ≤ 1048576 := hin _ (by rw [h1]; simp)
  have e4 : (body p ++ rest).take 4 = reel := by rw [hb]; rfl
  have d4 : (body p ++ rest).drop 4 = Pure.wr 8 p.kind ++ (((eight p).drop 1).flatMap (Pure.wr 8) ++ rest) := by rw [hb]; rfl
  have r1 := Pure.readn_wr _ 4 p.kind _ hk.1 (by omega) d4
  have r2 := rds_wr ((eight p).drop 1) _ (4 + (Pure.wr 8 p.kind).length) rest (fun x hx => hin x (List.mem_of_mem_drop hx)) (drop_behind d4)
  have hl7 : ((eight p).drop 1).length = 7 := by rw [List.length_drop, eight_len]
  rw [hl7, show ((4 + (Pure.wr 8 p.kind).length : Nat) : Int) = ((4 : Nat) : Int) + (Pure.wr 8 p.kind).length by omega] at r2
  unfold read
  rw [if_pos e4]
  rw [show ((4 : Nat) : Int) = 4 from rfl] at r1 r2
  rw [r1]
  simp only
  rw [if_pos trivial, if_pos (ok_kind h), r2]
  simp only
  rw [if_pos trivial, h2]
  congr 1
  have : (body p).length = 4 + ((Pure.wr 8 p.kind).length + (((eight p).drop 1).flatMap (Pure.wr 8)).length) := by
    unfold body
    rw [h1, List.flatMap_cons, List.length_append, List.length_append, show reel.length = 4 from rfl]
    rfl
  omega
theorem take_body (p : Py) (rest : List Int) : (body p ++ rest).take ((body p).length : Int).toNat = body p := by rw [Int.toNat_natCast, List.take_left]
theorem read_hdr {p : Py} (h : ok p = true) (rest : List Int) : read (hdr p ++ rest) = (p, ((hdr p).length : Int), 0, 0) := by
  have e : hdr p ++ rest = body p ++ (M.wr6 (M.add (1, 2) (body p)) ++ rest) := by unfold hdr; rw [List.append_assoc]
  rw [e, read_body h]
  have r := M.rd6_at (due_right p) (a := (body p).length) (l := body p ++ (M.wr6 (M.add (1, 2) (body p)) ++ rest)) (post := rest) (by rw [List.drop_left])
  unfold tail
  rw [if_pos h, r]
  simp only
  rw [if_pos trivial, take_body, if_pos rfl, hdr_length]
  rfl
theorem hdr_read {l : List Int} (hb : M.bytes l = true) (h : (read l).2.2.1 = 0) : ok (read l).1 = true ∧ (read l).2.1 = ((hdr (read l).1).length : Int) ∧ ∃ post, l = hdr (read l).1 ++ post := by
  generalize hr : read l = r at h ⊢
  unfold read at hr
  by_cases c1 : l.take 4 = reel
  case neg => (rw [if_neg c1] at hr; subst hr; cases h)
  rw [if_pos c1] at hr
  by_cases c2 : (Pure.readn l 4).2.2 = 0
  case neg => (rw [if_neg c2] at hr; subst hr; exact absurd h c2)
  rw [if_pos c2] at hr
  by_cases c3 : (Pure.readn l 4).1 = 1 ∨ (Pure.readn l 4).1 = 2
  case neg => (rw [if_neg c3] at hr; subst hr; cases h)
  rw [if_pos c3] at hr
  by_cases c4 : (rds l 7 (Pure.readn l 4).2.1).2.2 = 0
  case neg => (rw [if_neg c4] at hr; subst hr; exact absurd h c4)
  rw [if_pos c4] at hr
  obtain ⟨p0, p1, p2, p3, p4, q1, p5⟩ := Pure.wr_readn hb (a := 4) (n := (Pure.readn l 4).1) (nx := (Pure.readn l 4).2.1) (by rw [← c2])
  obtain ⟨s0, s1, s2, q2, s3⟩ := wr_rds hb 7 (Pure.readn l 4).2.1 (by omega) p4 c4
  have hlen := rds_len l 7 _ c4
  have he := eight_make (xs := (rds l 7 (Pure.readn l 4).2.1).1) c3 hlen
  generalize (Pure.readn l 4) = z at *
  generalize (rds l 7 z.2.1) = y at *
  have hbody : l = body (make z.1 y.1) ++ q2 := by
    have e1 := List.take_append_drop 4 l
    have e2 := drop_behind p5
    rw [show (4 : Int).toNat + (Pure.wr 8 z.1).length = z.2.1.toNat by omega, s3] at e2
    have p5' : l.drop 4 = Pure.wr 8 z.1 ++ q1 := p5
    unfold body
    rw [he, List.flatMap_cons]
    rw [← e1, c1, p5', ← e2]
    simp only [List.append_assoc]
  have hy : y.2.1 = ((body (make z.1 y.1)).length : Int) := by
    have : (body (make z.1 y.1)).length = 4 + ((Pure.wr 8 z.1).length + (y.1.flatMap (Pure.wr 8)).length) := by
      unfold body
      rw [he, List.flatMap_cons, List.length_append, List.length_append, show reel.length = 4 from rfl]
    omega
  rw [hy] at hr
  generalize make z.1 y.1 = p at *
  unfold tail at hr
  by_cases c5 : ok p = true
  case neg => (rw [if_neg c5] at hr; subst hr; cases h)
  rw [if_pos c5] at hr
  by_cases c6 : (M.rd6 l ((body p).length : Int)).2.2.2 = 0
  case neg => (rw [if_neg c6] at hr; subst hr; exact absurd h c6)
  rw [if_pos c6] at hr
  by_cases c7 : ((M.rd6 l ((body p).length : Int)).1, (M.rd6 l ((body p).length : Int)).2.1) = M.add (1, 2) (l.take ((body p).length : Int).toNat)
  case neg => (rw [if_neg c7] at hr; subst hr; cases h)
  rw [if_pos c7] at hr
  obtain ⟨t0, t1, t2, t3, q3, t4⟩ := M.at_rd6 hb (a := ((body p).length : Int)) (p := (M.rd6 l ((body p).length : Int)).1) (q := (M.rd6 l ((body p).length : Int)).2.1) (nx := (M.rd6 l ((body p).length : Int)).2.2.1) (by rw [← c6])
  rw [c7] at t4
  subst hr
  have ht : l.take ((body p).length : Int).toNat = body p := by rw [hbody]; exact take_body p q2
  rw [ht] at t4
  refine ⟨c5, ?_, q3, ?_⟩
  · show (M.rd6 l ((body p).length : Int)).2.2.1 = _
    rw [t1, hdr_length]
    rfl
  · show l = hdr p ++ q3
    rw [Int.toNat_natCast] at t4 ht
    have e1 := List.take_append_drop (body p).length l
    rw [ht, t4] at e1
    rw [← e1]
    unfold hdr
    rw [List.append_assoc]
theorem hdr_inj {p q : Py} (hp : ok p = true) (hq : ok q = true) {x y : List Int} (h : hdr p ++ x = hdr q ++ y) : p = q := by
  have h1 := read_hdr hp x
  have h2 := read_hdr hq y
  rw [h, h2] at h1
  injection h1 with h1
  exact h1.symm
theorem read_cut {p : Py} (hp : ok p = true) {m : Nat} (hm : m < (hdr p).length) : (read ((hdr p).take m)).2.2.1 ≠ 0 := by
  intro h
  have hb : M.bytes ((hdr p).take m) = true := by
    have := hdr_bytes hp
    unfold M.bytes at this ⊢
    rw [List.all_eq_true] at this ⊢
    exact fun z hz => this z (List.mem_of_mem_take hz)
  obtain ⟨h1, h2, post, h3⟩ := hdr_read hb h
  generalize (read ((hdr p).take m)).1 = q at *
  have h4 : hdr p ++ [] = hdr q ++ (post ++ (hdr p).drop m) := by
    rw [List.append_nil, ← List.append_assoc, ← h3, List.take_append_drop]
  have h5 := hdr_inj hp h1 h4
  subst h5
  have h6 := congrArg List.length h3
  rw [List.length_take, List.length_append] at h6
  omega
theorem read_six {p : Py} (hp : ok p = true) {s rest : List Int} (hs : s.length = 6) (hb : M.bytes s = true) (hr : M.bytes rest = true) : (read (body p ++ (s ++ rest))).2.2.1 = 0 ↔ s = M.wr6 (M.add (1, 2) (body p)) := by
  constructor
  · intro h
    have hall : M.bytes (body p ++ (s ++ rest)) = true := Pure.bytes_append (H.body_bytes hp) (Pure.bytes_append hb hr)
    obtain ⟨h1, h2, post, h3⟩ := hdr_read hall h
    rw [read_body hp] at h h1 h2 h3
    unfold tail at h h1 h2 h3
    rw [if_pos hp] at h h1 h2 h3
    by_cases c6 : (M.rd6 (body p ++ (s ++ rest)) ((body p).length : Int)).2.2.2 = 0
    case neg => (rw [if_neg c6] at h; exact absurd h c6)
    rw [if_pos c6] at h h1 h2 h3
    by_cases c7 : ((M.rd6 (body p ++ (s ++ rest)) ((body p).length : Int)).1, (M.rd6 (body p ++ (s ++ rest)) ((body p).length : Int)).2.1) = M.add (1, 2) ((body p ++ (s ++ rest)).take ((body p).length : Int).toNat)
    case neg => (rw [if_neg c7] at h; cases h)
    rw [if_pos c7] at h3
    unfold hdr at h3
    rw [List.append_assoc] at h3
    have h4 := List.append_cancel_left h3
    exact (List.append_inj h4 (by rw [hs, M.wr6_length])).1
  · rintro rfl
    have := read_hdr hp rest
    unfold hdr at this
    rw [List.append_assoc] at this
    rw [this]
end Go.Proofs.Ytbiijcehgiibeaa.Pol
namespace Go.Proofs.Ytbiijcehgiibeaa.H
open Go.RowKit Go.Proofs.YtbiijcehgiibeaaW.PrintWords Go.Proofs.YtbiijcehgiibeaaW.PrintLast Go.Proofs.YtbiijcehgiibeaaW.PrintMore Go.Proofs.Ytbiijcehgiibeaa.Q
set_option linter.unusedVariables false
set_option linter.unusedSimpArgs false
def Holds8 (cur : Array Value) (xs : List Int) : Prop := ∀ i : Nat, i < xs.length → cur[i]? = some (Value.int .u8 (xs.getD i 0))
theorem R8.open {base : Nat} {ok : Nat → Prop} {W : World} {v : Value} {xs : List Int} (h : Kd.R (Kd.int .u8) 5 W base ok v xs) (h0 : 0 < xs.length) : ∃ g c cur, v = .slice (some ⟨g, 0, none⟩) xs.length c ∧ base ≤ g ∧ W.heap[g]? = some (Obj.cells cur 5 (0, 0)) ∧ xs.length ≤ c ∧ Holds8 cur xs := by
  have ho := Kd.own_of_R (enc := Value.int .u8) (h1 := fun _ => rfl) h
  rcases ho.2 with ⟨_, hn⟩ | ⟨g, cap, cur, hv, hg, hc, hle, _, _, ht⟩
  · omega
  · refine ⟨g, cap, cur, hv, hg, hc, hle, fun i hi => ?_⟩
    have h2 : (encs (Value.int .u8) xs)[i]? = some (.int .u8 (xs.getD i 0)) := encs_get (d := (0 : Int)) xs i hi
    rw [← ht, List.getElem?_take_of_lt (by omega)] at h2
    rw [← Array.getElem?_toList]
    exact h2
theorem blk_C {W : World} {g : Nat} {cur : Array Value} {xs : List Int} (K : W.heap[g]? = some (Obj.cells cur 5 (0, 0))) (h : Holds8 cur xs) (hm : xs.length ≤ 9223372036854775807) : Kd.C (Kd.int .u8) W (some ⟨g, 0, none⟩) xs.length xs := by
  refine Kd.C_of_reads (enc := Value.int .u8) (h1 := fun _ => rfl) (d := (0 : Int)) ⟨rfl, hm, fun _ => ⟨⟨g, 0, none⟩, rfl, fun j hj => ?_⟩⟩
  rw [Addr.add_mid, Nat.zero_add, blk_cell K j]
  exact h j hj
theorem Holds8.set {cur : Array Value} {xs : List Int} (h : Holds8 cur xs) (j : Nat) (c : Int) (hj : j < xs.length) : Holds8 (cur.setIfInBounds j (.int .u8 c)) (xs.set j c) := by
  intro i hi
  rw [List.length_set] at hi
  have hs : j < cur.size := by
    have := h j hj
    exact (Array.getElem?_eq_some_iff.1 this).1
  rw [Array.getElem?_setIfInBounds, List.getD_eq_getElem?_getD, List.getElem?_set]
  by_cases e : j = i
  · subst e
    rw [if_pos rfl, if_pos rfl, if_pos hs, if_pos hj]
    rfl
  · rw [if_neg e, if_neg e, ← List.getD_eq_getElem?_getD]
    exact h i hi
theorem Holds8.take {cur : Array Value} {xs : List Int} (h : Holds8 cur xs) (n : Nat) : Holds8 cur (xs.take n) := by
  intro i hi
  have h2 : i < xs.length := by rw [List.length_take] at hi; omega
  rw [h i h2, List.getD_eq_getElem?_getD, List.getD_eq_getElem?_getD, List.getElem?_take_of_lt (by rw [List.length_take] at hi; omega)]
section
variable {P : Program} {ops : Array Oper} {rest : List Oper} {o : Oper} {a : Act} {Q : Exit → Act → World → Prop}
theorem iaddr_event2 {W : World} (hgd : o.guard = none) {t e : TypeId} {x y N : Tmp} (ho : o.op = .indexAddr t (.tmp x) (.tmp y)) (_hd : o.dst = some N) {g n c j : Nat} {z : Int} (hx : a.eval (.tmp x) = .slice (some ⟨g, 0, none⟩) n c) (hy : a.eval (.tmp y) = .int .i64 z) (hz : z = (j : Int))
    (ht : P.underlying t = some (.slice e)) (hi : (P.info? e).map (·.size) = some 1) (hj : j < n)
    (h : wpList P ops Q rest (a.put o.dst (.pointer (some ⟨g, j, none⟩))) W) : wpList P ops Q (o :: rest) a W := by
  subst hz
  refine iaddr_event (i := 0) (sz := 1) hgd ho _hd hx hy ht hi hj ?_
  rw [Nat.zero_add, Nat.mul_one]
  exact h
end
theorem cutb {A : Option Addr} {n : Nat} (c : Nat) (xs : List Int) (z : Int) (hn : n = xs.length) (h0 : 0 ≤ z) (h : z ≤ xs.length) (hc : xs.length ≤ c) : ∀ W : World, (Instr.slice 24 (.slice A n c) none (some (.int .i64 z)) none).run Try.prog W = .ok (.slice A (xs.take z.toNat).length c) W := by
  subst hn
  exact cutn A xs c z h0 h hc
end Go.Proofs.Ytbiijcehgiibeaa.H
namespace Go.Proofs.Ytbiijcehgiibeaa.Pol
theorem wr6_set (x : Int × Int) (r : Nat) (c : Int) (hr : r < 6) : ((M.wr6 x).set r c = M.wr6 x ↔ c = (M.wr6 x).getD r 0) := by
  have hl : (M.wr6 x).length = 6 := rfl
  generalize M.wr6 x = s at hl ⊢
  match s, hl with
  | [a, b, d, e, f, g], _ =>
    obtain rfl | rfl | rfl | rfl | rfl | rfl : r = 0 ∨ r = 1 ∨ r = 2 ∨ r = 3 ∨ r = 4 ∨ r = 5 := by omega
    all_goals simp
theorem read_turned {p : Py} (hp : ok p = true) {rest : List Int} (hr : M.bytes rest = true) {j : Nat} {c : Int} (h1 : (hdr p).length ≤ j + 6) (h2 : j < (hdr p).length) (hc : 0 ≤ c ∧ c < 256) : (read ((hdr p ++ rest).set j c)).2.2.1 = 0 ↔ (hdr p ++ rest).getD j 0 = c := by
  have hl := hdr_length p
  have e1 : (hdr p ++ rest).set j c = body p ++ ((M.wr6 (M.add (1, 2) (body p))).set (j - (body p).length) c ++ rest) := by
    unfold hdr
    rw [List.append_assoc, List.set_append_right _ _ (by omega), List.set_append_left _ _ (by rw [M.wr6_length]; omega)]
  have e2 : (hdr p ++ rest).getD j 0 = (M.wr6 (M.add (1, 2) (body p))).getD (j - (body p).length) 0 := by
    unfold hdr
    rw [List.getD_eq_getElem?_getD, List.getD_eq_getElem?_getD, List.append_assoc, List.getElem?_append_right (by omega), List.getElem?_append_left (by rw [M.wr6_length]; omega)]
  have hb : M.bytes ((M.wr6 (M.add (1, 2) (body p))).set (j - (body p).length) c) = true := by
    have := M.wr6_bytes (M.add (1, 2) (body p))
    unfold M.bytes at this ⊢
    rw [List.all_eq_true] at this ⊢
    intro z hz
    rcases List.mem_or_eq_of_mem_set hz with hz | rfl
    · exact this z hz
    · exact decide_eq_true hc
  rw [e1, e2, read_six hp (by rw [List.length_set, M.wr6_length]) hb hr, wr6_set _ _ _ (by omega)]
  exact eq_comm
end Go.Proofs.Ytbiijcehgiibeaa.Pol

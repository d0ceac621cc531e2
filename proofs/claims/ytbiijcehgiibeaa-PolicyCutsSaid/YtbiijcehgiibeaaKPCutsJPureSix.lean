/- Proved here, in whole numbers: six bytes read at any place where a seal's bytes stand; and the way back. · Proved here, in whole numbers: a policy's header is read as the policy, whatever stands behind it; what is read is written as what was read; what is read hangs on the bytes up to its end; a beginning of a header is at fault, and so is a header with one of its last six bytes turned. · Proved here: the small case that each statement of layer 4 begins with comes out right. · Proved here: the plain law of PolicyCuts: what is read hangs on the bytes up to its end; a fault's place. -/
import Derived.Test.YtbiijcehgiibeaaKPCutsJSix
import Derived.Test.YtbiijcehgiibeaaKPCutsJPolg
import Derived.Test.YtbiijcehgiibeaaKPCutsJHap
import Derived.Test.YtbiijcehgiibeaaKPCutsHp2
import Derived.Test.YtbiijcehgiibeaaKPCutsJQg10
import Derived.Test.YtbiijcehgiibeaaKPCutsJFloat
import Derived.Test.YtbiijcehgiibeaaKPCutsQf10
namespace Go.Proofs.Ytbiijcehgiibeaa.M
theorem rd6_at {l : List Int} {x : Int × Int} (h : right x.1 x.2 = true) {a : Nat} {post : List Int} (hl : l.drop a = wr6 x ++ post) : rd6 l (a : Int) = (x.1, x.2, (a : Int) + 6, 0) := by
  have hlen := congrArg List.length hl
  simp only [List.length_drop, List.length_append, wr6_length] at hlen
  have h1 : (l.take a).length = a := by rw [List.length_take]; omega
  have h2 : l = l.take a ++ (wr6 x ++ post) := by rw [← hl, List.take_append_drop]
  have := rd6_wr6 h (l.take a) post
  rw [h1, ← h2] at this
  exact this
theorem at_rd6 {l : List Int} (hb : bytes l = true) {a p q nx : Int} (h : rd6 l a = (p, q, nx, 0)) : 0 ≤ a ∧ nx = a + 6 ∧ nx ≤ l.length ∧ right p q = true ∧ ∃ post, l.drop a.toNat = wr6 (p, q) ++ post := by
  unfold rd6 at h
  by_cases c1 : a < 0 ∨ a > (l.length : Int)
  · rw [if_pos c1] at h; cases h
  rw [if_neg c1] at h
  by_cases c2 : (l.length : Int) - a < 6
  · rw [if_pos c2] at h; cases h
  rw [if_neg c2] at h
  by_cases c3 : right (six l a.toNat).1 (six l a.toNat).2 = true
  · rw [if_pos c3] at h
    injection h with h1 h
    injection h with h2 h
    injection h with h3 h
    subst h1
    subst h2
    refine ⟨by omega, by omega, by omega, c3, (l.drop a.toNat).drop 6, ?_⟩
    rw [show ((six l a.toNat).1, (six l a.toNat).2) = six l a.toNat from rfl, wr6_six hb _ (by omega), List.take_append_drop]
  · rw [if_neg c3] at h; cases h
end Go.Proofs.Ytbiijcehgiibeaa.M
namespace Go.Proofs.Ytbiijcehgiibeaa.Pol
open Go.Proofs.Ytbiijcehgiibeaa
set_option linter.unusedVariables false
set_option linter.unusedSimpArgs false
theorem drop_behind {l a post : List Int} {i : Nat} (h : l.drop i = a ++ post) : l.drop (i + a.length) = post := by
  rw [← List.drop_drop, h, List.drop_left]
theorem rds_wr : ∀ (xs : List Int) (l : List Int) (a : Nat) (post : List Int), (∀ x ∈ xs, 0 ≤ x ∧ x ≤ 1048576) → l.drop a = xs.flatMap (Pure.wr 8) ++ post → rds l xs.length (a : Int) = (xs, (a : Int) + (xs.flatMap (Pure.wr 8)).length, 0) := by
  intro xs
  induction xs with
  | nil => intro l a post hx hl; simp [rds]
  | cons x xs ih =>
    intro l a post hx hl
    rw [List.flatMap_cons, List.append_assoc] at hl
    have h0 := hx x (by simp)
    have r := Pure.readn_wr l a x _ h0.1 (by omega) hl
    have r2 := ih l (a + (Pure.wr 8 x).length) post (fun y hy => hx y (by simp [hy])) (drop_behind hl)
    rw [show ((a + (Pure.wr 8 x).length : Nat) : Int) = (a : Int) + (Pure.wr 8 x).length by omega] at r2
    rw [List.length_cons, rds, r]
    simp only
    rw [if_pos trivial, r2, List.flatMap_cons, List.length_append]
    refine Prod.ext rfl (Prod.ext ?_ rfl)
    simp only
    omega
theorem wr_rds {l : List Int} (hb : M.bytes l = true) : ∀ (n : Nat) (a : Int), 0 ≤ a → a ≤ l.length → (rds l n a).2.2 = 0 →
    (∀ x ∈ (rds l n a).1, 0 ≤ x) ∧ (rds l n a).2.1 = a + ((rds l n a).1.flatMap (Pure.wr 8)).length ∧ (rds l n a).2.1 ≤ l.length ∧ ∃ post, l.drop a.toNat = (rds l n a).1.flatMap (Pure.wr 8) ++ post := by
  intro n
  induction n with
  | zero => intro a h0 h1 h; exact ⟨by simp [rds], by simp [rds], h1, l.drop a.toNat, by simp [rds]⟩
  | succ n ih =>
    intro a h0 h1 h
    unfold rds at h ⊢
    by_cases c : (Pure.readn l a).2.2 = 0
    · rw [if_pos c] at h ⊢
      obtain ⟨p0, p1, p2, p3, p4, q1, p5⟩ := Pure.wr_readn hb (a := a) (n := (Pure.readn l a).1) (nx := (Pure.readn l a).2.1) (by rw [← c])
      obtain ⟨i1, i2, i3, q2, i4⟩ := ih (Pure.readn l a).2.1 (by omega) p4 h
      simp only
      refine ⟨fun x hx => ?_, ?_, i3, q2, ?_⟩
      · rcases List.mem_cons.1 hx with rfl | hx
        · exact p0
        · exact i1 x hx
      · rw [i2, List.flatMap_cons, List.length_append]
        omega
      · rw [List.flatMap_cons, List.append_assoc, ← i4, p5]
        have := drop_behind p5
        rw [← this]
        congr 2
        omega
    · rw [if_neg c] at h
      exact absurd h c
theorem readn_take {l : List Int} (hb : M.bytes l = true) {a : Int} (h : (Pure.readn l a).2.2 = 0) {m : Nat} (hm : (Pure.readn l a).2.1 ≤ m) (hl : m ≤ l.length) : Pure.readn (l.take m) a = Pure.readn l a := by
  obtain ⟨p0, p1, p2, p3, p4, q1, p5⟩ := Pure.wr_readn hb (a := a) (n := (Pure.readn l a).1) (nx := (Pure.readn l a).2.1) (by rw [← h])
  have hd : (l.take m).drop a.toNat = Pure.wr 8 (Pure.readn l a).1 ++ q1.take (m - a.toNat - (Pure.wr 8 (Pure.readn l a).1).length) := by
    rw [List.drop_take, p5, List.take_append]
    rw [List.take_of_length_le (by omega)]
  have := Pure.readn_wr (l.take m) a.toNat (Pure.readn l a).1 _ p0 p1 hd
  rw [show ((a.toNat : Nat) : Int) = a by omega] at this
  rw [this]
  refine Prod.ext rfl (Prod.ext ?_ ?_)
  · simp only; omega
  · exact h.symm
theorem readn_end {l : List Int} {m : Nat} (hl : m ≤ l.length) : Pure.readn (l.take m) (m : Int) = (0, 0, 10) := by
  have hlen : (l.take m).length = m := by rw [List.length_take]; omega
  unfold Pure.readn
  rw [if_neg (by rw [hlen]; omega)]
  unfold Pure.rd9
  rw [if_pos (by rw [hlen]; simp)]
theorem rds_at {l : List Int} (hb : M.bytes l = true) : ∀ (n : Nat) (a : Int), 0 ≤ a → a ≤ l.length → a ≤ (rds l n a).2.1 ∧ (rds l n a).2.1 ≤ l.length := by
  intro n
  induction n with
  | zero => intro a h0 h1; exact ⟨by simp [rds], h1⟩
  | succ n ih =>
    intro a h0 h1
    unfold rds
    by_cases c : (Pure.readn l a).2.2 = 0
    · have hx := Pure.readn_next hb c
      have := ih (Pure.readn l a).2.1 (by omega) hx.2.2.1
      rw [if_pos c]
      simp only
      omega
    · rw [if_neg c]
      exact ⟨by simp, h1⟩
theorem rds_take {l : List Int} (hb : M.bytes l = true) : ∀ (n : Nat) (a : Int) (m : Nat), 0 ≤ a → a ≤ l.length → (rds l n a).2.1 ≤ m → m ≤ l.length → (rds l n a).2.2 = 0 → rds (l.take m) n a = rds l n a := by
  intro n
  induction n with
  | zero => intro a m h0 h1 h2 h3 h; rfl
  | succ n ih =>
    intro a m h0 h1 h2 h3 h
    unfold rds at h h2 ⊢
    by_cases c : (Pure.readn l a).2.2 = 0
    · have hx := Pure.readn_next hb c
      rw [if_pos c] at h h2
      simp only at h h2
      have h4 := rds_at hb n (Pure.readn l a).2.1 (by omega) hx.2.2.1
      rw [if_pos c, readn_take hb c (by omega) h3, if_pos c, ih _ m (by omega) hx.2.2.1 h2 h3 h]
    · rw [if_neg c] at h
      exact absurd h c
theorem rds_fault {l : List Int} (hb : M.bytes l = true) : ∀ (n : Nat) (a : Int), 0 ≤ a → a ≤ l.length → (rds l n a).2.2 ≠ 0 → (rds (l.take (rds l n a).2.1.toNat) n a).2 = ((rds l n a).2.1, 10) := by
  intro n
  induction n with
  | zero => intro a h0 h1 h; exact absurd rfl h
  | succ n ih =>
    intro a h0 h1 h
    by_cases c : (Pure.readn l a).2.2 = 0
    · have hx := Pure.readn_next hb c
      have e : rds l (n + 1) a = ((Pure.readn l a).1 :: (rds l n (Pure.readn l a).2.1).1, (rds l n (Pure.readn l a).2.1).2.1, (rds l n (Pure.readn l a).2.1).2.2) := by rw [rds, if_pos c]
      rw [e] at h ⊢
      simp only at h ⊢
      have h4 := rds_at hb n (Pure.readn l a).2.1 (by omega) hx.2.2.1
      have h5 := ih _ (by omega) hx.2.2.1 h
      generalize hm : (rds l n (Pure.readn l a).2.1).2.1 = m at h4 h5 ⊢
      rw [rds, readn_take hb c (by omega) (by omega), if_pos c]
      exact h5
    · have e : rds l (n + 1) a = ([], a, (Pure.readn l a).2.2) := by rw [rds, if_neg c]
      rw [e]
      simp only
      have := readn_end (l := l) (m := a.toNat) (by omega)
      rw [show ((a.toNat : Nat) : Int) = a by omega] at this
      rw [rds, this]
      rfl
def hdr (p : Py) : List Int := body p ++ M.wr6 (M.add (1, 2) (body p))
theorem due_right (p : Py) : M.right (M.add (1, 2) (body p)).1 (M.add (1, 2) (body p)).2 = true := M.add_right _ _ (by decide)
theorem hdr_length (p : Py) : (hdr p).length = (body p).length + 6 := by unfold hdr; rw [List.length_append, M.wr6_length]
theorem flat_len : ∀ xs : List Int, xs.length ≤ (xs.flatMap (Pure.wr 8)).length := by
  intro xs
  induction xs with
  | nil => simp
  | cons x xs ih =>
    rw [List.flatMap_cons, List.length_append, List.length_cons]
    have := (Pure.wr_len 8 x).1
    omega
theorem eight_len (p : Py) : (eight p).length = 8 := by unfold eight; split <;> rfl
theorem body_long (p : Py) : 12 ≤ (body p).length := by
  unfold body
  have := flat_len (eight p)
  rw [eight_len] at this
  rw [List.length_append, show reel.length = 4 from rfl]
  omega
theorem ok_kind {p : Py} (h : ok p = true) : p.kind = 1 ∨ p.kind = 2 := by
  refine Decidable.byContradiction fun hn => ?_
  rw [ok_no (fun e => hn (.inl e)) (fun e => hn (.inr e))] at h
  cases h
theorem make_eight {p : Py} (h : ok p = true) : eight p = p.kind :: (eight p).drop 1 ∧ make p.kind ((eight p).drop 1) = p := by
  rcases ok_kind h with k | k
  · have hw : p.width = 0 ∧ p.count = 0 := by
      refine Decidable.byContradiction fun hn => ?_
      have : p.width ≠ 0 ∨ p.count ≠ 0 := by omega
      rw [ok_no1 k this] at h
      cases h
    unfold eight make
    rw [if_neg (by omega), if_pos k]
    refine ⟨rfl, ?_⟩
    obtain ⟨a0, a1, a2, a3, a4, a5, a6, a7, a8, a9⟩ := p
    simp only at hw
    obtain ⟨rfl, rfl⟩ := hw
    rfl
  · have hw : p.num = 0 ∧ p.den = 0 := by
      refine Decidable.byContradiction fun hn => ?_
      have : p.num ≠ 0 ∨ p.den ≠ 0 := by omega
      rw [ok_no2 k this] at h
      cases h
    unfold eight make
    rw [if_pos k, if_neg (by omega)]
    refine ⟨rfl, ?_⟩
    obtain ⟨a0, a1, a2, a3, a4, a5, a6, a7, a8, a9⟩ := p
    simp only at hw
    obtain ⟨rfl, rfl⟩ := hw
    rfl
theorem eight_make {k : Int} {xs : List Int} (hk : k = 1 ∨ k = 2) (hx : xs.length = 7) : eight (make k xs) = k :: xs := by
  obtain ⟨a, b, c, d, e, f, g, rfl⟩ := seven hx
  rcases hk with rfl | rfl <;> rfl
theorem read_body {p : Py} (h : ok p = true) (rest : List Int) : read (body p ++ rest) = tail (body p ++ rest) p ((body p).length : Int) := by
  obtain ⟨h1, h2⟩ := make_eight h
  have hin := H.eight_in h
  have hb : body p ++ rest = reel ++ (Pure.wr 8 p.kind ++ (((eight p).drop 1).flatMap (Pure.wr 8) ++ rest)) := by
    unfold body
    rw [h1, List.flatMap_cons]
    simp only [List.append_assoc, List.drop_one, List.tail_cons]
  have hk : 0 ≤ p.kind ∧ p.kind ≤ 1048576 := hin _ (by rw [h1]; simp)
  have e4 : (body p ++ rest).take 4 = reel := by rw [hb]; rfl
  have d4 : (body p ++ rest).drop 4 = Pure.wr 8 p.kind ++ (((eight p).drop 1).flatMap (Pure.wr 8) ++ rest) := by rw [hb]; rfl
  have r1 := Pure.readn_wr _ 4 p.kind _ hk.1 (by omega) d4
  have r2 := rds_wr ((eight p).drop 1) _ (4 + (Pure.wr 8 p.kind).length) rest (fun x hx => hin x (List.mem_of_mem_drop hx)) (drop_behind d4)
  have hl7 : ((eight p).drop 1).length = 7 := by rw [List.length_drop, eight_len]
  rw [hl7, show ((4 + (Pure.wr 8 p.kind).length : Nat) : Int) = ((4 : Nat) : Int) + (Pure.wr 8 p.kind).length by omega] at r2
  unfold read
  rw [if_pos e4]
  rw [show ((4 : Nat) : Int) = 4 from rfl] at r1 r2
  rw [r1]
  simp only
  rw [if_pos trivial, if_pos (ok_kind h), r2]
  simp only
  rw [if_pos trivial, h2]
  congr 1
  have : (body p).length = 4 + ((Pure.wr 8 p.kind).length + (((eight p).drop 1).flatMap (Pure.wr 8)).length) := by
    unfold body
    rw [h1, List.flatMap_cons, List.length_append, List.length_append, show reel.length = 4 from rfl]
    rfl
  omega
theorem take_body (p : Py) (rest : List Int) : (body p ++ rest).take ((body p).length : Int).toNat = body p := by rw [Int.toNat_natCast, List.take_left]
theorem read_hdr {p : Py} (h : ok p = true) (rest : List Int) : read (hdr p ++ rest) = (p, ((hdr p).length : Int), 0, 0) := by
  have e : hdr p ++ rest = body p ++ (M.wr6 (M.add (1, 2) (body p)) ++ rest) := by unfold hdr; rw [List.append_assoc]
  rw [e, read_body h]
  have r := M.rd6_at (due_right p) (a := (body p).length) (l := body p ++ (M.wr6 (M.add (1, 2) (body p)) ++ rest)) (post := rest) (by rw [List.drop_left])
  unfold tail
  rw [if_pos h, r]
  simp only
  rw [if_pos trivial, take_body, if_pos rfl, hdr_length]
  rfl
theorem hdr_read {l : List Int} (hb : M.bytes l = true) (h : (read l).2.2.1 = 0) : ok (read l).1 = true ∧ (read l).2.1 = ((hdr (read l).1).length : Int) ∧ ∃ post, l = hdr (read l).1 ++ post := by
  generalize hr : read l = r at h ⊢
  unfold read at hr
  by_cases c1 : l.take 4 = reel
  case neg => (rw [if_neg c1] at hr; subst hr; cases h)
  rw [if_pos c1] at hr
  by_cases c2 : (Pure.readn l 4).2.2 = 0
  case neg => (rw [if_neg c2] at hr; subst hr; exact absurd h c2)
  rw [if_pos c2] at hr
  by_cases c3 : (Pure.readn l 4).1 = 1 ∨ (Pure.readn l 4).1 = 2
  case neg => (rw [if_neg c3] at hr; subst hr; cases h)
  rw [if_pos c3] at hr
  by_cases c4 : (rds l 7 (Pure.readn l 4).2.1).2.2 = 0
  case neg => (rw [if_neg c4] at hr; subst hr; exact absurd h c4)
  rw [if_pos c4] at hr
  obtain ⟨p0, p1, p2, p3, p4, q1, p5⟩ := Pure.wr_readn hb (a := 4) (n := (Pure.readn l 4).1) (nx := (Pure.readn l 4).2.1) (by rw [← c2])
  obtain ⟨s0, s1, s2, q2, s3⟩ := wr_rds hb 7 (Pure.readn l 4).2.1 (by omega) p4 c4
  have hlen := rds_len l 7 _ c4
  have he := eight_make (xs := (rds l 7 (Pure.readn l 4).2.1).1) c3 hlen
  generalize (Pure.readn l 4) = z at *
  generalize (rds l 7 z.2.1) = y at *
  have hbody : l = body (make z.1 y.1) ++ q2 := by
    have e1 := List.take_append_drop 4 l
    have e2 := drop_behind p5
    rw [show (4 : Int).toNat + (Pure.wr 8 z.1).length = z.2.1.toNat by omega, s3] at e2
    have p5' : l.drop 4 = Pure.wr 8 z.1 ++ q1 := p5
    unfold body
    rw [he, List.flatMap_cons]
    rw [← e1, c1, p5', ← e2]
    simp only [List.append_assoc]
  have hy : y.2.1 = ((body (make z.1 y.1)).length : Int) := by
    have : (body (make z.1 y.1)).length = 4 + ((Pure.wr 8 z.1).length + (y.1.flatMap (Pure.wr 8)).length) := by
      unfold body
      rw [he, List.flatMap_cons, List.length_append, List.length_append, show reel.length = 4 from rfl]
    omega
  rw [hy] at hr
  generalize make z.1 y.1 = p at *
  unfold tail at hr
  by_cases c5 : ok p = true
  case neg => (rw [if_neg c5] at hr; subst hr; cases h)
  rw [if_pos c5] at hr
  by_cases c6 : (M.rd6 l ((body p).length : Int)).2.2.2 = 0
  case neg => (rw [if_neg c6] at hr; subst hr; exact absurd h c6)
  rw [if_pos c6] at hr
  by_cases c7 : ((M.rd6 l ((body p).length : Int)).1, (M.rd6 l ((body p).length : Int)).2.1) = M.add (1, 2) (l.take ((body p).length : Int).toNat)
  case neg => (rw [if_neg c7] at hr; subst hr; cases h)
  rw [if_pos c7] at hr
  obtain ⟨t0, t1, t2, t3, q3, t4⟩ := M.at_rd6 hb (a := ((body p).length : Int)) (p := (M.rd6 l ((body p).length : Int)).1) (q := (M.rd6 l ((body p).length : Int)).2.1) (nx := (M.rd6 l ((body p).length : Int)).2.2.1) (by rw [← c6])
  rw [c7] at t4
  subst hr
  have ht : l.take ((body p).length : Int).toNat = body p := by rw [hbody]; exact take_body p q2
  rw [ht] at t4
  refine ⟨c5, ?_, q3, ?_⟩
  · show (M.rd6 l ((body p).length : Int)).2.2.1 = _
    rw [t1, hdr_length]
    rfl
  · show l = hdr p ++ q3
    rw [Int.toNat_natCast] at t4 ht
    have e1 := List.take_append_drop (body p).length l
    rw [ht, t4] at e1
    rw [← e1]
    unfold hdr
    rw [List.append_assoc]
theorem read_fault {l : List Int} (hb : M.bytes l = true) (h : (read l).2.2.1 ≠ 0) : (read l).1 = zero ∧ (read l).2.1 = 0 ∧ 0 ≤ (read l).2.2.2 ∧ (read l).2.2.2 ≤ l.length ∧ (read (l.take (read l).2.2.2.toNat)).2.2.1 ≠ 0 ∧ (read (l.take (read l).2.2.2.toNat)).2.2.2 ≤ (read l).2.2.2 := by
  have hnil : read [] = (zero, 0, 41, 0) := rfl
  have hfour : l.take 4 = reel → 4 ≤ l.length := fun h => by
    have := congrArg List.length h
    rw [List.length_take, show reel.length = 4 from rfl] at this
    omega
  have h4 : l.take 4 = reel → read (l.take 4) = (zero, 0, 10, 4) := fun h => by
    have hl := hfour h
    unfold read
    rw [List.take_take, Nat.min_self, if_pos h]
    have := readn_end (l := l) (m := 4) hl
    rw [show ((4 : Nat) : Int) = 4 from rfl] at this
    rw [this]
    rfl
  generalize hr : read l = r at h ⊢
  unfold read at hr
  by_cases c1 : l.take 4 = reel
  case neg => (rw [if_neg c1] at hr; subst hr; exact ⟨rfl, rfl, Int.le_refl _, Int.natCast_nonneg _, by rw [show l.take (0 : Int).toNat = [] from rfl, hnil]; decide, by rw [show l.take (0 : Int).toNat = [] from rfl, hnil]; decide⟩)
  have hl4 := hfour c1
  have four : ∀ e : Int, e ≠ 0 → r = (zero, 0, e, 4) → r.1 = zero ∧ r.2.1 = 0 ∧ 0 ≤ r.2.2.2 ∧ r.2.2.2 ≤ l.length ∧ (read (l.take r.2.2.2.toNat)).2.2.1 ≠ 0 ∧ (read (l.take r.2.2.2.toNat)).2.2.2 ≤ r.2.2.2 := by
    rintro e he rfl
    refine ⟨rfl, rfl, by show (0 : Int) ≤ 4; decide, by show (4 : Int) ≤ _; omega, ?_, ?_⟩
    · rw [show l.take (4 : Int).toNat = l.take 4 from rfl, h4 c1]; decide
    · rw [show l.take (4 : Int).toNat = l.take 4 from rfl, h4 c1]; exact Int.le_refl _
  rw [if_pos c1] at hr
  by_cases c2 : (Pure.readn l 4).2.2 = 0
  case neg => (rw [if_neg c2] at hr; exact four _ c2 hr.symm)
  rw [if_pos c2] at hr
  by_cases c3 : (Pure.readn l 4).1 = 1 ∨ (Pure.readn l 4).1 = 2
  case neg => (rw [if_neg c3] at hr; exact four _ (by decide) hr.symm)
  rw [if_pos c3] at hr
  have hx := Pure.readn_next hb c2
  have hat := rds_at hb 7 (Pure.readn l 4).2.1 (by omega) hx.2.2.1
  -- bytes cut at m, behind the first number
  have first : ∀ m : Nat, (Pure.readn l 4).2.1 ≤ m → m ≤ l.length → read (l.take m) = if (rds (l.take m) 7 (Pure.readn l 4).2.1).2.2 = 0 then tail (l.take m) (make (Pure.readn l 4).1 (rds (l.take m) 7 (Pure.readn l 4).2.1).1) (rds (l.take m) 7 (Pure.readn l 4).2.1).2.1 else (zero, 0, (rds (l.take m) 7 (Pure.readn l 4).2.1).2.2, (rds (l.take m) 7 (Pure.readn l 4).2.1).2.1) := fun m h1 h2 => by
    have e := readn_take hb c2 h1 h2
    unfold read
    rw [List.take_take, show min 4 m = 4 by omega, if_pos c1, e, if_pos c2, if_pos c3]
  by_cases c4 : (rds l 7 (Pure.readn l 4).2.1).2.2 = 0
  case neg =>
    rw [if_neg c4] at hr
    have hf := rds_fault hb 7 (Pure.readn l 4).2.1 (by omega) hx.2.2.1 c4
    have hm := first (rds l 7 (Pure.readn l 4).2.1).2.1.toNat (by omega) (by omega)
    have e10 : (rds (l.take (rds l 7 (Pure.readn l 4).2.1).2.1.toNat) 7 (Pure.readn l 4).2.1).2.2 = 10 := by rw [hf]
    have eat : (rds (l.take (rds l 7 (Pure.readn l 4).2.1).2.1.toNat) 7 (Pure.readn l 4).2.1).2.1 = (rds l 7 (Pure.readn l 4).2.1).2.1 := by rw [hf]
    rw [if_neg (by rw [e10]; decide), e10, eat] at hm
    subst hr
    refine ⟨rfl, rfl, by show 0 ≤ (rds l 7 (Pure.readn l 4).2.1).2.1; omega, hat.2, ?_, ?_⟩
    · rw [hm]; show (10 : Int) ≠ 0; decide
    · rw [hm]; exact Int.le_refl _
  rw [if_pos c4] at hr
  -- the numbers are all right: a fault behind them
  have behind : ∀ e : Int, e ≠ 0 → ok (make (Pure.readn l 4).1 (rds l 7 (Pure.readn l 4).2.1).1) = true → r = (zero, 0, e, (rds l 7 (Pure.readn l 4).2.1).2.1) → r.1 = zero ∧ r.2.1 = 0 ∧ 0 ≤ r.2.2.2 ∧ r.2.2.2 ≤ l.length ∧ (read (l.take r.2.2.2.toNat)).2.2.1 ≠ 0 ∧ (read (l.take r.2.2.2.toNat)).2.2.2 ≤ r.2.2.2 := by
    rintro e he hok rfl
    have hm := first (rds l 7 (Pure.readn l 4).2.1).2.1.toNat (by omega) (by omega)
    rw [rds_take hb 7 _ _ (by omega) hx.2.2.1 (by omega) (by omega) c4, if_pos c4] at hm
    have hlen : (l.take (rds l 7 (Pure.readn l 4).2.1).2.1.toNat).length = (rds l 7 (Pure.readn l 4).2.1).2.1.toNat := by rw [List.length_take]; omega
    unfold tail at hm
    have h6 : M.rd6 (l.take (rds l 7 (Pure.readn l 4).2.1).2.1.toNat) (rds l 7 (Pure.readn l 4).2.1).2.1 = (0, 0, 0, 10) := by
      unfold M.rd6
      rw [if_neg (by rw [hlen]; omega), if_pos (by rw [hlen]; omega)]
    rw [if_pos hok, h6, if_neg (by decide)] at hm
    refine ⟨rfl, rfl, by show 0 ≤ (rds l 7 (Pure.readn l 4).2.1).2.1; omega, hat.2, ?_, ?_⟩
    · rw [hm]; show (10 : Int) ≠ 0; decide
    · rw [hm]; exact Int.le_refl _
  unfold tail at hr
  by_cases c5 : ok (make (Pure.readn l 4).1 (rds l 7 (Pure.readn l 4).2.1).1) = true
  case neg => (rw [if_neg c5] at hr; exact four _ (by decide) hr.symm)
  rw [if_pos c5] at hr
  by_cases c6 : (M.rd6 l (rds l 7 (Pure.readn l 4).2.1).2.1).2.2.2 = 0
  case neg => (rw [if_neg c6] at hr; exact behind _ c6 c5 hr.symm)
  rw [if_pos c6] at hr
  by_cases c7 : ((M.rd6 l (rds l 7 (Pure.readn l 4).2.1).2.1).1, (M.rd6 l (rds l 7 (Pure.readn l 4).2.1).2.1).2.1) = M.add (1, 2) (l.take (rds l 7 (Pure.readn l 4).2.1).2.1.toNat)
  case neg => (rw [if_neg c7] at hr; exact behind _ (by decide) c5 hr.symm)
  rw [if_pos c7] at hr
  subst hr
  exact absurd rfl h
end Go.Proofs.Ytbiijcehgiibeaa.Pol
namespace Go.Proofs.Ytbiijcehgiibeaa.Pure
open Go.Proofs.Ytbiijcehgiibeaa.Q
theorem awake04 : reevelaw04_awake.f = some true := rfl
end Go.Proofs.Ytbiijcehgiibeaa.Pure
namespace Go.Proofs.Ytbiijcehgiibeaa.Pure
open Go.RowKit Go.Proofs.Ytbiijcehgiibeaa.Q Go.Proofs.YtbiijcehgiibeaaW.PrintWords
set_option linter.unusedVariables false
set_option linter.unusedSimpArgs false
theorem readO_of {l : List Int} (hb : M.bytes l = true) (hn : (l.length : Int) ≤ 4611686018427387904) : Pol.readO l = some ((Pol.read l).1.kind, (Pol.read l).1.cap, (Pol.read l).1.num, (Pol.read l).1.den, (Pol.read l).1.width, (Pol.read l).1.count, (Pol.read l).1.keys, (Pol.read l).1.slots, (Pol.read l).1.every, (Pol.read l).1.seg, (Pol.read l).2.1, (Pol.read l).2.2.1, (Pol.read l).2.2.2) := by
  unfold Pol.readO
  rw [if_pos hb, if_pos hn]
theorem PolicyCuts (l m : List Int) (y0 : l.length * 1 ≤ 140737488351232) (hw0 : ∀ x ∈ l, (Lit.int .u8 x).wf = true) (y1 : m.length * 1 ≤ 140737488351232) (hw1 : ∀ x ∈ m, (Lit.int .u8 x).wf = true) :
    reevelaw04_PolicyCuts.f l m = some true := by
  have hb := bytes_of hw0
  have hb1 := bytes_of hw1
  have tk : ∀ n : Nat, M.bytes (l.take n) = true := fun n => by
    unfold M.bytes at hb ⊢
    rw [List.all_eq_true] at hb ⊢
    exact fun z hz => hb z (List.mem_of_mem_take hz)
  unfold reevelaw04_PolicyCuts.f
  rw [awake04]
  unfold policy_Read.f
  rw [readO_of hb (by omega)]
  simp only [Option.bind_some]
  rw [if_pos trivial]
  by_cases c : (Pol.read l).2.2.1 = 0
  · obtain ⟨h1, h2, post, h3⟩ := Pol.hdr_read hb c
    have hl := congrArg List.length h3
    rw [List.length_append] at hl
    have hbl := Pol.body_long (Pol.read l).1
    have hbs := H.body_len (Pol.read l).1
    have hhl := Pol.hdr_length (Pol.read l).1
    have hmn : mn (mx (Pol.read l).2.1 0) (l.length : Int) = ((Pol.hdr (Pol.read l).1).length : Int) := by unfold mn mx; split <;> split <;> omega
    rw [if_pos c, hmn, if_pos (by omega), if_pos (by omega), Int.toNat_natCast]
    have ht : l.take (Pol.hdr (Pol.read l).1).length = Pol.hdr (Pol.read l).1 := by
      generalize Pol.hdr (Pol.read l).1 = h at h3
      rw [h3, List.take_left]
    rw [if_pos (by rw [ht]; simp; omega)]
    simp only [List.nil_append]
    rw [if_pos (by rw [ht]; omega), ht]
    have hr := Pol.read_hdr h1 m
    have hbm : M.bytes (Pol.hdr (Pol.read l).1 ++ m) = true := by
      have := tk (Pol.hdr (Pol.read l).1).length
      rw [ht] at this
      unfold M.bytes at this hb1 ⊢
      rw [List.all_append, this, hb1]
      rfl
    rw [readO_of hbm (by rw [List.length_append]; omega), hr]
    simp only [Option.bind_some]
    rw [h2, if_pos (by omega), if_pos (by omega), if_pos (by rfl), if_pos (by simp)]
    simp
  · obtain ⟨f1, f2, f3, f4, f5, f6⟩ := Pol.read_fault hb c
    rw [if_neg c, readO_of (tk _) (by rw [List.length_take]; omega)]
    simp only [Option.bind_some]
    rw [f1, if_neg (by decide), if_pos f2, if_neg (by omega), if_neg (by omega), if_pos f3, if_pos f4, if_neg f5, decide_eq_true f6]
end Go.Proofs.Ytbiijcehgiibeaa.Pure

/- The two least rates, plainly. No condition. -/
import Derived.Test.YtbjhphjpdeblnaaSf
import Derived.Test.YtbjhphjpdeblnaaSe
namespace Go.Proofs.Ytbjhphjpdeblnaa.Sh
open Go Go.Sy
set_option maxRecDepth 100000
set_option linter.unusedSimpArgs false
set_option linter.unusedVariables false

/-- A rate is no greater than another one. -/
def le (p q : Pt) : Prop := p.1 * q.2 ≤ q.1 * p.2
def mulP (p q : Pt) : Pt := (p.1 * q.1, p.2 * q.2)
def posP (p : Pt) : Prop := 0 < p.1 ∧ 0 < p.2
theorem posP_mul {p q : Pt} (h1 : posP p) (h2 : posP q) : posP (mulP p q) := ⟨Int.mul_pos h1.1 h2.1, Int.mul_pos h1.2 h2.2⟩
theorem le_trans {p q r : Pt} (hp : posP p) (hq : posP q) (hr : posP r) (h1 : le p q) (h2 : le q r) : le p r := by
  unfold le at *
  have e1 : p.1 * q.2 * r.2 ≤ q.1 * p.2 * r.2 := Int.mul_le_mul_of_nonneg_right h1 (Int.le_of_lt hr.2)
  have e2 : q.1 * r.2 * p.2 ≤ r.1 * q.2 * p.2 := Int.mul_le_mul_of_nonneg_right h2 (Int.le_of_lt hp.2)
  have e3 : q.1 * p.2 * r.2 = q.1 * r.2 * p.2 := Int.mul_right_comm ..
  have e4 : p.1 * q.2 * r.2 = p.1 * r.2 * q.2 := Int.mul_right_comm ..
  have e5 : r.1 * q.2 * p.2 = r.1 * p.2 * q.2 := Int.mul_right_comm ..
  exact Int.le_of_mul_le_mul_right (by omega) hq.2
theorem le_mul {p p' q q' : Pt} (hp : posP p) (hp' : posP p') (hq : posP q) (hq' : posP q') (h1 : le p p') (h2 : le q q') : le (mulP p q) (mulP p' q') := by
  unfold le mulP at *
  dsimp only
  have h := Int.mul_le_mul h1 h2 (Int.mul_nonneg (Int.le_of_lt hq.1) (Int.le_of_lt hq'.2)) (Int.mul_nonneg (Int.le_of_lt hp'.1) (Int.le_of_lt hp.2))
  have e1 : p.1 * p'.2 * (q.1 * q'.2) = p.1 * q.1 * (p'.2 * q'.2) := by grind
  have e2 : p'.1 * p.2 * (q'.1 * q.2) = p'.1 * q'.1 * (p.2 * q.2) := by grind
  omega
theorem le_refl (p : Pt) : le p p := Int.le_refl _
theorem mulP_comm (p q : Pt) : mulP p q = mulP q p := by rw [mulP, mulP, Int.mul_comm, Int.mul_comm p.2]
theorem le_of_not {p q : Pt} (h : ¬ p.1 * q.2 < q.1 * p.2) : le q p := by rw [le]; omega
/-- The two least ones, and how many there are. -/
structure Le where
  a : Pt
  b : Pt
  n : Nat
def leStep (s : Le) (p : Pt) : Le :=
  if s.n = 0 ∨ p.1 * s.a.2 < s.a.1 * p.2 then ⟨p, s.a, s.n + 1⟩
  else if s.n = 1 ∨ p.1 * s.b.2 < s.b.1 * p.2 then ⟨s.a, p, s.n + 1⟩ else ⟨s.a, s.b, s.n + 1⟩
def leIter (p : Pt) : Nat → Le → Le
  | 0, s => s
  | n + 1, s => leStep (leIter p n s) p
def leOf (l : List Pt) : Le := l.foldl (fun s p => leIter p p.2.toNat s) ⟨(0, 0), (0, 0), 0⟩
/-- All single ones. -/
def allP (l : List Pt) : List Pt := l.flatMap fun p => List.replicate p.2.toNat p
/-- What holds of the two least ones. -/
structure LeOK (X : List Pt) (s : Le) : Prop where
  n : s.n = X.length
  one : 0 < s.n → s.a ∈ X ∧ ∀ x ∈ X, le s.a x
  two : 1 < s.n → le s.a s.b ∧ (∃ x y, [x, y].Sublist X ∧ mulP s.a s.b = mulP x y) ∧ s.b ∈ X ∧ X.Pairwise fun x y => le (mulP s.a s.b) (mulP x y)
theorem leOK_step {X : List Pt} {s : Le} {p : Pt} (hX : ∀ x ∈ X, posP x) (hp : posP p) (h : LeOK X s) : LeOK (X ++ [p]) (leStep s p) := by
  have hlen : (X ++ [p]).length = s.n + 1 := by rw [List.length_append, h.n]; rfl
  rw [leStep]
  by_cases h0 : s.n = 0
  · rw [if_pos (.inl h0)]
    obtain rfl : X = [] := List.eq_nil_of_length_eq_zero (by rw [← h.n, h0])
    refine ⟨hlen.symm, fun _ => ⟨List.mem_append_right _ List.mem_cons_self, fun x hx => ?_⟩, fun h1 => by dsimp only at h1; omega⟩
    rw [List.nil_append, List.mem_singleton] at hx
    subst hx; exact le_refl _
  obtain ⟨o1, o2⟩ := h.one (by omega)
  have hpa := hX _ o1
  have hsub : ∀ x, x ∈ X → [x, p].Sublist (X ++ [p]) := fun x hx => (List.singleton_sublist.2 hx).append (List.Sublist.refl [p])
  have hold : ∀ x y, [x, y].Sublist X → [x, y].Sublist (X ++ [p]) := fun x y hx => hx.trans (List.sublist_append_left _ _)
  have hpair : ∀ Q : Pt, posP Q → (∀ x ∈ X, le Q (mulP x p)) → (1 < s.n → le Q (mulP s.a s.b)) → (X ++ [p]).Pairwise fun x y => le Q (mulP x y) := fun Q hQ h1 h2 => by
    rw [List.pairwise_append]
    refine ⟨?_, List.pairwise_singleton _ _, fun x hx y hy => by rw [List.mem_singleton] at hy; subst hy; exact h1 x hx⟩
    by_cases h3 : 1 < s.n
    · obtain ⟨-, -, t3, t4⟩ := h.two h3
      refine (List.pairwise_iff_forall_sublist).2 fun {x y} hxy => ?_
      have := (List.pairwise_iff_forall_sublist).1 t4 hxy
      have hx := hX x (hxy.subset List.mem_cons_self)
      have hy := hX y (hxy.subset (List.mem_cons_of_mem _ List.mem_cons_self))
      exact le_trans hQ (posP_mul hpa (hX _ t3)) (posP_mul hx hy) (h2 h3) this
    · have hl : X.length ≤ 1 := by rw [← h.n]; omega
      match X, hl with
      | [], _ => exact List.Pairwise.nil
      | [x], _ => exact List.pairwise_singleton _ _
  by_cases h1 : p.1 * s.a.2 < s.a.1 * p.2
  · rw [if_pos (.inr h1)]
    have hle : le p s.a := by rw [le]; omega
    refine ⟨hlen.symm, fun _ => ⟨List.mem_append_right _ List.mem_cons_self, fun x hx => ?_⟩, fun _ => ⟨hle, ⟨s.a, p, hsub _ o1, mulP_comm _ _⟩, List.mem_append_left _ o1, ?_⟩⟩
    · rw [List.mem_append, List.mem_singleton] at hx
      rcases hx with hx | rfl
      · exact le_trans hp hpa (hX x hx) hle (o2 x hx)
      · exact le_refl _
    · refine hpair _ (posP_mul hp hpa) (fun x hx => ?_) fun h3 => ?_
      · rw [mulP_comm p]; exact le_mul hpa (hX x hx) hp hp (o2 x hx) (le_refl _)
      · obtain ⟨t1, -, t3, -⟩ := h.two h3
        rw [mulP_comm p]
        exact le_mul hpa hpa hp (hX _ t3) (le_refl _) (le_trans hp hpa (hX _ t3) hle t1)
  rw [if_neg (by rintro (h | h) <;> contradiction)]
  have hap : le s.a p := le_of_not h1
  have hone : ∀ x ∈ X ++ [p], le s.a x := fun x hx => by
    rw [List.mem_append, List.mem_singleton] at hx
    rcases hx with hx | rfl
    · exact o2 x hx
    · exact hap
  by_cases h2 : s.n = 1 ∨ p.1 * s.b.2 < s.b.1 * p.2
  · rw [if_pos h2]
    refine ⟨hlen.symm, fun _ => ⟨List.mem_append_left _ o1, hone⟩, fun _ => ⟨hap, ⟨s.a, p, hsub _ o1, rfl⟩, List.mem_append_right _ List.mem_cons_self, ?_⟩⟩
    refine hpair _ (posP_mul hpa hp) (fun x hx => le_mul hpa (hX x hx) hp hp (o2 x hx) (le_refl _)) fun h3 => ?_
    have h2 := h2.resolve_left (by omega)
    obtain ⟨-, -, t3, -⟩ := h.two h3
    exact le_mul hpa hpa hp (hX _ t3) (le_refl _) (by rw [le]; dsimp only; omega)
  · rw [if_neg h2]
    have h3 : 1 < s.n := by
      have : s.n ≠ 1 := fun e => h2 (.inl e)
      omega
    obtain ⟨t1, ⟨x, y, t2, t5⟩, t3, t4⟩ := h.two h3
    have hbp : le s.b p := le_of_not fun e => h2 (.inr e)
    refine ⟨hlen.symm, fun _ => ⟨List.mem_append_left _ o1, hone⟩, fun _ => ⟨t1, ⟨x, y, hold x y t2, t5⟩, List.mem_append_left _ t3, ?_⟩⟩
    exact hpair _ (posP_mul hpa (hX _ t3)) (fun x hx => le_mul hpa (hX x hx) (hX _ t3) hp (o2 x hx) hbp) fun _ => le_refl _
theorem leOK_iter {X : List Pt} {s : Le} {p : Pt} (hX : ∀ x ∈ X, posP x) (hp : posP p) (h : LeOK X s) : ∀ n, LeOK (X ++ List.replicate n p) (leIter p n s)
  | 0 => by rw [List.replicate_zero, List.append_nil]; exact h
  | n + 1 => by
    rw [List.replicate_succ', ← List.append_assoc, leIter]
    refine leOK_step (fun x hx => ?_) hp (leOK_iter hX hp h n)
    rw [List.mem_append] at hx
    rcases hx with hx | hx
    · exact hX x hx
    · rw [(List.mem_replicate.1 hx).2]; exact hp
theorem leOK_fold : ∀ (l X : List Pt) (s : Le), (∀ x ∈ X, posP x) → (∀ p ∈ l, posP p) → LeOK X s → LeOK (X ++ allP l) (l.foldl (fun s p => leIter p p.2.toNat s) s)
  | [], X, s, hX, _, h => by rw [allP, List.flatMap_nil, List.append_nil]; exact h
  | p :: l, X, s, hX, hl, h => by
    have hp := hl p List.mem_cons_self
    rw [List.foldl_cons, allP, List.flatMap_cons, ← List.append_assoc]
    refine leOK_fold l _ _ (fun x hx => ?_) (fun q hq => hl q (List.mem_cons_of_mem _ hq)) (leOK_iter hX hp h _)
    rw [List.mem_append] at hx
    rcases hx with hx | hx
    · exact hX x hx
    · rw [(List.mem_replicate.1 hx).2]; exact hp
theorem leOK_of {l : List Pt} (hl : ∀ p ∈ l, posP p) : LeOK (allP l) (leOf l) := by
  have := leOK_fold l [] ⟨(0, 0), (0, 0), 0⟩ (fun x hx => by cases hx) hl ⟨rfl, fun h => absurd h (by decide), fun h => absurd h (by decide)⟩
  rw [List.nil_append] at this
  exact this
/-- Two single ones, by the places of their parties. -/
def twoP (l : List Pt) (i k : Nat) : Prop := i ≤ k ∧ k < l.length ∧ (k = i → 2 ≤ (l.getD i default).2)
theorem mem_allP {l : List Pt} {x : Pt} (h : x ∈ allP l) : ∃ k, k < l.length ∧ l.getD k default = x := by
  rw [allP, List.mem_flatMap] at h
  obtain ⟨p, hp, hx⟩ := h
  obtain ⟨k, hk, rfl⟩ := List.getElem_of_mem hp
  exact ⟨k, hk, by rw [List.getD, List.getElem?_eq_getElem hk, (List.mem_replicate.1 hx).2]; rfl⟩
theorem allP_mem {l : List Pt} (hl : ∀ p ∈ l, posP p) {k : Nat} (hk : k < l.length) : l.getD k default ∈ allP l := by
  rw [allP, List.mem_flatMap]
  exact ⟨_, getD_mem hk, List.mem_replicate.2 ⟨by have := (hl _ (getD_mem hk)).2; omega, rfl⟩⟩
theorem two_sub {x y p : Pt} {n : Nat} (h : [x, y].Sublist (List.replicate n p)) : x = p ∧ y = p ∧ 2 ≤ n := by
  refine ⟨(List.mem_replicate.1 (h.subset List.mem_cons_self)).2, (List.mem_replicate.1 (h.subset (List.mem_cons_of_mem _ List.mem_cons_self))).2, ?_⟩
  have := h.length_le
  rw [List.length_replicate] at this
  exact this
theorem sub_two : ∀ {l : List Pt} {x y : Pt}, [x, y].Sublist (allP l) → ∃ i k, twoP l i k ∧ l.getD i default = x ∧ l.getD k default = y
  | [], x, y, h => by rw [allP, List.flatMap_nil] at h; cases h
  | p :: l, x, y, h => by
    rw [allP, List.flatMap_cons, List.sublist_append_iff] at h
    obtain ⟨l1, l2, e, h1, h2⟩ := h
    match l1, e with
    | [], e =>
      rw [List.nil_append] at e
      subst e
      obtain ⟨i, k, ⟨a, b, c⟩, d1, d2⟩ := sub_two h2
      exact ⟨i + 1, k + 1, ⟨by omega, by rw [List.length_cons]; omega, fun e => by rw [List.getD_cons_succ]; exact c (by omega)⟩, by rw [List.getD_cons_succ, d1], by rw [List.getD_cons_succ, d2]⟩
    | [z], e =>
      obtain ⟨rfl, e2⟩ := List.cons.inj e
      have e2 : [y] = l2 := e2
      subst e2
      obtain ⟨k, hk, hk2⟩ := mem_allP (h2.subset List.mem_cons_self)
      have hz := (List.mem_replicate.1 (h1.subset List.mem_cons_self)).2
      exact ⟨0, k + 1, ⟨by omega, by rw [List.length_cons]; omega, fun e => by omega⟩, by rw [List.getD_cons_zero, hz], by rw [List.getD_cons_succ, hk2]⟩
    | [z, u], e =>
      simp only [List.cons_append, List.nil_append, List.cons.injEq] at e
      obtain ⟨rfl, rfl, -⟩ := e
      obtain ⟨rfl, rfl, h3⟩ := two_sub h1
      exact ⟨0, 0, ⟨Nat.le_refl _, by rw [List.length_cons]; omega, fun _ => by rw [List.getD_cons_zero]; omega⟩, by rw [List.getD_cons_zero], by rw [List.getD_cons_zero]⟩
    | z :: u :: v :: w, e => simp at e
theorem two_of : ∀ {l : List Pt} {i k : Nat}, (∀ p ∈ l, posP p) → twoP l i k → [l.getD i default, l.getD k default].Sublist (allP l)
  | [], _, _, _, h => by have := h.2.1; simp at this
  | p :: l, i, k, hl, ⟨a, b, c⟩ => by
    rw [List.length_cons] at b
    rw [allP, List.flatMap_cons]
    match i, k, a, b, c with
    | 0, 0, _, _, c =>
      have := c rfl
      rw [List.getD_cons_zero] at this ⊢
      exact List.Sublist.trans (by
        have : [p, p] = List.replicate 2 p := rfl
        rw [this]
        exact List.replicate_sublist_replicate p |>.2 (by omega)) (List.sublist_append_left _ _)
    | 0, k + 1, _, b, _ =>
      rw [List.getD_cons_zero, List.getD_cons_succ]
      have h1 : [p].Sublist (List.replicate p.2.toNat p) := List.singleton_sublist.2 (List.mem_replicate.2 ⟨by have := (hl p List.mem_cons_self).2; omega, rfl⟩)
      have h2 := allP_mem (fun q hq => hl q (List.mem_cons_of_mem _ hq)) (show k < l.length by omega)
      exact h1.append (List.singleton_sublist.2 h2)
    | i + 1, k + 1, a, b, c =>
      rw [List.getD_cons_succ, List.getD_cons_succ]
      exact (two_of (fun q hq => hl q (List.mem_cons_of_mem _ hq)) ⟨by omega, by omega, fun e => by have := c (by omega); rwa [List.getD_cons_succ] at this⟩).trans (List.sublist_append_right _ _)
theorem ceilN_le {n d x : Nat} (h : 0 < d) : ceilN n d ≤ x ↔ n ≤ x * d := by
  rw [ceilN]
  have h1 := Nat.div_add_mod n d
  have h2 := Nat.mod_lt n h
  generalize n % d = r at *
  generalize n / d = q at *
  subst h1
  constructor
  · intro h3
    have : d * q + r ≤ d * x := by
      split at h3
      · have : d * (q + 1) ≤ d * x := Nat.mul_le_mul_left d h3
        rw [Nat.mul_add] at this; omega
      · have : d * q ≤ d * x := Nat.mul_le_mul_left d (by omega)
        omega
    rw [Nat.mul_comm x]; exact this
  · intro h3
    rw [Nat.mul_comm x] at h3
    have hq : q ≤ x := Nat.le_of_mul_le_mul_left (show d * q ≤ d * x by omega) h
    split
    · by_cases e : q = x
      · subst e; omega
      · omega
    · omega
/-- What comes of two single ones. -/
def spN (N : Nat) (Q : Pt) : Nat := ceilN (N * Q.2.toNat) Q.1.toNat
theorem spN_mono {N : Nat} {P Q : Pt} (hP : posP P) (hQ : posP Q) (h : le P Q) : spN N Q ≤ spN N P := by
  have hP1 := hP.1
  have hP2 := hP.2
  have hQ1 := hQ.1
  have hQ2 := hQ.2
  have h2 : P.1.toNat * Q.2.toNat ≤ Q.1.toNat * P.2.toNat := by
    have e1 : ((P.1.toNat * Q.2.toNat : Nat) : Int) = P.1 * Q.2 := by rw [Int.natCast_mul, Int.toNat_of_nonneg (by omega), Int.toNat_of_nonneg (by omega)]
    have e2 : ((Q.1.toNat * P.2.toNat : Nat) : Int) = Q.1 * P.2 := by rw [Int.natCast_mul, Int.toNat_of_nonneg (by omega), Int.toNat_of_nonneg (by omega)]
    rw [le] at h
    omega
  rw [spN, ceilN_le (by omega)]
  have h3 : N * P.2.toNat ≤ spN N P * P.1.toNat := (ceilN_le (by omega)).1 (Nat.le_refl _)
  have hp : 0 < P.1.toNat := by omega
  generalize P.1.toNat = p1 at *
  generalize P.2.toNat = p2 at *
  generalize Q.1.toNat = q1 at *
  generalize Q.2.toNat = q2 at *
  generalize spN N P = X at *
  have a1 : N * (p1 * q2) ≤ N * (q1 * p2) := Nat.mul_le_mul_left _ h2
  have a2 : N * p2 * q1 ≤ X * p1 * q1 := Nat.mul_le_mul_right _ h3
  have e1 : N * (p1 * q2) = N * q2 * p1 := by grind
  have e2 : N * (q1 * p2) = N * p2 * q1 := by grind
  have e3 : X * p1 * q1 = X * q1 * p1 := by grind
  exact Nat.le_of_mul_le_mul_right (by omega) hp
/-- The spread, by the two least rates. -/
def spV (N : Nat) (l : List Pt) : Nat := if 1 < (leOf l).n then spN N (mulP (leOf l).a (leOf l).b) else 0
theorem spV_top {N : Nat} {l : List Pt} (hl : ∀ p ∈ l, posP p) {i k : Nat} (h : twoP l i k) : spN N (mulP (l.getD i default) (l.getD k default)) ≤ spV N l := by
  have hok := leOK_of hl
  have hs := two_of hl h
  have hn : 1 < (leOf l).n := by
    rw [hok.n]
    have := hs.length_le
    exact this
  rw [spV, if_pos hn]
  obtain ⟨o1, -⟩ := hok.one (by omega)
  obtain ⟨-, -, t3, t4⟩ := hok.two hn
  have hall : ∀ x ∈ allP l, posP x := fun x hx => by
    obtain ⟨k, hk, rfl⟩ := mem_allP hx
    exact hl _ (getD_mem hk)
  exact spN_mono (posP_mul (hall _ o1) (hall _ t3)) (posP_mul (hl _ (getD_mem (Nat.lt_of_le_of_lt h.1 h.2.1))) (hl _ (getD_mem h.2.1))) ((List.pairwise_iff_forall_sublist).1 t4 hs)
theorem spV_at {N : Nat} {l : List Pt} (hl : ∀ p ∈ l, posP p) : (∃ i k, twoP l i k ∧ spV N l = spN N (mulP (l.getD i default) (l.getD k default))) ∨ (spV N l = 0 ∧ ∀ i k, ¬ twoP l i k) := by
  have hok := leOK_of hl
  by_cases hn : 1 < (leOf l).n
  · left
    obtain ⟨-, ⟨x, y, t1, t2⟩, -, -⟩ := hok.two hn
    obtain ⟨i, k, h1, h2, h3⟩ := sub_two t1
    exact ⟨i, k, h1, by rw [spV, if_pos hn, t2, h2, h3]⟩
  · right
    refine ⟨by rw [spV, if_neg hn], fun i k h => hn ?_⟩
    rw [hok.n]
    exact (two_of hl h).length_le
end Go.Proofs.Ytbjhphjpdeblnaa.Sh

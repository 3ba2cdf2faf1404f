/- Moments, without any program: who is whole, what idles. No condition. -/
import Derived.Test.YtbjhphjpdeblnaaDoorAm
namespace Go.Proofs.YtbjhphjpdeblnaaDoor
open Go Go.Sy
set_option maxRecDepth 100000
set_option linter.unusedSimpArgs false
set_option linter.unusedVariables false

theorem countP_lt_iff {p q : Se → Bool} {l : List Se} (h : ∀ y, p y = true → q y = true) : l.countP p < l.countP q ↔ ∃ z ∈ l, q z = true ∧ p z = false := by
  induction l with
  | nil => simp
  | cons x l ih =>
    have hle : l.countP p ≤ l.countP q := List.countP_mono_left fun y _ => h y
    rw [List.countP_cons, List.countP_cons]
    have hx := h x
    cases hp : p x
    · cases hq : q x
      · simp only [Bool.false_eq_true, if_false, Nat.add_zero]
        rw [ih]
        constructor
        · rintro ⟨z, h1, h2⟩; exact ⟨z, List.mem_cons_of_mem _ h1, h2⟩
        · rintro ⟨z, h1, h2, h3⟩
          rcases List.mem_cons.1 h1 with rfl | h1
          · rw [hq] at h2; cases h2
          · exact ⟨z, h1, h2, h3⟩
      · simp only [Bool.false_eq_true, if_false, Nat.add_zero, if_true]
        exact ⟨fun _ => ⟨x, by simp, hq, hp⟩, fun _ => by omega⟩
    · rw [hx hp]
      simp only [if_true]
      rw [Nat.add_lt_add_iff_right, ih]
      constructor
      · rintro ⟨z, h1, h2⟩; exact ⟨z, List.mem_cons_of_mem _ h1, h2⟩
      · rintro ⟨z, h1, h2, h3⟩
        rcases List.mem_cons.1 h1 with rfl | h1
        · rw [hp] at h3; cases h3
        · exact ⟨z, h1, h2, h3⟩
/-- Could one run in another one's gang; does it? -/
def couldB (x y : Se) : Bool := decide (y.g = x.g) && (y.r && !y.k)
def areB (x y : Se) : Bool := couldB x y && decide (-1 < y.c)
theorem are_could {x y : Se} (h : areB x y = true) : couldB x y = true := by rw [areB, Bool.and_eq_true] at h; exact h.1
/-- Is a gang that runs whole? -/
def wholeX (l : List Se) (x : Se) : Bool := !(decide (0 < x.g) && (decide (0 < (l.countP (areB x) : Int)) && decide ((l.countP (areB x) : Int) < (l.countP (couldB x) : Int))))
def wholeM (m : Mo) : Bool := rightM m && m.2.all (wholeX m.2)
/-- Some of a gang run; some could, and do not. -/
def someG (l : List Se) (g : Int) : Bool := l.any fun y => decide (y.g = g) && ((y.r && !y.k) && decide (0 ≤ y.c))
def restG (l : List Se) (g : Int) : Bool := l.any fun y => decide (y.g = g) && ((y.r && !y.k) && !decide (0 ≤ y.c))
theorem whole_gangs {l : List Se} (h : ∀ x ∈ l, seenB x = true) : l.all (wholeX l) = (List.range 8).all fun i => !(someG l ((i : Int) + 1) && restG l ((i : Int) + 1)) := by
  rw [Bool.eq_iff_iff, List.all_eq_true, List.all_eq_true]
  constructor
  · intro hw i hi
    rw [List.mem_range] at hi
    rw [Bool.not_eq_true', Bool.and_eq_false_iff]
    cases hs : someG l ((i : Int) + 1)
    · exact .inl rfl
    · right
      rw [someG, List.any_eq_true] at hs
      obtain ⟨y, hy, hyp⟩ := hs
      simp only [Bool.and_eq_true, decide_eq_true_eq] at hyp
      have := hw y hy
      simp only [wholeX, Bool.not_eq_true', Bool.and_eq_false_iff, decide_eq_false_iff_not] at this
      have ha : areB y y = true := by simp only [areB, couldB, Bool.and_eq_true, decide_eq_true_eq]; exact ⟨⟨trivial, hyp.2.1⟩, by omega⟩
      have h0 : 0 < l.countP (areB y) := List.countP_pos_iff.2 ⟨y, hy, ha⟩
      have hno : ¬ l.countP (areB y) < l.countP (couldB y) := by
        rcases this with h1 | h1 | h1 <;> omega
      rw [countP_lt_iff fun z => are_could] at hno
      rw [restG, List.any_eq_false]
      intro z hz hzp
      simp only [Bool.and_eq_true, decide_eq_true_eq, Bool.not_eq_true', decide_eq_false_iff_not] at hzp
      refine hno ⟨z, hz, ?_, ?_⟩
      · simp only [couldB, Bool.and_eq_true, decide_eq_true_eq, Bool.not_eq_true']
        exact ⟨by omega, hzp.2.1⟩
      · rw [areB, Bool.and_eq_false_iff]
        right
        rw [decide_eq_false_iff_not]
        have := hzp.2.2
        omega
  · intro hw x hx
    rw [wholeX, Bool.not_eq_true']
    cases hd : decide (0 < x.g) && (decide (0 < (l.countP (areB x) : Int)) && decide ((l.countP (areB x) : Int) < (l.countP (couldB x) : Int)))
    · rfl
    · exfalso
      simp only [Bool.and_eq_true, decide_eq_true_eq] at hd
      obtain ⟨h1, h2, h3⟩ := hd
      have hs := (seenB_iff x).1 (h x hx)
      obtain ⟨y, hy, hya⟩ := List.countP_pos_iff.1 (show 0 < l.countP (areB x) by omega)
      obtain ⟨z, hz, hz1, hz2⟩ := (countP_lt_iff fun z => are_could (x := x)).1 (show l.countP (areB x) < l.countP (couldB x) by omega)
      have := hw (x.g.toNat - 1) (List.mem_range.2 (by omega))
      rw [show ((x.g.toNat - 1 : Nat) : Int) + 1 = x.g by omega] at this
      have e1 : someG l x.g = true := by
        rw [someG, List.any_eq_true]
        simp only [areB, couldB, Bool.and_eq_true, decide_eq_true_eq] at hya
        exact ⟨y, hy, by simp only [Bool.and_eq_true, decide_eq_true_eq]; exact ⟨hya.1.1, hya.1.2, by omega⟩⟩
      have e2 : restG l x.g = true := by
        rw [restG, List.any_eq_true]
        rw [areB, hz1, Bool.true_and, decide_eq_false_iff_not] at hz2
        simp only [couldB, Bool.and_eq_true, decide_eq_true_eq] at hz1
        refine ⟨z, hz, ?_⟩
        simp only [Bool.and_eq_true, decide_eq_true_eq, Bool.not_eq_true', decide_eq_false_iff_not]
        exact ⟨hz1.1, by simpa using hz1.2, by omega⟩
      rw [e1, e2] at this
      cases this
/- what idles -/
def wantS (s : Nat) (x : Se) : Nat := if waitB x = true then s ||| x.m else s
def takS (s : Nat) (x : Se) : Nat := if -1 < x.c then s ||| 2 ^ x.c.toNat else s
def wantN (l : List Se) : Nat := l.foldl wantS 0
def takN (l : List Se) : Nat := l.foldl takS 0
theorem wantN_suc {l : List Se} {k : Nat} (h : k < l.length) : wantN (l.take (k + 1)) = wantS (wantN (l.take k)) (l.getD k default) := by
  rw [take_getD h, wantN, List.foldl_append]; rfl
theorem takN_suc {l : List Se} {k : Nat} (h : k < l.length) : takN (l.take (k + 1)) = takS (takN (l.take k)) (l.getD k default) := by
  rw [take_getD h, takN, List.foldl_append]; rfl
theorem want_bd {l : List Se} (h : ∀ x ∈ l, seenB x = true) : wantN l < 256 ∧ takN l < 256 := by
  suffices H : ∀ (l : List Se) (s t : Nat), (∀ x ∈ l, seenB x = true) → s < 256 → t < 256 → l.foldl wantS s < 256 ∧ l.foldl takS t < 256 from H l 0 0 h (by decide) (by decide)
  intro l
  induction l with
  | nil => intro s t _ h1 h2; exact ⟨h1, h2⟩
  | cons x l ih =>
    intro s t h h1 h2
    have hx := (seenB_iff x).1 (h x (by simp))
    refine ih _ _ (fun y hy => h y (List.mem_cons_of_mem _ hy)) ?_ ?_
    · unfold wantS; split
      · exact Nat.or_lt_two_pow (n := 8) h1 (by omega)
      · exact h1
    · unfold takS; split
      · have := Nat.pow_le_pow_right (show 1 ≤ 2 by decide) (show x.c.toNat ≤ 7 by omega)
        exact Nat.or_lt_two_pow (n := 8) h2 (by omega)
      · exact h2
theorem want_bit (c : Nat) (l : List Se) : (wantN l).testBit c = l.any fun x => waitB x && x.m.testBit c := by
  suffices H : ∀ (l : List Se) (s : Nat), (l.foldl wantS s).testBit c = (s.testBit c || l.any fun x => waitB x && x.m.testBit c) by
    rw [wantN, H l 0, Nat.zero_testBit, Bool.false_or]
  intro l
  induction l with
  | nil => intro s; simp
  | cons x l ih =>
    intro s
    rw [List.foldl_cons, ih, List.any_cons, wantS]
    cases hw : waitB x
    · simp
    · rw [if_pos rfl, Nat.testBit_or, Bool.true_and, Bool.or_assoc]
theorem tak_bit (c : Nat) (l : List Se) : (takN l).testBit c = l.any fun x => decide (x.c = (c : Int)) := by
  suffices H : ∀ (l : List Se) (s : Nat), (l.foldl takS s).testBit c = (s.testBit c || l.any fun x => decide (x.c = (c : Int))) by
    rw [takN, H l 0, Nat.zero_testBit, Bool.false_or]
  intro l
  induction l with
  | nil => intro s; simp
  | cons x l ih =>
    intro s
    rw [List.foldl_cons, ih, List.any_cons, takS]
    by_cases h : -1 < x.c
    · rw [if_pos h, Nat.testBit_or, Nat.testBit_two_pow, Bool.or_assoc]
      congr 2
      rw [decide_eq_decide]; omega
    · rw [if_neg h, show decide (x.c = (c : Int)) = false by rw [decide_eq_false_iff_not]; omega, Bool.false_or]
/-- The pCPUs that idle. -/
def idleL (l : List Se) : List Int := bits (dif (wantN l) (takN l))
def idleM (m : Mo) : List Int := if rightM m = true then idleL m.2 else []
/-- Admissible, behind those who have what is taken. -/
theorem adm_step {l : List Se} {k : Nat} (h : k < l.length) (hs : seenB (l.getD k default) = true) : admB (takN (l.take k)) (l.drop k) = if (l.getD k default).c < 0 then admB (takN (l.take (k + 1))) (l.drop (k + 1))
    else if ((l.getD k default).r && (!(l.getD k default).k && (hasB (l.getD k default).m (l.getD k default).c && !(l.take k).any fun y => decide (y.c = (l.getD k default).c)))) = true then admB (takN (l.take (k + 1))) (l.drop (k + 1)) else false := by
  have hx := (seenB_iff _).1 hs
  rw [drop_getD h, admB, takN_suc h]
  by_cases e : (l.getD k default).c < 0
  · rw [if_pos (by omega), if_pos e, takS, if_neg (by omega)]
  · have ht : takS (takN (l.take k)) (l.getD k default) = takN (l.take k) ||| 2 ^ (l.getD k default).c.toNat := by rw [takS, if_pos (by omega)]
    rw [if_neg (by omega), if_neg e, ht]
    have hh : hasB (takN (l.take k)) (l.getD k default).c = (l.take k).any fun y => decide (y.c = (l.getD k default).c) := by
      rw [hasB, decide_eq_true (by omega), Bool.true_and, tak_bit, Int.toNat_of_nonneg (by omega)]
    rw [hh]
end Go.Proofs.YtbjhphjpdeblnaaDoor

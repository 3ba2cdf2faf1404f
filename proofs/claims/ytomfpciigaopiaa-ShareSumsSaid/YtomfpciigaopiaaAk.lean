/- Who is full. No condition. -/
import Derived.Test.YtomfpciigaopiaaAj
namespace Go.Proofs.Ytomfpciigaopiaa
open Go Go.Sy
set_option maxRecDepth 100000
set_option linter.unusedSimpArgs false
set_option linter.unusedVariables false

def nextF (l : List Pt) (b : List Bool) (left w : Int) : List Bool := (l.zip b).map fun x => x.2 || decide (x.1.2 * w ≤ x.1.1 * left)
def stepF (l : List Pt) (m : Int) (b : List Bool) : List Bool := nextF l b (leftF l b m) (wtF l b)
/-- As the program goes on. -/
def fullN (l : List Pt) (m : Int) : Nat → List Bool → List Bool
  | 0, b => b
  | n + 1, b => if stepF l m b = b ∨ leftF l (stepF l m b) m ≤ 0 then stepF l m b else fullN l m n (stepF l m b)
/-- As the document does. -/
def refN (l : List Pt) (m : Int) : Nat → List Bool → List Bool
  | 0, b => b
  | n + 1, b => if leftF l b m ≤ 0 then b else if stepF l m b = b then b else refN l m n (stepF l m b)
def fullV (l : List Pt) (m : Int) : List Bool := fullN l m l.length (no0 l)
theorem nextF_len {l : List Pt} {b : List Bool} {x w : Int} (hb : b.length = l.length) : (nextF l b x w).length = l.length := by
  rw [nextF, List.length_map, List.length_zip]; omega
theorem stepF_len {l : List Pt} {b : List Bool} {m : Int} (hb : b.length = l.length) : (stepF l m b).length = l.length := nextF_len hb
theorem nextF_get {l : List Pt} {b : List Bool} {x w : Int} {k : Nat} (hk : k < l.length) (hb : b.length = l.length) : (nextF l b x w).getD k default = (b.getD k default || decide ((l.getD k default).2 * w ≤ (l.getD k default).1 * x)) := by
  rw [nextF, List.getD, List.getElem?_map, List.getElem?_eq_getElem (by rw [List.length_zip]; omega), List.getElem_zip, List.getD, List.getElem?_eq_getElem (by omega), List.getD, List.getElem?_eq_getElem hk]; rfl
theorem stepF_get {l : List Pt} {b : List Bool} {m : Int} {k : Nat} (hk : k < l.length) (hb : b.length = l.length) : (stepF l m b).getD k default = (b.getD k default || decide ((l.getD k default).2 * wtF l b ≤ (l.getD k default).1 * leftF l b m)) := nextF_get hk hb
theorem ext_getD {α : Type} [Inhabited α] {a b : List α} (h : a.length = b.length) (hk : ∀ k, k < a.length → a.getD k default = b.getD k default) : a = b := by
  apply List.ext_getElem h
  intro j h1 h2
  have := hk j h1
  rwa [List.getD, List.getElem?_eq_getElem h1, List.getD, List.getElem?_eq_getElem h2] at this
/-- How many are not full. -/
def opens (b : List Bool) : Nat := b.countP fun x => !x
theorem opens_le {a b : List Bool} (h : a.length = b.length) (hk : ∀ k, k < a.length → b.getD k default = true → a.getD k default = true) : opens a ≤ opens b ∧ (opens a = opens b → a = b) := by
  induction a generalizing b with
  | nil =>
    cases b with
    | nil => exact ⟨Nat.le_refl _, fun _ => rfl⟩
    | cons => cases h
  | cons x a ih =>
    cases b with
    | nil => cases h
    | cons y b =>
      rw [List.length_cons, List.length_cons] at h
      have h1 := ih (b := b) (by omega) fun k hk2 => by
        have := hk (k + 1) (by rw [List.length_cons]; omega)
        simpa using this
      have h0 := hk 0 (by rw [List.length_cons]; omega)
      simp only [List.getD_cons_zero] at h0
      simp only [opens, List.countP_cons] at h1 ⊢
      cases x <;> cases y <;> simp at h0 ⊢
      · exact h1
      · exact ⟨by omega, fun h => by omega⟩
      · exact h1
theorem step_le {l : List Pt} {b : List Bool} {m : Int} (hb : b.length = l.length) : opens (stepF l m b) ≤ opens b ∧ (opens (stepF l m b) = opens b → stepF l m b = b) :=
  opens_le (by rw [stepF_len hb, hb]) fun k hk h => by
    rw [stepF_len hb] at hk
    rw [stepF_get hk hb, h, Bool.true_or]
theorem opens_zero {l : List Pt} {b : List Bool} {m : Int} (hb : b.length = l.length) (h : opens b = 0) : stepF l m b = b := by
  have := step_le (m := m) hb
  exact this.2 (by omega)
theorem ref_full {l : List Pt} {m : Int} : ∀ (n : Nat) (b : List Bool), b.length = l.length → 0 < leftF l b m → opens b ≤ n → refN l m (n + 1) b = fullN l m n b
  | 0, b, hb, hl, ho => by
    rw [refN, fullN, if_neg (by omega), if_pos (opens_zero hb (by omega))]
  | n + 1, b, hb, hl, ho => by
    rw [refN, fullN, if_neg (by omega)]
    by_cases h : stepF l m b = b
    · rw [if_pos h, if_pos (.inl h), h]
    · rw [if_neg h]
      by_cases h2 : leftF l (stepF l m b) m ≤ 0
      · rw [if_pos (.inr h2), refN, if_pos h2]
      · rw [if_neg (by rintro (h3 | h3) <;> contradiction)]
        have := step_le (m := m) hb
        exact ref_full n _ (stepF_len hb) (by omega) (by
          have h3 : opens (stepF l m b) ≠ opens b := fun e => h (this.2 e)
          omega)
theorem left_no {l : List Pt} {m : Int} : leftF l (no0 l) m = m := by
  have : ∀ l : List Pt, sumZ zC l (List.replicate l.length false) = 0 := by
    intro l
    induction l with
    | nil => rfl
    | cons p l ih =>
      rw [sumZ] at ih ⊢
      rw [List.length_cons, List.replicate_succ, List.zip_cons_cons, List.map_cons, List.sum_cons, ih]; rfl
  rw [leftF, no0, this, Int.sub_zero]
theorem opens_no (l : List Pt) : opens (no0 l) = l.length := by
  rw [opens, no0, List.countP_replicate]; simp
theorem ref_fullV {l : List Pt} {m : Int} (hm : 0 < m) : refN l m (l.length + 1) (no0 l) = fullV l m :=
  ref_full _ _ (no0_len l) (by rw [left_no]; exact hm) (by rw [opens_no]; exact Nat.le_refl _)
theorem fullN_len {l : List Pt} {m : Int} : ∀ (n : Nat) (b : List Bool), b.length = l.length → (fullN l m n b).length = l.length
  | 0, b, hb => hb
  | n + 1, b, hb => by
    rw [fullN]
    split
    · exact stepF_len hb
    · exact fullN_len n _ (stepF_len hb)
theorem fullV_len (l : List Pt) (m : Int) : (fullV l m).length = l.length := fullN_len _ _ (no0_len l)
/-- The new ones, then the old ones. -/
def mixB (a b : List Bool) (k : Nat) : List Bool := a.take k ++ b.drop k
theorem mixB_zero (a b : List Bool) : mixB a b 0 = b := by simp [mixB]
theorem mixB_full {a b : List Bool} {n : Nat} (ha : a.length = n) (hb : b.length = n) : mixB a b n = a := by
  rw [mixB, List.take_of_length_le (by omega), List.drop_of_length_le (by omega), List.append_nil]
theorem mixB_len {a b : List Bool} {n k : Nat} (ha : a.length = n) (hb : b.length = n) (hk : k ≤ n) : (mixB a b k).length = n := by
  rw [mixB, List.length_append, List.length_take, List.length_drop]; omega
theorem mixB_get {a b : List Bool} {n k j : Nat} (ha : a.length = n) (hb : b.length = n) (hk : k ≤ n) (hj : j < n) : (mixB a b k).getD j default = if j < k then a.getD j default else b.getD j default := by
  rw [mixB, List.getD, List.getElem?_append]
  split
  · rename_i h
    rw [List.length_take] at h
    rw [if_pos (by omega), List.getElem?_take, if_pos (by omega), List.getD]
  · rename_i h
    rw [List.length_take] at h
    rw [if_neg (by omega), List.getElem?_drop, List.getD, List.length_take, show k + (j - min k a.length) = j by omega]
theorem getD_set {b : List Bool} {k j : Nat} {x : Bool} (hk : k < b.length) : (b.set k x).getD j default = if j = k then x else b.getD j default := by
  rw [List.getD, List.getElem?_set]
  by_cases e : k = j
  · subst e; rw [if_pos rfl, if_pos rfl, if_pos hk]; rfl
  · rw [if_neg e, if_neg (fun h => e h.symm), List.getD]
theorem mixB_set {a b : List Bool} {n k : Nat} {x : Bool} (ha : a.length = n) (hb : b.length = n) (hk : k < n) (h : a.getD k default = x) : (mixB a b k).set k x = mixB a b (k + 1) := by
  have hl := mixB_len ha hb (Nat.le_of_lt hk)
  refine ext_getD (by rw [List.length_set, hl, mixB_len ha hb (show k + 1 ≤ n by omega)]) fun j hj => ?_
  rw [List.length_set, hl] at hj
  rw [getD_set (by omega), mixB_get ha hb (by omega) hj, mixB_get ha hb (by omega) hj]
  by_cases e : j = k
  · subst e; rw [if_pos rfl, if_pos (by omega), h]
  · rw [if_neg e]
    by_cases e2 : j < k
    · rw [if_pos e2, if_pos (by omega)]
    · rw [if_neg e2, if_neg (by omega)]
theorem mixB_same {a b : List Bool} {n k : Nat} (ha : a.length = n) (hb : b.length = n) (hk : k < n) (h : a.getD k default = b.getD k default) : mixB a b (k + 1) = mixB a b k := by
  refine ext_getD (by rw [mixB_len ha hb (show k + 1 ≤ n by omega), mixB_len ha hb (Nat.le_of_lt hk)]) fun j hj => ?_
  rw [mixB_len ha hb hk] at hj
  rw [mixB_get ha hb (by omega) hj, mixB_get ha hb (by omega) hj]
  by_cases e : j = k
  · subst e; rw [if_pos (by omega), if_neg (by omega), h]
  · by_cases e2 : j < k
    · rw [if_pos e2, if_pos (by omega)]
    · rw [if_neg e2, if_neg (by omega)]
theorem sumZ_set {g : Pt × Bool → Int} : ∀ {l : List Pt} {b : List Bool} {k : Nat} {x : Bool}, k < l.length → b.length = l.length → sumZ g l (b.set k x) = sumZ g l b - g (l.getD k default, b.getD k default) + g (l.getD k default, x)
  | [], _, _, _, h, _ => by simp at h
  | p :: l, [], _, _, _, hb => by simp at hb
  | p :: l, y :: b, 0, x, _, _ => by
    simp only [sumZ, List.set_cons_zero, List.zip_cons_cons, List.map_cons, List.sum_cons, List.getD_cons_zero]; omega
  | p :: l, y :: b, k + 1, x, h, hb => by
    have := sumZ_set (g := g) (l := l) (b := b) (k := k) (x := x) (by simpa using h) (by simpa using hb)
    simp only [sumZ] at this
    simp only [sumZ, List.set_cons_succ, List.zip_cons_cons, List.map_cons, List.sum_cons, List.getD_cons_succ, this]; omega
theorem leftF_set {l : List Pt} {b : List Bool} {m : Int} {k : Nat} (hk : k < l.length) (hb : b.length = l.length) (h : b.getD k default = false) : leftF l (b.set k true) m = leftF l b m - (l.getD k default).2 := by
  rw [leftF, leftF, sumZ_set hk hb, h]
  show m - (sumZ zC l b - 0 + (l.getD k default).2) = _
  omega
theorem leftF_bd {l : List Pt} {b : List Bool} {m : Int} (h : rightP l = true) : m - 64 ≤ leftF l b m ∧ leftF l b m ≤ m := by
  obtain ⟨hn, hall, -⟩ := (rightP_iff l).1 h
  have := sumZ_bd (b := b) (zC_bd hall) (by decide)
  rw [leftF]; omega
theorem wtF_bd {l : List Pt} {b : List Bool} (h : rightP l = true) : 0 ≤ wtF l b ∧ wtF l b ≤ 524280 := by
  obtain ⟨hn, hall, -⟩ := (rightP_iff l).1 h
  have := sumZ_bd (b := b) (zW_bd hall) (by decide)
  rw [wtF]; omega
theorem smul_bd {a b A B : Int} (h1 : 0 ≤ a) (h2 : a ≤ A) (h3 : -B ≤ b) (h4 : b ≤ B) (h5 : 0 ≤ B) : -(A * B) ≤ a * b ∧ a * b ≤ A * B := by
  have e1 : a * b ≤ a * B := Int.mul_le_mul_of_nonneg_left h4 h1
  have e2 : a * B ≤ A * B := Int.mul_le_mul_of_nonneg_right h2 h5
  have e3 : a * -B ≤ a * b := Int.mul_le_mul_of_nonneg_left h3 h1
  rw [Int.mul_neg] at e3
  omega
end Go.Proofs.Ytomfpciigaopiaa

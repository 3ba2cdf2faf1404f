/- Feasible parties' shares, plainly. No condition. -/
import Derived.Test.YtomfpciigaopiaaAk
namespace Go.Proofs.Ytomfpciigaopiaa
open Go Go.Sy
set_option maxRecDepth 100000
set_option linter.unusedSimpArgs false
set_option linter.unusedVariables false

theorem sumZ_cons (g : Pt × Bool → Int) (p : Pt) (l : List Pt) (x : Bool) (b : List Bool) : sumZ g (p :: l) (x :: b) = g (p, x) + sumZ g l b := by
  rw [sumZ, List.zip_cons_cons, List.map_cons, List.sum_cons, sumZ]
/-- What a round takes: no less of weights than of counts. -/
theorem round_take {left w : Int} : ∀ {l : List Pt} {b : List Bool}, b.length = l.length → (∀ p ∈ l, okP p = true) → w * (sumZ zC l (nextF l b left w) - sumZ zC l b) ≤ left * (sumZ zW l b - sumZ zW l (nextF l b left w))
  | [], [], _, _ => by simp [sumZ]
  | p :: l, x :: b, hb, hall => by
    have ih := round_take (left := left) (w := w) (l := l) (b := b) (by simpa using hb) fun q hq => hall q (List.mem_cons_of_mem _ hq)
    have hn : nextF (p :: l) (x :: b) left w = (x || decide (p.2 * w ≤ p.1 * left)) :: nextF l b left w := rfl
    rw [hn, sumZ_cons, sumZ_cons, sumZ_cons, sumZ_cons]
    generalize sumZ zC l (nextF l b left w) = A at *
    generalize sumZ zC l b = B at *
    generalize sumZ zW l (nextF l b left w) = C at *
    generalize sumZ zW l b = D at *
    cases x
    · by_cases h : p.2 * w ≤ p.1 * left
      · rw [decide_eq_true h]
        show w * (p.2 + A - (0 + B)) ≤ left * (p.1 + D - (0 + C))
        have e1 : w * (p.2 + A - (0 + B)) = p.2 * w + w * (A - B) := by grind
        have e2 : left * (p.1 + D - (0 + C)) = p.1 * left + left * (D - C) := by grind
        omega
      · rw [decide_eq_false h]
        show w * (0 + A - (0 + B)) ≤ left * (p.1 + D - (p.1 + C))
        have e1 : w * (0 + A - (0 + B)) = w * (A - B) := by grind
        have e2 : left * (p.1 + D - (p.1 + C)) = left * (D - C) := by grind
        omega
    · show w * (p.2 + A - (p.2 + B)) ≤ left * (0 + D - (0 + C))
      have e1 : w * (p.2 + A - (p.2 + B)) = w * (A - B) := by grind
      have e2 : left * (0 + D - (0 + C)) = left * (D - C) := by grind
      omega
/-- The rate of what is left grows. -/
theorem left_grows {l : List Pt} {b : List Bool} {m : Int} (hb : b.length = l.length) (hall : ∀ p ∈ l, okP p = true) : leftF l b m * wtF l (stepF l m b) ≤ leftF l (stepF l m b) m * wtF l b := by
  have h := round_take (left := leftF l b m) (w := wtF l b) hb hall
  rw [stepF]
  generalize hn : nextF l b (leftF l b m) (wtF l b) = nx at *
  have e1 : sumZ zC l nx - sumZ zC l b = leftF l b m - leftF l nx m := by rw [leftF, leftF]; omega
  rw [e1] at h
  have e2 : sumZ zW l b = wtF l b := rfl
  have e3 : sumZ zW l nx = wtF l nx := rfl
  rw [e2, e3] at h
  generalize leftF l b m = L at *
  generalize leftF l nx m = L' at *
  generalize wtF l b = w at *
  generalize wtF l nx = w' at *
  have e4 : w * (L - L') = L * w - L' * w := by grind
  have e5 : L * (w - w') = L * w - L * w' := by grind
  omega
/-- An invariant of the rounds holds of who is full. -/
theorem full_inv {l : List Pt} {m : Int} (I : List Bool → Prop) (hI : ∀ b, b.length = l.length → I b → I (stepF l m b)) (h0 : I (no0 l)) : I (fullV l m) := by
  have : ∀ n b, b.length = l.length → I b → I (fullN l m n b) := by
    intro n
    induction n with
    | zero => intro b _ h; exact h
    | succ n ih =>
      intro b hb h
      rw [fullN]
      split
      · exact hI b hb h
      · exact ih _ (stepF_len hb) (hI b hb h)
  exact this _ _ (no0_len l) h0
theorem wt_pos {l : List Pt} {b : List Bool} (hb : b.length = l.length) (hall : ∀ p ∈ l, okP p = true) {k : Nat} (hk : k < l.length) (h : b.getD k default = false) : 0 < wtF l b ∧ (l.getD k default).1 ≤ wtF l b := by
  have hp := (okP_iff _).1 (hall _ (getD_mem hk))
  have hs := sumZ_set (g := zW) (x := true) hk hb
  rw [h] at hs
  have h2 := (sumZ_bd (l := l) (b := b.set k true) (zW_bd hall) (by decide)).1
  have e : zW (l.getD k default, true) = 0 := rfl
  have e2 : zW (l.getD k default, false) = (l.getD k default).1 := rfl
  rw [e, e2] at hs
  rw [wtF]
  omega
theorem no0_get {l : List Pt} {k : Nat} : (no0 l).getD k default = false := by
  rw [no0, List.getD, List.getElem?_replicate]
  split <;> rfl
/-- Who is full has no less for each weight than who is not. -/
theorem full_rate {l : List Pt} {m : Int} (hall : ∀ p ∈ l, okP p = true) : ∀ k, k < l.length → (fullV l m).getD k default = true → (l.getD k default).2 * wtF l (fullV l m) ≤ (l.getD k default).1 * leftF l (fullV l m) m := by
  refine full_inv (fun b => ∀ k, k < l.length → b.getD k default = true → (l.getD k default).2 * wtF l b ≤ (l.getD k default).1 * leftF l b m) (fun b hb h k hk hx => ?_) (fun k hk hx => by rw [no0_get] at hx; cases hx)
  have hp := (okP_iff _).1 (hall _ (getD_mem hk))
  have hg := left_grows (m := m) hb hall
  have hw := (sumZ_bd (l := l) (b := b) (zW_bd hall) (by decide)).1
  have hw' := (sumZ_bd (l := l) (b := stepF l m b) (zW_bd hall) (by decide)).1
  rw [stepF_get hk hb] at hx
  have hx2 : (l.getD k default).2 * wtF l b ≤ (l.getD k default).1 * leftF l b m := by
    cases e : b.getD k default
    · rw [e, Bool.false_or] at hx; exact of_decide_eq_true hx
    · exact h k hk e
  by_cases hz : wtF l b = 0
  · -- nobody is open: nothing changes
    have hs : stepF l m b = b := by
      refine ext_getD (by rw [stepF_len hb, hb]) fun j hj => ?_
      rw [stepF_len hb] at hj
      rw [stepF_get hj hb]
      cases e : b.getD j default
      · have := (wt_pos hb hall hj e).1; omega
      · rfl
    rw [hs]; exact hx2
  · have hwp : 0 < wtF l b := by
      have : 0 ≤ wtF l b := hw
      omega
    generalize l.getD k default = p at *
    have hw0 : 0 ≤ wtF l (stepF l m b) := hw'
    generalize wtF l (stepF l m b) = w' at *
    generalize leftF l (stepF l m b) m = L' at *
    generalize leftF l b m = L at *
    generalize wtF l b = w at *
    have a1 : p.2 * w * w' ≤ p.1 * L * w' := Int.mul_le_mul_of_nonneg_right hx2 hw0
    have a2 : p.1 * (L * w') ≤ p.1 * (L' * w) := Int.mul_le_mul_of_nonneg_left hg (by omega)
    have e1 : p.2 * w * w' = p.2 * w' * w := by grind
    have e2 : p.1 * L * w' = p.1 * (L * w') := by grind
    have e3 : p.1 * (L' * w) = p.1 * L' * w := by grind
    exact Int.le_of_mul_le_mul_right (by omega) hwp
/-- The rounds end where nothing changes, or nothing is left. -/
theorem full_end {l : List Pt} {m : Int} : stepF l m (fullV l m) = fullV l m ∨ leftF l (fullV l m) m ≤ 0 := by
  have : ∀ n b, b.length = l.length → opens b ≤ n → stepF l m (fullN l m n b) = fullN l m n b ∨ leftF l (fullN l m n b) m ≤ 0 := by
    intro n
    induction n with
    | zero => intro b hb h; exact .inl (opens_zero hb (Nat.le_zero.1 h))
    | succ n ih =>
      intro b hb h
      rw [fullN]
      split
      · rename_i h2
        rcases h2 with h2 | h2
        · rw [h2]; exact .inl h2
        · exact .inr h2
      · rename_i h2
        have h3 := step_le (m := m) hb
        refine ih _ (stepF_len hb) ?_
        have h4 : opens (stepF l m b) ≠ opens b := fun e => h2 (.inl (h3.2 e))
        omega
  exact this _ _ (no0_len l) (by rw [opens_no]; exact Nat.le_refl _)
theorem full_open {l : List Pt} {m : Int} (hl : 0 < leftF l (fullV l m) m) : ∀ k, k < l.length → (fullV l m).getD k default = false → (l.getD k default).1 * leftF l (fullV l m) m < (l.getD k default).2 * wtF l (fullV l m) := by
  intro k hk h
  rcases full_end (l := l) (m := m) with h2 | h2
  · have := stepF_get (m := m) hk (fullV_len l m)
    rw [h2, h, Bool.false_or] at this
    have := of_decide_eq_false this.symm
    omega
  · omega
/-- Of feasible parties: what is left is in the ratio of the weights. -/
theorem feas_inv {l : List Pt} {m : Int} (hr : rightP l = true) (hm : 0 < m) (hf : feasB l m = true) : leftF l (fullV l m) m * sumOf wW l = m * wtF l (fullV l m) ∧ ∀ k, k < l.length → (fullV l m).getD k default = true → (l.getD k default).1 * m = (l.getD k default).2 * sumOf wW l := by
  obtain ⟨hn, hall, -⟩ := (rightP_iff l).1 hr
  have hfe : ∀ k, k < l.length → (l.getD k default).1 * m ≤ (l.getD k default).2 * sumOf wW l := fun k hk => by
    rw [feasB, List.all_eq_true] at hf
    exact of_decide_eq_true (hf _ (getD_mem hk))
  have hWp : 0 < sumOf wW l := by
    have := (wt_pos (no0_len l) hall (k := 0) (by omega) no0_get).1
    rwa [zeroZ] at this
  generalize hS : sumOf wW l = S at *
  have key : ∀ b, b.length = l.length → leftF l b m * S = m * wtF l b → ∀ k, k < l.length → (l.getD k default).2 * wtF l b ≤ (l.getD k default).1 * leftF l b m → 0 < wtF l b → (l.getD k default).1 * m = (l.getD k default).2 * S := by
    intro b hb he k hk h hw
    have h1 := hfe k hk
    generalize l.getD k default = p at *
    generalize leftF l b m = L at *
    generalize wtF l b = w at *
    have a1 : p.2 * w * S ≤ p.1 * L * S := Int.mul_le_mul_of_nonneg_right h (by omega)
    have e1 : p.1 * L * S = p.1 * (L * S) := by grind
    rw [e1, he] at a1
    have e2 : p.2 * w * S = p.2 * S * w := by grind
    have e3 : p.1 * (m * w) = p.1 * m * w := by grind
    have : p.2 * S ≤ p.1 * m := Int.le_of_mul_le_mul_right (by omega) hw
    omega
  refine full_inv (fun b => leftF l b m * S = m * wtF l b ∧ ∀ k, k < l.length → b.getD k default = true → (l.getD k default).1 * m = (l.getD k default).2 * S) (fun b hb h => ?_) ⟨?_, fun k hk hx => by rw [no0_get] at hx; cases hx⟩
  · have hfull : ∀ k, k < l.length → (stepF l m b).getD k default = true → (l.getD k default).1 * m = (l.getD k default).2 * S := fun k hk hx => by
      rw [stepF_get hk hb] at hx
      cases e : b.getD k default
      · rw [e, Bool.false_or] at hx
        exact key b hb h.1 k hk (of_decide_eq_true hx) (wt_pos hb hall hk e).1
      · exact h.2 k hk e
    refine ⟨?_, hfull⟩
    -- S * sum of counts = m * sum of weights, of those that are full
    have hsum : ∀ (L : List Pt) (c : List Bool), c.length = L.length → (∀ k, k < L.length → c.getD k default = true → (L.getD k default).1 * m = (L.getD k default).2 * S) → S * sumZ zC L c = m * (sumOf wW L - sumZ zW L c) := by
      intro L
      induction L with
      | nil => intro c _ _; simp [sumZ, sumOf]
      | cons p L ih =>
        intro c hc hx
        cases c with
        | nil => simp at hc
        | cons y c =>
          have h1 := ih c (by simpa using hc) fun k hk => by
            have := hx (k + 1) (by rw [List.length_cons]; omega)
            simpa using this
          have h0 := hx 0 (by rw [List.length_cons]; omega)
          rw [List.getD_cons_zero, List.getD_cons_zero] at h0
          rw [sumZ_cons, sumZ_cons, sumOf, List.map_cons, List.sum_cons, ← sumOf]
          generalize sumZ zC L c = A at *
          generalize sumZ zW L c = B at *
          generalize sumOf wW L = C at *
          cases y
          · show S * (0 + A) = m * (p.1 + C - (p.1 + B))
            rw [show p.1 + C - (p.1 + B) = C - B by omega, Int.zero_add]; exact h1
          · have h0 := h0 rfl
            show S * (p.2 + A) = m * (p.1 + C - (0 + B))
            have e1 : S * (p.2 + A) = p.2 * S + S * A := by grind
            have e2 : m * (p.1 + C - (0 + B)) = p.1 * m + m * (C - B) := by grind
            omega
    have hs := hsum l (stepF l m b) (stepF_len hb) hfull
    rw [hS] at hs
    rw [leftF, wtF]
    generalize sumZ zC l (stepF l m b) = A at *
    generalize sumZ zW l (stepF l m b) = B at *
    have e1 : (m - A) * S = m * S - S * A := by grind
    have e2 : m * (S - B) = m * S - m * B := by grind
    omega
  · rw [left_no, zeroZ, hS]
end Go.Proofs.Ytomfpciigaopiaa

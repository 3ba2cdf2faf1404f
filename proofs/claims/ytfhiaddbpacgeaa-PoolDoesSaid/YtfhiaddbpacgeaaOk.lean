/- What is moved between pools, in plain words. No condition. -/
import Derived.Test.YtfhiaddbpacgeaaOj
namespace Go.Proofs.Ytfhiaddbpacgeaa
open Go Go.Sy
set_option maxRecDepth 100000
set_option linter.unusedSimpArgs false
set_option linter.unusedVariables false

theorem move_facts {xs : List Nat} {c to : Int} (h : moveE xs c to = 0) : okP xs = true ∧ 0 ≤ to ∧ to.toNat < xs.length ∧ ∃ n, ofI xs c = some n ∧ n < xs.length ∧ n ≠ to.toNat ∧ cnt (xs.getD n default) ≠ 1 ∧ (0 ≤ c ∧ c.toNat < 8) ∧ (xs.getD n default).testBit c.toNat = true := by
  unfold moveE at h
  split at h
  · cases h
  rename_i h1
  split at h
  · cases h
  rename_i h2
  have h2 : 0 ≤ to ∧ to < xs.length := by simpa [inR] using h2
  split at h
  · cases h
  rename_i n hn
  split at h
  · cases h
  rename_i h3
  split at h
  · cases h
  rename_i h4
  obtain ⟨q1, q2⟩ := ofI_lt hn
  simp only [hasB, Bool.and_eq_true, decide_eq_true_eq] at q2
  exact ⟨by simpa using h1, h2.1, by omega, n, hn, q1, by omega, h4, ⟨q2.1.1, by omega⟩, q2.2⟩
theorem moveX_eq {xs : List Nat} {c to : Int} {n : Nat} (hn : ofI xs c = some n) : moveX xs c to = (xs.set n (dif (xs.getD n default) (2 ^ c.toNat))).set to.toNat (xs.getD to.toNat default ||| 2 ^ c.toNat) := by
  rw [moveX, moveN, hn]; rfl
theorem moveX_nP {xs : List Nat} {c to : Int} (h : moveE xs c to = 0) (d : Nat) : nP d (moveX xs c to) = nP d xs := by
  obtain ⟨h1, h2, h3, n, h4, h5, h6, h7, h8, h9⟩ := move_facts h
  rw [moveX_eq h4]
  have e1 := nP_set (c := d) (v := dif (xs.getD n default) (2 ^ c.toNat)) h5
  have e2 := nP_set (c := d) (k := to.toNat) (v := xs.getD to.toNat default ||| 2 ^ c.toNat) (l := xs.set n (dif (xs.getD n default) (2 ^ c.toNat))) (by simpa using h3)
  rw [getD_set_other h6, or_bits, testBit_pow] at e2
  rw [dif_bit, testBit_pow] at e1
  have hd := okP_disj h1 h5 h3 h6 h9
  generalize nP d ((xs.set n (dif (xs.getD n default) (2 ^ c.toNat))).set to.toNat (xs.getD to.toNat default ||| 2 ^ c.toNat)) = A at e2 ⊢
  generalize nP d (xs.set n (dif (xs.getD n default) (2 ^ c.toNat))) = B at e1 e2
  generalize nP d xs = C at e1 ⊢
  by_cases e : c.toNat = d
  · subst e
    rw [h9] at e1
    rw [hd] at e2
    simp at e1 e2
    omega
  · simp [e] at e1 e2
    omega
theorem moveX_len {xs : List Nat} {c to : Int} {n : Nat} (hn : ofI xs c = some n) : (moveX xs c to).length = xs.length := by rw [moveX_eq hn]; simp
theorem moveX_ok {xs : List Nat} {c to : Int} (h : moveE xs c to = 0) : okP (moveX xs c to) = true := by
  obtain ⟨h1, h2, h3, n, h4, h5, h6, h7, h8, h9⟩ := move_facts h
  obtain ⟨l1, l2, -⟩ := (okP_iff xs).1 h1
  have hp := pow_lt_256 h8.2
  refine okP_same h1 (by rw [moveX_len h4]; exact l1) (fun u hu => ?_) (moveX_nP h)
  rw [moveX_eq h4] at hu
  rcases mem_set hu with hu | rfl
  · rcases mem_set hu with hu | rfl
    · exact l2 u hu
    · have hs := l2 _ (getD_mem h5)
      refine ⟨fun e => h7 ?_, Nat.lt_of_le_of_lt (dif_le _ _) hs.2⟩
      have := cnt_del _ hs.2 _ h8.2 h9
      rw [e] at this
      rw [← this]; decide
  · refine ⟨fun e => ?_, Nat.or_lt_two_pow (n := 8) (l2 _ (getD_mem h3)).2 hp⟩
    have := congrArg (fun n => n.testBit c.toNat) e
    simp [or_bits, testBit_pow] at this
theorem move_back {xs : List Nat} {c to : Int} (h : moveE xs c to = 0) : ofI (moveX xs c to) c = some to.toNat ∧ moveE (moveX xs c to) c (moveN xs c) = 0 ∧ moveX (moveX xs c to) c (moveN xs c) = xs := by
  obtain ⟨h1, h2, h3, n, h4, h5, h6, h7, h8, h9⟩ := move_facts h
  obtain ⟨l1, l2, -⟩ := (okP_iff xs).1 h1
  have hp := pow_lt_256 h8.2
  have hok := moveX_ok h
  have hlen := moveX_len (to := to) h4
  have hd := okP_disj h1 h5 h3 h6 h9
  have hb8 := l2 _ (getD_mem h3)
  have hE : moveN xs c = n := by rw [moveN, h4]; rfl
  have hX := moveX_eq (to := to) h4
  generalize hv2 : xs.getD to.toNat default ||| 2 ^ c.toNat = v2 at hX
  generalize hv1 : dif (xs.getD n default) (2 ^ c.toNat) = v1 at hX
  have gb : (moveX xs c to).getD to.toNat default = v2 := by rw [hX]; exact getD_set_self (by simpa using h3)
  have gn : (moveX xs c to).getD n default = v1 := by rw [hX, getD_set_other (Ne.symm h6)]; exact getD_set_self h5
  have d2 : dif v2 (2 ^ c.toNat) = xs.getD to.toNat default := by
    apply Nat.eq_of_testBit_eq; intro i
    rw [dif_bit, ← hv2, or_bits, testBit_pow]
    by_cases e : c.toNat = i
    · subst e; rw [hd]; simp
    · simp [e]
  have d1 : v1 ||| 2 ^ c.toNat = xs.getD n default := by
    apply Nat.eq_of_testBit_eq; intro i
    rw [or_bits, ← hv1, dif_bit, testBit_pow]
    by_cases e : c.toNat = i
    · subst e; rw [h9]; simp
    · simp [e]
  have t2 : v2.testBit c.toNat = true := by rw [← hv2, or_bits, testBit_pow]; simp
  have hof : ofI (moveX xs c to) c = some to.toNat := by
    refine ofI_some (by rw [hlen]; exact h3) ?_ fun j hj => ?_
    · rw [← getD_def, gb, hasB, t2]; simp; omega
    · rw [← getD_def, hX, getD_set_other (by omega)]
      by_cases e : n = j
      · subst e
        rw [getD_set_self h5, hasB, ← hv1, dif_bit, testBit_pow]; simp
      · rw [getD_set_other e, hasB, okP_disj h1 h5 (by omega) e h9]; simp
  refine ⟨hof, ?_, ?_⟩
  · rw [moveE, hok, hE, hof]
    have r1 : inR (moveX xs c to) n = true := decide_eq_true (by rw [hlen]; omega)
    rw [r1]
    simp only [Bool.true_eq_false, if_false]
    rw [if_neg (by omega), gb, if_neg]
    intro e
    have hv256 : v2 < 256 := by rw [← hv2]; exact Nat.or_lt_two_pow (n := 8) hb8.2 hp
    have := cnt_del v2 hv256 _ h8.2 t2
    rw [d2, e] at this
    exact hb8.1 ((cnt_zero _ hb8.2).1 (by omega))
  · rw [moveX_eq hof, hE, Int.toNat_natCast, gb, gn, d2, d1, hX]
    apply List.ext_getElem?
    intro i
    simp only [List.getElem?_set, List.length_set]
    by_cases e1 : n = i
    · subst e1
      simp [h5, List.getD]
    · by_cases e2 : to.toNat = i
      · subst e2
        simp [h6, h3, List.getD]
      · simp [e1, e2]
end Go.Proofs.Ytfhiaddbpacgeaa

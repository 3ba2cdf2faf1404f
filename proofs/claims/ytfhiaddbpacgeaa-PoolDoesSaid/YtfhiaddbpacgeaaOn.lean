/- Each pCPU is in one pool: plain facts, and the walk of the law's own look. No condition. -/
import Derived.Test.YtfhiaddbpacgeaaRu
import Derived.Test.YtfhiaddbpacgeaaWa
namespace Go.Proofs.Ytfhiaddbpacgeaa
open Go Go.Sy
set_option maxRecDepth 100000
set_option linter.unusedSimpArgs false
set_option linter.unusedVariables false

theorem fold_or_bit (c : Nat) (xs : List Nat) : (xs.foldl (fun a s => a ||| s) 0).testBit c = decide (0 < nP c xs) := by
  refine snoc_ind (p := fun xs => (xs.foldl (fun a s => a ||| s) 0).testBit c = decide (0 < nP c xs)) (by simp [nP]) (fun l s ih => ?_) xs
  rw [List.foldl_append, List.foldl_cons, List.foldl_nil, or_bits, ih, nP_snoc]
  cases s.testBit c <;> simp
theorem allV_bit {xs : List Nat} (h : okP xs = true) (c : Nat) : (allV xs).testBit c = decide (0 < nP c xs) := by
  rw [allV, if_pos h, fold_or_bit]
theorem allV_lt {xs : List Nat} (h : okP xs = true) : allV xs < 256 := by
  obtain ⟨-, -, m, hm, hm2⟩ := (okP_iff xs).1 h
  have : allV xs = 2 ^ m - 1 := by
    apply Nat.eq_of_testBit_eq; intro c
    rw [allV_bit h, Nat.testBit_two_pow_sub_one, hm2]
    split <;> simp_all
  rw [this]
  have := Nat.pow_le_pow_right (show 0 < 2 by decide) hm
  omega
theorem cnt_allV {xs : List Nat} (h : okP xs = true) : cnt (allV xs) = totP xs := by
  rw [cnt, bits_sum, tot_sum]
  have k : ∀ c, ((allV xs).testBit c).toNat = nP c xs := fun c => by
    rw [allV_bit h]
    have := okP_one h c
    by_cases e : 0 < nP c xs
    · rw [decide_eq_true e]; simp; omega
    · rw [decide_eq_false e]; simp; omega
  simp only [k]
theorem allV_same {xs ys : List Nat} (h : okP xs = true) (h2 : okP ys = true) (hn : ∀ c, nP c ys = nP c xs) : allV ys = allV xs := by
  apply Nat.eq_of_testBit_eq; intro c
  rw [allV_bit h, allV_bit h2, hn]
theorem nP_drop {c k : Nat} {l : List Nat} (h : k < l.length) : nP c (l.take k ++ l.drop (k + 1)) + ((l.getD k default).testBit c).toNat = nP c l := by
  have e : nP c l = nP c (l.take k) + (((l.getD k default).testBit c).toNat + nP c (l.drop (k + 1))) := by
    conv => lhs; rw [split_at h]
    rw [nP_app, nP_cons]
  rw [nP_app, e]
  omega
theorem join_facts {xs : List Nat} {p q : Int} (h : joinE xs p q = 0) : okP xs = true ∧ (0 ≤ p ∧ p.toNat < xs.length) ∧ (0 ≤ q ∧ q.toNat < xs.length) ∧ p.toNat ≠ q.toNat := by
  unfold joinE at h
  split at h
  · cases h
  rename_i h1
  split at h
  · cases h
  rename_i h2
  split at h
  · cases h
  rename_i h3
  rw [Bool.not_eq_false, Bool.and_eq_true] at h2
  have h4 : 0 ≤ p ∧ p < xs.length := by simpa [inR] using h2.1
  have h5 : 0 ≤ q ∧ q < xs.length := by simpa [inR] using h2.2
  exact ⟨by simpa using h1, ⟨h4.1, by omega⟩, ⟨h5.1, by omega⟩, by omega⟩
theorem joinX_nP {xs : List Nat} {p q : Int} (h : joinE xs p q = 0) (c : Nat) : nP c (joinX xs p q) = nP c xs := by
  obtain ⟨h1, h2, h3, h4⟩ := join_facts h
  rw [joinX]
  have e1 := nP_set (c := c) (v := xs.getD q.toNat default ||| xs.getD p.toNat default) h3.2
  have e2 := nP_drop (c := c) (k := p.toNat) (l := xs.set q.toNat (xs.getD q.toNat default ||| xs.getD p.toNat default)) (by simpa using h2.2)
  rw [getD_set_other (Ne.symm h4)] at e2
  rw [or_bits] at e1
  have hd := okP_disj (c := c) h1 h2.2 h3.2 h4
  generalize nP c ((xs.set q.toNat (xs.getD q.toNat default ||| xs.getD p.toNat default)).take p.toNat ++ (xs.set q.toNat (xs.getD q.toNat default ||| xs.getD p.toNat default)).drop (p.toNat + 1)) = A at e2 ⊢
  generalize nP c (xs.set q.toNat (xs.getD q.toNat default ||| xs.getD p.toNat default)) = B at e1 e2
  generalize nP c xs = C at e1 ⊢
  revert hd e1 e2
  cases (xs.getD p.toNat default).testBit c <;> cases (xs.getD q.toNat default).testBit c <;> simp <;> intros <;> omega
theorem joinX_ok {xs : List Nat} {p q : Int} (h : joinE xs p q = 0) : okP (joinX xs p q) = true := by
  obtain ⟨h1, h2, h3, h4⟩ := join_facts h
  obtain ⟨l1, l2, -⟩ := (okP_iff xs).1 h1
  have hq := l2 _ (getD_mem h3.2)
  have hp := l2 _ (getD_mem h2.2)
  refine okP_same h1 ?_ (fun u hu => ?_) (joinX_nP h)
  · rw [joinX, List.length_append, List.length_take, List.length_drop, List.length_set]
    omega
  · have hu : u ∈ xs.set q.toNat (xs.getD q.toNat default ||| xs.getD p.toNat default) := by
      rw [joinX, List.mem_append] at hu
      rcases hu with hu | hu
      · exact List.mem_of_mem_take hu
      · exact List.mem_of_mem_drop hu
    rcases mem_set hu with hu | rfl
    · exact l2 u hu
    · refine ⟨fun e => hq.1 ?_, Nat.or_lt_two_pow (n := 8) hq.2 hp.2⟩
      apply Nat.eq_of_testBit_eq; intro i
      have := congrArg (fun n => n.testBit i) e
      simp only [or_bits, Nat.zero_testBit, Bool.or_eq_false_iff] at this
      rw [this.1, Nat.zero_testBit]
theorem doX_facts {p : List Nat} {o : Od} (h : doE p o = 0) : okP p = true ∧ okP (doX p o) = true ∧ ∀ c, nP c (doX p o) = nP c p := by
  unfold doE at h
  unfold doX
  split at h
  · rename_i k
    rw [if_pos k]
    exact ⟨(split_facts h).1, splitX_ok h, splitX_nP h⟩
  · rename_i k
    rw [if_neg k]
    split at h
    · rename_i k2
      rw [if_pos k2]
      exact ⟨(join_facts h).1, joinX_ok h, joinX_nP h⟩
    · rename_i k2
      rw [if_neg k2]
      exact ⟨(move_facts h).1, moveX_ok h, moveX_nP h⟩
theorem okP_small {xs : List Nat} (h : okP xs = true) : u32s xs ∧ xs.length ≤ 4 := by
  obtain ⟨l1, l2, -⟩ := (okP_iff xs).1 h
  exact ⟨fun s hs => by have := (l2 s hs).2; omega, l1.2⟩
theorem ofI_own {xs : List Nat} (h : okP xs = true) {i : Nat} {c : Int} (hi : i < xs.length) (hb : hasB (xs.getD i default) c = true) : ofI xs c = some i := by
  refine ofI_some hi hb fun j hj => ?_
  simp only [hasB, Bool.and_eq_true, decide_eq_true_eq] at hb
  rw [← getD_def, hasB, okP_disj h hi (by omega) (by omega) hb.2, Bool.and_false]
theorem totP_tl (xs : List Nat) : totP xs ≤ 8 * xs.length := by
  refine snoc_ind (p := fun xs => totP xs ≤ 8 * xs.length) (by simp [totP]) (fun l s ih => ?_) xs
  have := bits_len s
  rw [totP_snoc, List.length_append, List.length_singleton]
  omega
end Go.Proofs.Ytfhiaddbpacgeaa

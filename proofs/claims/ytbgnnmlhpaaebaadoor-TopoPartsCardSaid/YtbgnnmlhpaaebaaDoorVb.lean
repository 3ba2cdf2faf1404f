/- Sockets part all; near ones are all, once, by rising distance: in plain words. No condition. -/
import Derived.Test.YtbgnnmlhpaaebaaDoorLf
import Derived.Test.YtbgnnmlhpaaebaaDoorCq
namespace Go.Proofs.YtbgnnmlhpaaebaaDoor
open Go Go.Sy
set_option maxRecDepth 100000
set_option linter.unusedSimpArgs false
set_option linter.unusedVariables false

def sockK (l : List Sea) (j : Nat) : Nat := qset (fun s => decide (s.1 = (j : Int))) l
def metK (l : List Sea) : Nat → Nat
  | 0 => 0
  | j + 1 => metK l j ||| sockK l j
theorem bits_ext {a b : Nat} (h : ∀ i, a.testBit i = b.testBit i) : a = b := Nat.eq_of_testBit_eq h
theorem metK_bit {l : List Sea} (ho : okTs l = true) (j i : Nat) : (metK l j).testBit i = (decide (i < l.length) && decide ((l.getD i default).1 < j)) := by
  induction j with
  | zero =>
    rw [metK, Nat.zero_testBit]
    by_cases hi : i < l.length
    · have := (okT_iff _).1 (((okTs_iff l).1 ho).1 _ (getD_mem hi))
      rw [decide_eq_false (show ¬ (l.getD i default).1 < ((0 : Nat) : Int) by omega), Bool.and_false]
    · rw [decide_eq_false hi, Bool.false_and]
  | succ j ih =>
    rw [metK, Nat.testBit_or, ih, sockK, qset, if_pos ho, setK_bit, ← Bool.and_or_distrib_left]
    congr 1
    rw [← Bool.decide_or, decide_eq_decide]
    omega
theorem met_and {l : List Sea} (ho : okTs l = true) (j : Nat) : metK l j &&& sockK l j = 0 := by
  apply bits_ext
  intro i
  rw [Nat.testBit_and, metK_bit ho, sockK, qset, if_pos ho, setK_bit, Nat.zero_testBit]
  by_cases hi : i < l.length
  · rw [decide_eq_true hi, Bool.true_and, Bool.true_and, ← Bool.decide_and, decide_eq_false_iff_not]
    omega
  · rw [decide_eq_false hi]; simp
theorem met_all {l : List Sea} (ho : okTs l = true) : metK l 4 = qset (fun _ => true) l := by
  apply bits_ext
  intro i
  rw [metK_bit ho, qset, if_pos ho, setK_bit]
  by_cases hi : i < l.length
  · have := (okT_iff _).1 (((okTs_iff l).1 ho).1 _ (getD_mem hi))
    rw [decide_eq_true (show (l.getD i default).1 < ((4 : Nat) : Int) by omega)]
  · rw [decide_eq_false hi]; simp
theorem metK_lt (l : List Sea) (j : Nat) : metK l j < 256 := by
  induction j with
  | zero => exact (by decide : 0 < 256)
  | succ j ih => rw [metK]; exact Nat.or_lt_two_pow (n := 8) ih (qset_lt _ l)
theorem pow_or : ∀ k : Nat, k < 8 → (2 ^ k - 1) ||| 2 ^ k = 2 ^ (k + 1) - 1 := by decide
theorem all_pow (l : List Sea) : ∀ k, k ≤ 8 → setK (fun _ => true) l k = 2 ^ k - 1
  | 0, _ => rfl
  | k + 1, h => by rw [setK, if_pos rfl, all_pow l k (by omega), pow_or k (by omega)]
theorem cnt_pow : ∀ k : Nat, k < 9 → cnt (2 ^ k - 1) = k := by decide
theorem cnt_all {l : List Sea} (ho : okTs l = true) : cnt (qset (fun _ => true) l) = l.length := by
  have h8 := ((okTs_iff l).1 ho).2.2
  rw [qset, if_pos ho, all_pow l _ h8, cnt_pow _ (by omega)]
/-- The near ones. -/
theorem far_bd (l : List Sea) (p : Nat) (c : Int) : 0 ≤ farK l p c ∧ farK l p c < 4 := by
  have := distN_bd l p c.toNat; rw [farK]; omega
theorem near_bkt (l : List Sea) (p s : Nat) : nearL l p s = bkt (farK l p) (bits (s &&& qset (fun _ => true) l)) 4 := by
  rw [nearL, sort_all fun c _ => far_bd l p c]
theorem near_mem (l : List Sea) (p s : Nat) (c : Int) : c ∈ nearL l p s ↔ c ∈ bits (s &&& qset (fun _ => true) l) := by
  rw [near_bkt]
  refine ⟨fun h => (bkt_mem h).1, fun h => ?_⟩
  have hb := far_bd l p c
  have hf : c ∈ (bkt (farK l p) (bits (s &&& qset (fun _ => true) l)) 4).filter fun x => decide (farK l p x = farK l p c) := by
    rw [bkt_filter _ _ _ _ hb.1, if_pos (by omega)]
    exact List.mem_filter.2 ⟨h, decide_eq_true rfl⟩
  exact (List.mem_filter.1 hf).1
theorem orL_bit (xs : List Int) (h : ∀ c ∈ xs, 0 ≤ c ∧ c < 8) (i : Nat) : (orL xs).testBit i = decide ((i : Int) ∈ xs) := by
  rw [← List.reverse_reverse xs] at h ⊢
  revert h
  induction xs.reverse with
  | nil => intro _; simp [orL]
  | cons x r ih =>
    intro h
    rw [List.reverse_cons] at h ⊢
    have hx := h x (by simp)
    obtain ⟨n, rfl⟩ : ∃ n : Nat, x = n := ⟨x.toNat, by omega⟩
    rw [orL_snoc, Nat.testBit_or, ih fun c hc => h c (List.mem_append_left _ hc), bitN_of (by omega), testBit_pow, ← Bool.decide_or, decide_eq_decide, List.mem_append, List.mem_singleton]
    exact or_congr Iff.rfl ⟨fun e => by rw [e], fun e => by omega⟩
theorem near_in {l : List Sea} (ho : okTs l = true) (p s : Nat) : ∀ c ∈ nearL l p s, 0 ≤ c ∧ c < l.length := fun _ hc => all_bits ho ((near_mem l p s _).1 hc)
theorem near_of {l : List Sea} (ho : okTs l = true) (p s : Nat) : ofE (nearL l p s) = 0 ∧ ofS (nearL l p s) = s &&& qset (fun _ => true) l := by
  have h8 := ((okTs_iff l).1 ho).2.2
  have hin := near_in ho p s
  have ha : allR (nearL l p s) = true := List.all_eq_true.2 fun c hc => decide_eq_true (by have := hin c hc; omega)
  rw [ofE, ofS, if_pos ha, if_pos ha]
  refine ⟨rfl, bits_ext fun i => ?_⟩
  rw [orL_bit _ fun c hc => by have := hin c hc; omega]
  have hm : s &&& qset (fun _ => true) l < 2 ^ 8 := Nat.and_lt_two_pow (n := 8) _ (qset_lt _ _)
  by_cases hi : i < 8
  · rw [show ((s &&& qset (fun _ => true) l).testBit i) = hasB (s &&& qset (fun _ => true) l) i from (hasB_nat hi).symm]
    by_cases hb : hasB (s &&& qset (fun _ => true) l) i = true
    · rw [hb, decide_eq_true]; exact (near_mem ..).2 (mem_bits.2 hb)
    · rw [Bool.eq_false_iff.2 hb, decide_eq_false]; exact fun h => hb (mem_bits.1 ((near_mem ..).1 h))
  · rw [Nat.testBit_lt_two_pow (Nat.lt_of_lt_of_le hm (Nat.pow_le_pow_right (by decide) (by omega))), decide_eq_false]
    intro h
    have := hin _ h
    omega
theorem near_len (l : List Sea) (p s : Nat) : (nearL l p s).length = cnt (s &&& qset (fun _ => true) l) := by
  rw [near_bkt, bkt_len fun c _ => far_bd l p c]; rfl
theorem near_rising (l : List Sea) (p s : Nat) : rising (farK l p) (nearL l p s) := by rw [near_bkt]; exact bkt_rising ..
theorem rising_at {D : Int → Int} {Z : List Int} (h : rising D Z) {i j : Nat} (hij : i < j) (hj : j < Z.length) : D (Z.getD i default) ≤ D (Z.getD j default) := by
  have := List.pairwise_iff_getElem.1 h i j (by omega) hj hij
  rwa [List.getD, List.getD, List.getElem?_eq_getElem (by omega), List.getElem?_eq_getElem hj]
theorem near_first {l : List Sea} (ho : okTs l = true) {p s : Nat} (hp : p < l.length) (hs : hasB s p = true) : 0 < (nearL l p s).length ∧ (nearL l p s).getD 0 default = p := by
  have h8 := ((okTs_iff l).1 ho).2.2
  have hmem : (p : Int) ∈ nearL l p s := by
    rw [near_mem, mem_bits, hasB_nat (by omega), Nat.testBit_and, qset, if_pos ho, setK_bit, decide_eq_true hp, ← hasB_nat (s := s) (by omega), hs]
    rfl
  have h0 : 0 < (nearL l p s).length := List.length_pos_of_mem hmem
  refine ⟨h0, ?_⟩
  have hp0 : farK l p p = 0 := by rw [farK, Int.toNat_natCast, distN, if_pos rfl]
  have hx := near_in ho p s _ (getD_mem h0)
  have hd : farK l p ((nearL l p s).getD 0 default) ≤ 0 := by
    obtain ⟨j, hj, e⟩ := List.getElem_of_mem hmem
    have e : (nearL l p s).getD j default = p := by rw [List.getD, List.getElem?_eq_getElem hj]; exact e
    by_cases h : j = 0
    · subst h; rw [e, hp0]; decide
    · have := rising_at (near_rising l p s) (i := 0) (j := j) (by omega) hj
      rwa [e, hp0] at this
  have h2 := far_bd l p ((nearL l p s).getD 0 default)
  have h3 : distN l p ((nearL l p s).getD 0 default).toNat = 0 := by rw [farK] at hd h2; omega
  have := (distN_zero _ _ _).1 h3
  omega
end Go.Proofs.YtbgnnmlhpaaebaaDoor

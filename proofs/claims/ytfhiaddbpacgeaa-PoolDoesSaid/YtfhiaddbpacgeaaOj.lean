/- What is done to pools, in plain words: they may be still, the same pCPUs are in them, and it leads back. No condition. -/
import Derived.Test.YtfhiaddbpacgeaaOi
namespace Go.Proofs.Ytfhiaddbpacgeaa
open Go Go.Sy
set_option maxRecDepth 100000
set_option linter.unusedSimpArgs false
set_option linter.unusedVariables false

theorem nP_app (c : Nat) (a b : List Nat) : nP c (a ++ b) = nP c a + nP c b := by rw [nP, List.countP_append]; rfl
theorem nP_one (c s : Nat) : nP c [s] = (s.testBit c).toNat := by
  rw [nP, List.countP_singleton]; cases s.testBit c <;> rfl
theorem split_at {α : Type} [Inhabited α] {l : List α} {k : Nat} (h : k < l.length) : l = l.take k ++ l.getD k default :: l.drop (k + 1) := by
  rw [← drop_getD h, List.take_append_drop]
theorem set_at {α : Type} {l : List α} {k : Nat} {v : α} (h : k < l.length) : l.set k v = l.take k ++ v :: l.drop (k + 1) := by
  rw [List.set_eq_take_append_cons_drop, if_pos h]
theorem nP_cons (c s : Nat) (l : List Nat) : nP c (s :: l) = (s.testBit c).toNat + nP c l := by
  rw [show s :: l = [s] ++ l from rfl, nP_app, nP_one]
theorem nP_set {c k v : Nat} {l : List Nat} (h : k < l.length) : nP c (l.set k v) + ((l.getD k default).testBit c).toNat = nP c l + (v.testBit c).toNat := by
  have e : nP c l = nP c (l.take k) + (((l.getD k default).testBit c).toNat + nP c (l.drop (k + 1))) := by
    conv => lhs; rw [split_at h]
    rw [nP_app, nP_cons]
  rw [set_at h, nP_app, nP_cons, e]
  omega
theorem getD_set_self {l : List Nat} {k v : Nat} (h : k < l.length) : (l.set k v).getD k default = v := by
  simp [List.getD, h]
theorem getD_set_other {l : List Nat} {k j v : Nat} (h : k ≠ j) : (l.set k v).getD j default = l.getD j default := by
  simp only [List.getD, List.getElem?_set, if_neg h]
theorem mem_set {l : List Nat} {k v x : Nat} (h : x ∈ l.set k v) : x ∈ l ∨ x = v := List.mem_or_eq_of_mem_set h
theorem or_bits (a b c : Nat) : ((a ||| b).testBit c) = (a.testBit c || b.testBit c) := Nat.testBit_or ..
/-- What is known of pools that may be: each pCPU is in one at most. -/
theorem okP_one {xs : List Nat} (h : okP xs = true) (c : Nat) : nP c xs ≤ 1 := by
  obtain ⟨-, -, m, -, hm⟩ := (okP_iff xs).1 h
  rw [hm]; split <;> omega
/-- Pools with the same pCPUs, none of them empty, no more than may be. -/
theorem okP_same {xs ys : List Nat} (h : okP xs = true) (hl : 1 ≤ ys.length ∧ ys.length ≤ 4) (hs : ∀ s ∈ ys, s ≠ 0 ∧ s < 256) (hn : ∀ c, nP c ys = nP c xs) : okP ys = true := by
  obtain ⟨-, -, m, hm, hm2⟩ := (okP_iff xs).1 h
  exact (okP_iff ys).2 ⟨hl, hs, m, hm, fun c => by rw [hn, hm2]⟩
theorem okP_disj {xs : List Nat} (h : okP xs = true) {i j c : Nat} (hi : i < xs.length) (hj : j < xs.length) (hij : i ≠ j) (hb : (xs.getD i default).testBit c = true) : (xs.getD j default).testBit c = false := by
  cases hb2 : (xs.getD j default).testBit c
  · rfl
  · exfalso
    have h1 := okP_one h c
    have e := nP_set (c := c) (v := 0) hi
    have e2 := nP_set (c := c) (k := j) (v := 0) (l := xs.set i 0) (by simpa using hj)
    rw [getD_set_other hij, hb2] at e2
    rw [hb] at e
    simp at e e2
    omega
/- Split -/
theorem sub_or {a s : Nat} (h : dif s a = 0) : dif a s ||| s = a := by
  apply Nat.eq_of_testBit_eq; intro i
  rw [or_bits, dif_bit]
  have := dif_zero.1 h i
  revert this
  cases a.testBit i <;> cases s.testBit i <;> simp
theorem sub_ne {a s : Nat} (h : dif s a = 0) (hne : s ≠ a) : dif a s ≠ 0 := by
  intro h2
  apply hne
  apply Nat.eq_of_testBit_eq; intro i
  have h3 := dif_zero.1 h i
  have h4 := dif_zero.1 h2 i
  revert h3 h4
  cases a.testBit i <;> cases s.testBit i <;> simp
theorem split_facts {xs : List Nat} {f : Int} {s : Nat} (h : splitE xs f s = 0) : okP xs = true ∧ 0 ≤ f ∧ f.toNat < xs.length ∧ s < 256 ∧ s ≠ 0 ∧ dif s (xs.getD f.toNat default) = 0 ∧ s ≠ xs.getD f.toNat default ∧ xs.length ≠ 4 := by
  unfold splitE at h
  split at h
  · cases h
  rename_i h1
  split at h
  · cases h
  rename_i h2
  split at h
  · cases h
  rename_i h3
  split at h
  · cases h
  rename_i h4
  split at h
  · cases h
  rename_i h5
  split at h
  · cases h
  rename_i h6
  have h2 : 0 ≤ f ∧ f < xs.length := by simpa [inR] using h2
  refine ⟨by simpa using h1, h2.1, by omega, by omega, fun e => h4 (Or.inl e), ?_, h5, h6⟩
  exact Decidable.byContradiction fun e => h4 (Or.inr e)
theorem splitX_nP {xs : List Nat} {f : Int} {s : Nat} (h : splitE xs f s = 0) (c : Nat) : nP c (splitX xs f s) = nP c xs := by
  obtain ⟨h1, h2, h3, h4, h5, h6, h7, h8⟩ := split_facts h
  have e := nP_set (c := c) (v := dif (xs.getD f.toNat default) s) h3
  rw [splitX, nP_app, nP_one]
  have hb := dif_zero.1 h6 c
  rw [dif_bit] at e
  revert hb e
  cases (xs.getD f.toNat default).testBit c <;> cases s.testBit c <;> simp <;> intros <;> omega
theorem splitX_ok {xs : List Nat} {f : Int} {s : Nat} (h : splitE xs f s = 0) : okP (splitX xs f s) = true := by
  obtain ⟨h1, h2, h3, h4, h5, h6, h7, h8⟩ := split_facts h
  obtain ⟨l1, l2, -⟩ := (okP_iff xs).1 h1
  refine okP_same h1 (by simp [splitX]; omega) (fun u hu => ?_) (splitX_nP h)
  rw [splitX, List.mem_append, List.mem_singleton] at hu
  rcases hu with hu | rfl
  · rcases mem_set hu with hu | rfl
    · exact l2 u hu
    · exact ⟨sub_ne h6 h7, Nat.lt_of_le_of_lt (dif_le _ _) (l2 _ (getD_mem h3)).2⟩
  · exact ⟨h5, h4⟩
/-- Split and joined again. -/
theorem split_back {xs : List Nat} {f : Int} {s : Nat} (h : splitE xs f s = 0) : joinE (splitX xs f s) xs.length f = 0 ∧ joinX (splitX xs f s) xs.length f = xs ∧ setV (splitX xs f s) xs.length = s := by
  obtain ⟨h1, h2, h3, h4, h5, h6, h7, h8⟩ := split_facts h
  have hok := splitX_ok h
  have hlen : (splitX xs f s).length = xs.length + 1 := by simp [splitX]
  have r1 : inR (splitX xs f s) xs.length = true := decide_eq_true (by rw [hlen]; omega)
  have r2 : inR (splitX xs f s) f = true := decide_eq_true (by rw [hlen]; omega)
  have g1 : (splitX xs f s).getD xs.length default = s := by simp [splitX, List.getD]
  have g2 : (splitX xs f s).getD f.toNat default = dif (xs.getD f.toNat default) s := by
    rw [splitX]
    simp only [List.getD]
    rw [List.getElem?_append_left (by simpa using h3)]
    simp [h3, List.getD]
  refine ⟨?_, ?_, ?_⟩
  · rw [joinE, hok, r1, r2]
    simp only [Bool.true_eq_false, if_false, Bool.and_self]
    rw [if_neg (by omega)]
  · rw [joinX, Int.toNat_natCast, g1, g2, sub_or h6]
    rw [splitX, List.set_append_left _ _ (by simpa using h3), List.set_set, show (xs.set f.toNat (xs.getD f.toNat default)) = xs by
      rw [set_at h3, ← split_at h3]]
    simp
  · rw [setV, if_pos ⟨hok, r1⟩, Int.toNat_natCast, g1]
end Go.Proofs.Ytfhiaddbpacgeaa

/- Pools that may be, in both ways of saying it. No condition. -/
import Derived.Test.YtfhiaddbpacgeaaOa
namespace Go.Proofs.Ytfhiaddbpacgeaa
open Go Go.Sy
set_option maxRecDepth 100000
set_option linter.unusedSimpArgs false
set_option linter.unusedVariables false

/-- How many have a pCPU. -/
def nP (c : Nat) (xs : List Nat) : Nat := xs.countP fun s => s.testBit c
def totP (xs : List Nat) : Nat := xs.foldl (fun n s => n + (bits s).length) 0
theorem totP_snoc (xs : List Nat) (s : Nat) : totP (xs ++ [s]) = totP xs + (bits s).length := by simp [totP, List.foldl_append]
theorem nP_snoc (c : Nat) (xs : List Nat) (s : Nat) : nP c (xs ++ [s]) = nP c xs + (s.testBit c).toNat := by
  rw [nP, nP, List.countP_append, List.countP_singleton]
  cases s.testBit c <;> rfl
theorem bits_sum (s : Nat) : (bits s).length = (s.testBit 0).toNat + (s.testBit 1).toNat + (s.testBit 2).toNat + (s.testBit 3).toNat + (s.testBit 4).toNat + (s.testBit 5).toNat + (s.testBit 6).toNat + (s.testBit 7).toNat := by
  rw [bits, List.length_map, ← List.countP_eq_length_filter, show List.range 8 = [0, 1, 2, 3, 4, 5, 6, 7] from rfl]
  simp only [List.countP_cons, List.countP_nil]
  generalize s.testBit 0 = b0
  generalize s.testBit 1 = b1
  generalize s.testBit 2 = b2
  generalize s.testBit 3 = b3
  generalize s.testBit 4 = b4
  generalize s.testBit 5 = b5
  generalize s.testBit 6 = b6
  generalize s.testBit 7 = b7
  revert b0 b1 b2 b3 b4 b5 b6 b7
  decide
theorem snoc_ind {α : Type} {p : List α → Prop} (h0 : p []) (h : ∀ l a, p l → p (l ++ [a])) (l : List α) : p l := by
  have : ∀ n (l : List α), l.length = n → p l := by
    intro n
    induction n with
    | zero => intro l hl; rw [List.eq_nil_of_length_eq_zero hl]; exact h0
    | succ n ih =>
      intro l hl
      rcases List.eq_nil_or_concat l with rfl | ⟨m, a, rfl⟩
      · exact h0
      · rw [List.concat_eq_append] at hl ⊢
        exact h m a (ih m (by simpa using hl))
  exact this _ l rfl
theorem tot_sum (xs : List Nat) : totP xs = nP 0 xs + nP 1 xs + nP 2 xs + nP 3 xs + nP 4 xs + nP 5 xs + nP 6 xs + nP 7 xs := by
  refine snoc_ind (p := fun xs => totP xs = nP 0 xs + nP 1 xs + nP 2 xs + nP 3 xs + nP 4 xs + nP 5 xs + nP 6 xs + nP 7 xs) rfl (fun l s ih => ?_) xs
  have := bits_sum s
  simp only [totP_snoc, nP_snoc]
  omega
theorem fo_bit (b : Bool) (c : Nat) (xs : List Nat) : (xs.foldl goP (b, 0)).2.testBit c = decide (0 < nP c xs) := by
  refine snoc_ind (p := fun xs => (xs.foldl goP (b, 0)).2.testBit c = decide (0 < nP c xs)) (by simp [nP]) (fun l s ih => ?_) xs
  rw [List.foldl_append, List.foldl_cons, List.foldl_nil, goP, Nat.testBit_or, ih, nP_snoc]
  cases s.testBit c
  · simp
  · simp
theorem and_zero {a b : Nat} : a &&& b = 0 ↔ ∀ i, a.testBit i = true → b.testBit i = false := by
  constructor
  · intro h i hi
    have := congrArg (fun n => n.testBit i) h
    simpa [Nat.testBit_and, hi] using this
  · intro h
    apply Nat.eq_of_testBit_eq; intro i
    rw [Nat.testBit_and, Nat.zero_testBit]
    cases ha : a.testBit i
    · rfl
    · rw [h i ha]; rfl
theorem bit_hi {s : Nat} (hs : s < 256) {c : Nat} (hc : 8 ≤ c) : s.testBit c = false :=
  Nat.testBit_lt_two_pow (Nat.lt_of_lt_of_le hs (show 2 ^ 8 ≤ 2 ^ c from Nat.pow_le_pow_right (by decide) hc))
theorem fo_ok (b : Bool) (xs : List Nat) : (xs.foldl goP (b, 0)).1 = true ↔ b = true ∧ (∀ s ∈ xs, s ≠ 0 ∧ s < 256) ∧ ∀ c, nP c xs ≤ 1 := by
  refine snoc_ind (p := fun xs => (xs.foldl goP (b, 0)).1 = true ↔ b = true ∧ (∀ s ∈ xs, s ≠ 0 ∧ s < 256) ∧ ∀ c, nP c xs ≤ 1) (by simp [nP]) (fun l s ih => ?_) xs
  rw [List.foldl_append, List.foldl_cons, List.foldl_nil, goP]
  simp only [Bool.and_eq_true, decide_eq_true_eq, ih, and_zero, fo_bit, nP_snoc, List.mem_append, List.mem_singleton, decide_eq_false_iff_not]
  constructor
  · rintro ⟨⟨⟨⟨h1, h2, h3⟩, h4⟩, h5⟩, h6⟩
    refine ⟨h1, ?_, fun c => ?_⟩
    · rintro u (hu | rfl)
      · exact h2 u hu
      · exact ⟨h4, h5⟩
    · have := h3 c
      cases hb : s.testBit c
      · simpa using this
      · have := h6 c hb
        simp; omega
  · rintro ⟨h1, h2, h3⟩
    have hs := h2 s (Or.inr rfl)
    refine ⟨⟨⟨⟨h1, fun u hu => h2 u (Or.inl hu), fun c => by have := h3 c; omega⟩, hs.1⟩, hs.2⟩, fun c hc => ?_⟩
    have := h3 c
    rw [hc] at this
    simp at this; omega
def cntH (xs : List Nat) (c : Int) : Nat := xs.countP fun s => hasB s c
theorem cntH_nat (xs : List Nat) (c : Nat) : cntH xs c = if c < 8 then nP c xs else 0 := by
  unfold cntH nP
  split
  · rename_i h
    congr 1; funext s; exact hasB_nat h
  · rename_i h
    rw [List.countP_eq_zero]
    intro s _
    simp only [hasB, Bool.and_eq_true, decide_eq_true_eq]
    omega
/-- May pools be, as the document says? -/
def rightP (xs : List Nat) : Bool := decide (1 ≤ xs.length ∧ xs.length ≤ 4) && xs.all (fun s => decide (s < 256) && decide (s ≠ 0)) && (List.range (totP xs)).all (fun c => decide (cntH xs c = 1))
theorem low_bits : ∀ U, U < 256 → U &&& (U + 1) = 0 → ∃ m, m ≤ 8 ∧ U = 2 ^ m - 1 := by decide +kernel
theorem low_and : ∀ m, m ≤ 8 → (2 ^ m - 1) &&& (2 ^ m - 1 + 1) = 0 := by decide +kernel
theorem fo_lt (b : Bool) (xs : List Nat) (h : (xs.foldl goP (b, 0)).1 = true) (hx : ∀ s ∈ xs, s < 256) : (xs.foldl goP (b, 0)).2 < 256 := (goP_bd xs b 0 (fun s hs => by have := hx s hs; omega) (by omega) (fun _ => by omega)).2 h
/-- What is known of pools that may be. -/
theorem okP_iff (xs : List Nat) : okP xs = true ↔ (1 ≤ xs.length ∧ xs.length ≤ 4) ∧ (∀ s ∈ xs, s ≠ 0 ∧ s < 256) ∧ ∃ m, m ≤ 8 ∧ ∀ c, nP c xs = if c < m then 1 else 0 := by
  have hb := fun c => fo_bit (decide (1 ≤ xs.length ∧ xs.length ≤ 4)) c xs
  have ho := fo_ok (decide (1 ≤ xs.length ∧ xs.length ≤ 4)) xs
  have hl := fo_lt (decide (1 ≤ xs.length ∧ xs.length ≤ 4)) xs
  rw [okP, Bool.and_eq_true, decide_eq_true_eq]
  change (xs.foldl goP (decide (1 ≤ xs.length ∧ xs.length ≤ 4), 0)).1 = true ∧ (xs.foldl goP (decide (1 ≤ xs.length ∧ xs.length ≤ 4), 0)).2 &&& ((xs.foldl goP (decide (1 ≤ xs.length ∧ xs.length ≤ 4), 0)).2 + 1) = 0 ↔ _
  generalize xs.foldl goP (decide (1 ≤ xs.length ∧ xs.length ≤ 4), 0) = r at hb ho hl
  obtain ⟨r, U⟩ := r
  dsimp only at hb ho hl ⊢
  rw [decide_eq_true_eq] at ho
  constructor
  · rintro ⟨h1, h2⟩
    obtain ⟨h3, h4, h5⟩ := ho.1 h1
    obtain ⟨m, hm, rfl⟩ := low_bits U (hl h1 fun s hs => (h4 s hs).2) h2
    refine ⟨h3, h4, m, hm, fun c => ?_⟩
    have h6 := hb c
    rw [Nat.testBit_two_pow_sub_one] at h6
    have h7 : c < m ↔ 0 < nP c xs := by simpa using h6
    have := h5 c
    split <;> omega
  · rintro ⟨h3, h4, m, hm, h5⟩
    have h1 : r = true := ho.2 ⟨h3, h4, fun c => by rw [h5 c]; split <;> omega⟩
    refine ⟨h1, ?_⟩
    have : U = 2 ^ m - 1 := by
      apply Nat.eq_of_testBit_eq; intro c
      rw [hb c, Nat.testBit_two_pow_sub_one, h5 c]
      split <;> simp_all
    rw [this]; exact low_and m hm
theorem rightP_iff (xs : List Nat) : rightP xs = true ↔ (1 ≤ xs.length ∧ xs.length ≤ 4) ∧ (∀ s ∈ xs, s ≠ 0 ∧ s < 256) ∧ ∃ m, m ≤ 8 ∧ ∀ c, nP c xs = if c < m then 1 else 0 := by
  simp only [rightP, Bool.and_eq_true, decide_eq_true_eq, List.all_eq_true, List.mem_range]
  have ht := tot_sum xs
  constructor
  · rintro ⟨⟨h1, h2⟩, h3⟩
    have h2' : ∀ s ∈ xs, s ≠ 0 ∧ s < 256 := fun s hs => ⟨(h2 s hs).2, (h2 s hs).1⟩
    have h4 : ∀ c, c < totP xs → c < 8 ∧ nP c xs = 1 := fun c hc => by
      have := h3 c hc
      rw [cntH_nat] at this
      split at this
      · exact ⟨by assumption, this⟩
      · cases this
    have h5 : totP xs ≤ 8 := by
      by_cases h : 8 < totP xs
      · exact absurd (h4 8 h).1 (by omega)
      · omega
    have hi : ∀ c, 8 ≤ c → nP c xs = 0 := fun c hc => by
      rw [nP, List.countP_eq_zero]
      intro s hs
      rw [bit_hi (h2 s hs).1 hc]; simp
    refine ⟨h1, h2', totP xs, h5, fun c => ?_⟩
    by_cases hc : c < totP xs
    · rw [if_pos hc]; exact (h4 c hc).2
    · rw [if_neg hc]
      by_cases h8 : 8 ≤ c
      · exact hi c h8
      · have g0 := fun h => (h4 0 h).2
        have g1 := fun h => (h4 1 h).2
        have g2 := fun h => (h4 2 h).2
        have g3 := fun h => (h4 3 h).2
        have g4 := fun h => (h4 4 h).2
        have g5 := fun h => (h4 5 h).2
        have g6 := fun h => (h4 6 h).2
        have g7 := fun h => (h4 7 h).2
        have : c = 0 ∨ c = 1 ∨ c = 2 ∨ c = 3 ∨ c = 4 ∨ c = 5 ∨ c = 6 ∨ c = 7 := by omega
        rcases this with rfl | rfl | rfl | rfl | rfl | rfl | rfl | rfl <;> omega
  · rintro ⟨h1, h2, m, hm, h3⟩
    have : totP xs = m := by
      have g := fun c => h3 c
      rw [ht, g 0, g 1, g 2, g 3, g 4, g 5, g 6, g 7]
      have : m = 0 ∨ m = 1 ∨ m = 2 ∨ m = 3 ∨ m = 4 ∨ m = 5 ∨ m = 6 ∨ m = 7 ∨ m = 8 := by omega
      rcases this with rfl | rfl | rfl | rfl | rfl | rfl | rfl | rfl | rfl <;> rfl
    refine ⟨⟨h1, fun s hs => ⟨(h2 s hs).2, (h2 s hs).1⟩⟩, fun c hc => ?_⟩
    rw [cntH_nat, if_pos (by omega), h3, if_pos (by omega)]
theorem right_ok (xs : List Nat) : rightP xs = okP xs := by
  rw [Bool.eq_iff_iff, rightP_iff, okP_iff]
theorem cntH_le {xs : List Nat} (h : okP xs = true) (c : Int) : cntH xs c ≤ 1 := by
  obtain ⟨-, -, m, -, hm⟩ := (okP_iff xs).1 h
  by_cases hc : 0 ≤ c
  · obtain ⟨n, rfl⟩ := Int.eq_ofNat_of_zero_le hc
    rw [cntH_nat]
    split
    · rw [hm]; split <;> omega
    · omega
  · rw [cntH, List.countP_eq_zero.2]
    · omega
    · intro s _; simp [hasB]; omega

/- which pool a pCPU is in -/
def rofS (xs : List Nat) (c : Int) : Nat → Nat × Nat
  | 0 => (0, 0)
  | k + 1 => if hasB (xs.getD k 0) c = true then (k, (rofS xs c k).2 + 1) else rofS xs c k
theorem rofS_cnt (xs : List Nat) (c : Int) : ∀ k, k ≤ xs.length → (rofS xs c k).2 = cntH (xs.take k) c
  | 0, _ => rfl
  | k + 1, h => by
    have ht := take_getD (l := xs) (k := k) (by omega)
    rw [rofS, ht, cntH, List.countP_append, List.countP_singleton, getD_def]
    have ih := rofS_cnt xs c k (by omega)
    rw [cntH] at ih
    split <;> simp_all
theorem rofS_le (xs : List Nat) (c : Int) : ∀ k, (rofS xs c k).2 ≤ k ∧ ((rofS xs c k).1 ≤ k)
  | 0 => ⟨Nat.le_refl _, Nat.le_refl _⟩
  | k + 1 => by
    have ih := rofS_le xs c k
    rw [rofS]
    split <;> constructor <;> (try dsimp only) <;> omega
theorem rofS_none (xs : List Nat) (c : Int) : ∀ k, (rofS xs c k).2 = 0 → ∀ j, j < k → hasB (xs.getD j 0) c = false
  | 0, _, j, hj => by omega
  | k + 1, h, j, hj => by
    rw [rofS] at h
    split at h
    · cases h
    · rename_i hh
      by_cases e : j = k
      · rw [e]; simpa using hh
      · exact rofS_none xs c k h j (by omega)
theorem rofS_one (xs : List Nat) (c : Int) : ∀ k, (rofS xs c k).2 = 1 → (rofS xs c k).1 < k ∧ hasB (xs.getD (rofS xs c k).1 0) c = true ∧ ∀ j, j < (rofS xs c k).1 → hasB (xs.getD j 0) c = false
  | 0, h => by cases h
  | k + 1, h => by
    rw [rofS] at h ⊢
    split at h
    · rename_i hh
      rw [if_pos hh]
      exact ⟨by dsimp only; omega, hh, rofS_none xs c k (by simpa using h)⟩
    · rename_i hh
      rw [if_neg hh]
      have ih := rofS_one xs c k h
      exact ⟨by omega, ih.2⟩
/-- The first one that has it. -/
def ofI (xs : List Nat) (c : Int) : Option Nat := xs.findIdx? fun s => hasB s c
theorem ofI_some {xs : List Nat} {c : Int} {k : Nat} (hk : k < xs.length) (h : hasB (xs.getD k 0) c = true) (hb : ∀ j, j < k → hasB (xs.getD j 0) c = false) : ofI xs c = some k := by
  rw [ofI, List.findIdx?_eq_some_iff_getElem]
  refine ⟨hk, by rwa [List.getD, List.getElem?_eq_getElem hk] at h, fun j hj => ?_⟩
  have := hb j hj
  rw [List.getD, List.getElem?_eq_getElem (by omega)] at this
  simpa using this
theorem ofI_none {xs : List Nat} {c : Int} (hb : ∀ j, j < xs.length → hasB (xs.getD j 0) c = false) : ofI xs c = none := by
  rw [ofI, List.findIdx?_eq_none_iff]
  intro s hs
  obtain ⟨j, hj, rfl⟩ := List.mem_iff_getElem.1 hs
  have := hb j hj
  rwa [List.getD, List.getElem?_eq_getElem hj] at this
def rofV (xs : List Nat) (c : Int) : Int × Bool := if (rofS xs c xs.length).2 = 1 then ((rofS xs c xs.length).1, true) else (0, false)
def ofV (xs : List Nat) (c : Int) : Int × Bool := if okP xs = true then (match ofI xs c with | some i => ((i : Int), true) | none => (0, false)) else (0, false)
theorem of_rof {xs : List Nat} (h : okP xs = true) (c : Int) : ofV xs c = rofV xs c := by
  have h1 := cntH_le h c
  have h2 := rofS_cnt xs c xs.length (Nat.le_refl _)
  rw [List.take_length] at h2
  rw [ofV, if_pos h, rofV]
  by_cases h3 : (rofS xs c xs.length).2 = 1
  · obtain ⟨g1, g2, g3⟩ := rofS_one xs c _ h3
    rw [if_pos h3, ofI_some g1 g2 g3]
  · rw [if_neg h3, ofI_none (rofS_none xs c _ (by omega))]
theorem ofI_lt {xs : List Nat} {c : Int} {i : Nat} (h : ofI xs c = some i) : i < xs.length ∧ hasB (xs.getD i 0) c = true := by
  rw [ofI, List.findIdx?_eq_some_iff_getElem] at h
  obtain ⟨h1, h2, -⟩ := h
  exact ⟨h1, by rwa [List.getD, List.getElem?_eq_getElem h1]⟩
end Go.Proofs.Ytfhiaddbpacgeaa

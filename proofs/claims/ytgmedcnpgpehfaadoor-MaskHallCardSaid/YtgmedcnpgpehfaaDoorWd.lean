/- Hall's theorem for rows of masks. No condition. -/
import Derived.Test.YtgmedcnpgpehfaaDoorWc
namespace Go.Proofs.YtgmedcnpgpehfaaDoor
open Go Go.Sy
set_option maxRecDepth 100000
set_option linter.unusedSimpArgs false
set_option linter.unusedVariables false

/-- How many masks a row of them has; what they allow together. -/
def nK : List Msk → Nat → Nat
  | [], _ => 0
  | _ :: l, k => k % 2 + nK l (k / 2)
def aK : List Msk → Nat → Nat → Nat
  | [], _, _ => 0
  | m :: l, s, k => (if k % 2 = 1 then alw m s else 0) ||| aK l s (k / 2)
def Hall (l : List Msk) (s : Nat) : Prop := ∀ k, k < 2 ^ l.length → nK l k ≤ cnt (aK l s k)
theorem aK_lt : ∀ (l : List Msk) (s k : Nat), aK l s k < 256
  | [], _, _ => by simp [aK]
  | m :: l, s, k => by
    rw [aK]
    refine Nat.or_lt_two_pow (n := 8) ?_ (aK_lt l s (k / 2))
    split
    · exact alw_lt m s
    · decide
theorem nK_zero : ∀ l : List Msk, nK l 0 = 0
  | [] => rfl
  | m :: l => by rw [nK, nK_zero l]
theorem aK_zero : ∀ (l : List Msk) (s : Nat), aK l s 0 = 0
  | [], _ => rfl
  | m :: l, s => by rw [aK, aK_zero l]; simp
theorem countP_or (p q : Nat → Bool) : ∀ l : List Nat, l.countP (fun i => p i || q i) + l.countP (fun i => p i && q i) = l.countP p + l.countP q
  | [] => rfl
  | a :: l => by
    have := countP_or p q l
    simp only [List.countP_cons]
    cases p a <;> cases q a <;> simp <;> omega
theorem cnt_or_and (a b : Nat) : cnt (a ||| b) + cnt (a &&& b) = cnt a + cnt b := by
  simp only [cnt, bits, List.length_map, ← List.countP_eq_length_filter, Nat.testBit_or, Nat.testBit_and]
  exact countP_or _ _ _
theorem odd_or (a b : Nat) : (a ||| b) % 2 = 1 ↔ a % 2 = 1 ∨ b % 2 = 1 := by
  have e := Nat.testBit_or a b 0
  simp only [Nat.testBit_zero] at e
  rw [← decide_eq_true_iff (p := (a ||| b) % 2 = 1), e, Bool.or_eq_true, decide_eq_true_iff, decide_eq_true_iff]
theorem odd_and (a b : Nat) : (a &&& b) % 2 = 1 ↔ a % 2 = 1 ∧ b % 2 = 1 := by
  have e := Nat.testBit_and a b 0
  simp only [Nat.testBit_zero] at e
  rw [← decide_eq_true_iff (p := (a &&& b) % 2 = 1), e, Bool.and_eq_true, decide_eq_true_iff, decide_eq_true_iff]
theorem nK_or : ∀ (l : List Msk) (a b : Nat), nK l (a ||| b) + nK l (a &&& b) = nK l a + nK l b
  | [], _, _ => rfl
  | m :: l, a, b => by
    have h := nK_or l (a / 2) (b / 2)
    have h1 : (a ||| b) % 2 + (a &&& b) % 2 = a % 2 + b % 2 := by
      have e1 := odd_or a b
      have e2 := odd_and a b
      omega
    simp only [nK, Nat.or_div_two, Nat.and_div_two]
    omega
theorem aK_or : ∀ (l : List Msk) (s a b : Nat), aK l s (a ||| b) = aK l s a ||| aK l s b
  | [], _, _, _ => by simp [aK]
  | m :: l, s, a, b => by
    have h := aK_or l s (a / 2) (b / 2)
    have e1 := odd_or a b
    simp only [aK, Nat.or_div_two, h]
    refine Nat.eq_of_testBit_eq fun i => ?_
    simp only [Nat.testBit_or]
    by_cases c1 : a % 2 = 1 <;> by_cases c2 : b % 2 = 1 <;> simp only [c1, c2, true_or, or_true, or_self, iff_true, iff_false] at e1 <;> simp only [e1, c1, c2, if_true, if_false, Nat.zero_testBit] <;> (cases (alw m s).testBit i <;> cases (aK l s (a / 2)).testBit i <;> cases (aK l s (b / 2)).testBit i <;> simp)
theorem aK_and : ∀ (l : List Msk) (s a b : Nat), sub (aK l s (a &&& b)) (aK l s a &&& aK l s b)
  | [], _, _, _ => fun i h => by simp [aK] at h
  | m :: l, s, a, b => fun i h => by
    have ih := aK_and l s (a / 2) (b / 2) i
    have e1 := odd_and a b
    simp only [aK, Nat.and_div_two, Nat.testBit_or, Nat.testBit_and, Bool.or_eq_true, Bool.and_eq_true] at h ih ⊢
    rcases h with h | h
    · by_cases c : a % 2 = 1 ∧ b % 2 = 1
      · rw [if_pos c.1, if_pos c.2]
        rw [if_pos (e1.2 c)] at h
        exact ⟨Or.inl h, Or.inl h⟩
      · rw [if_neg (fun q => c (e1.1 q)), Nat.zero_testBit] at h
        cases h
    · exact ⟨Or.inr (ih h).1, Or.inr (ih h).2⟩
/-- Rows that are just full, together, are just full. -/
theorem tight_or {l : List Msk} {s a b : Nat} (h : Hall l s) (hl : a < 2 ^ l.length) (ha : cnt (aK l s a) = nK l a) (hb : cnt (aK l s b) = nK l b) (hlb : b < 2 ^ l.length) : cnt (aK l s (a ||| b)) = nK l (a ||| b) := by
  have h1 := cnt_or_and (aK l s a) (aK l s b)
  have h2 := nK_or l a b
  have h3 := cnt_sub (aK_and l s a b)
  have h4 := h (a &&& b) (Nat.lt_of_le_of_lt Nat.and_le_left hl)
  have h5 := h (a ||| b) (Nat.or_lt_two_pow hl hlb)
  rw [aK_or] at h5 ⊢
  omega
theorem aK_del {l : List Msk} (hl : l.all okM = true) {s : Nat} (hs : s < 256) (c : Nat) (k : Nat) : aK l (dif s (2 ^ c)) k = dif (aK l s k) (2 ^ c) := by
  induction l generalizing k with
  | nil => simp [aK, dif]
  | cons m l ih =>
    simp only [List.all_cons, Bool.and_eq_true] at hl
    have hd := Nat.lt_of_le_of_lt (dif_le s (2 ^ c)) hs
    rw [aK, aK, ih hl.2]
    refine Nat.eq_of_testBit_eq fun i => ?_
    simp only [Nat.testBit_or, dif_bit]
    split
    · rw [alw_bit hl.1 hd, alw_bit hl.1 hs, dif_bit]
      cases m.1.testBit i <;> cases s.testBit i <;> cases (aK l s (k / 2)).testBit i <;> cases (2 ^ c).testBit i <;> rfl
    · simp
/-- While no row has too few, there is a choice. -/
theorem hall_most : ∀ {l : List Msk} {s : Nat}, l.all okM = true → s < 256 → Hall l s → mostN l s = l.length
  | [], _, _, _, _ => by simp [mostN]
  | m :: l, s, hl, hs, h => by
    simp only [List.all_cons, Bool.and_eq_true] at hl
    have hr : Hall l s := fun k hk => by
      have := h (2 * k) (by rw [List.length_cons, Nat.pow_succ]; omega)
      rw [nK, aK] at this
      have e1 : 2 * k % 2 = 0 := by omega
      have e2 : 2 * k / 2 = k := by omega
      rw [e1, e2] at this
      simpa using this
    have hm : ∀ k, k < 2 ^ l.length → nK l k + 1 ≤ cnt (alw m s ||| aK l s k) := fun k hk => by
      have := h (2 * k + 1) (by rw [List.length_cons, Nat.pow_succ]; omega)
      rw [nK, aK] at this
      have e1 : (2 * k + 1) % 2 = 1 := by omega
      have e2 : (2 * k + 1) / 2 = k := by omega
      rw [e1, e2, if_pos rfl] at this
      omega
    by_cases hq : ∃ c ∈ bits (alw m s), Hall l (dif s (2 ^ c.toNat))
    · obtain ⟨c, hc, hc2⟩ := hq
      have h1 := hall_most hl.2 (Nat.lt_of_le_of_lt (dif_le s (2 ^ c.toNat)) hs) hc2
      have h2 := most_take (l := l) hc
      have h3 := mostN_le (m :: l) s
      rw [List.length_cons] at h3 ⊢
      omega
    · exfalso
      have hall : ∀ cs : List Int, (∀ c ∈ cs, c ∈ bits (alw m s)) → ∃ k, k < 2 ^ l.length ∧ cnt (aK l s k) = nK l k ∧ ∀ c ∈ cs, (aK l s k).testBit c.toNat = true := by
        intro cs
        induction cs with
        | nil => exact fun _ => ⟨0, Nat.pos_of_ne_zero (by simp), by rw [aK_zero, nK_zero]; rfl, by simp⟩
        | cons c cs ih =>
          intro hcs
          obtain ⟨a, a1, a2, a3⟩ := ih fun x hx => hcs x (by simp [hx])
          have hc := hcs c (by simp)
          have : ¬ Hall l (dif s (2 ^ c.toNat)) := fun h => hq ⟨c, hc, h⟩
          simp only [Hall, Classical.not_forall] at this
          obtain ⟨b, b1, b2⟩ := this
          rw [aK_del hl.2 hs] at b2
          have b3 := hr b b1
          have hbc := bits_bd hc
          have b4 : (aK l s b).testBit c.toNat = true := by
            cases e : (aK l s b).testBit c.toNat with
            | true => rfl
            | false =>
              have : dif (aK l s b) (2 ^ c.toNat) = aK l s b := Nat.eq_of_testBit_eq fun i => by
                rw [dif_bit, Nat.testBit_two_pow]
                by_cases e2 : c.toNat = i
                · subst e2; rw [e]; rfl
                · simp [e2]
              rw [this] at b2
              omega
          have b5 := cnt_del _ (aK_lt l s b) c.toNat (by omega) b4
          refine ⟨a ||| b, Nat.or_lt_two_pow a1 b1, tight_or hr a1 a2 (by omega) b1, fun x hx => ?_⟩
          rw [aK_or, Nat.testBit_or]
          rcases List.mem_cons.1 hx with rfl | hx
          · rw [b4, Bool.or_true]
          · rw [a3 x hx, Bool.true_or]
      obtain ⟨k, k1, k2, k3⟩ := hall (bits (alw m s)) fun _ h => h
      have h1 := hm k k1
      have h2 : cnt (alw m s ||| aK l s k) ≤ cnt (aK l s k) := by
        simp only [cnt, bits, List.length_map, ← List.countP_eq_length_filter]
        refine List.countP_mono_left fun i hi hb => ?_
        rw [Nat.testBit_or, Bool.or_eq_true] at hb
        rcases hb with hb | hb
        · have := k3 i (mem_bits.2 (by rw [hasB_nat (List.mem_range.1 hi)]; exact hb))
          rwa [Int.toNat_natCast] at this
        · exact hb
      omega
theorem most_hall : ∀ {l : List Msk} {s : Nat}, l.all okM = true → s < 256 → mostN l s = l.length → Hall l s
  | [], _, _, _, _ => fun k _ => by simp [nK]
  | m :: l, s, hl, hs, h => fun k hk => by
    simp only [List.all_cons, Bool.and_eq_true] at hl
    obtain ⟨c, hc, hc2⟩ := most_full h
    have hd := Nat.lt_of_le_of_lt (dif_le s (2 ^ c.toNat)) hs
    have ih := most_hall hl.2 hd hc2 (k / 2) (by rw [List.length_cons, Nat.pow_succ] at hk; omega)
    rw [aK_del hl.2 hs] at ih
    have hcb := bits_bd hc
    rw [nK, aK]
    have hsub : cnt (dif (aK l s (k / 2)) (2 ^ c.toNat)) ≤ cnt (aK l s (k / 2)) := cnt_sub fun i hi => by
      rw [dif_bit, Bool.and_eq_true] at hi; exact hi.1
    by_cases e : k % 2 = 1
    · rw [if_pos e, e]
      have hb : (alw m s ||| aK l s (k / 2)).testBit c.toNat = true := by
        have := mem_bits.1 hc
        rw [hasB, Bool.and_eq_true] at this
        rw [Nat.testBit_or, this.2, Bool.true_or]
      have h1 := cnt_del (alw m s ||| aK l s (k / 2)) (Nat.or_lt_two_pow (n := 8) (alw_lt m s) (aK_lt l s _)) c.toNat (by omega) hb
      have h2 : cnt (dif (aK l s (k / 2)) (2 ^ c.toNat)) ≤ cnt (dif (alw m s ||| aK l s (k / 2)) (2 ^ c.toNat)) := cnt_sub fun i hi => by
        rw [dif_bit, Bool.and_eq_true] at hi ⊢
        rw [Nat.testBit_or, hi.1, Bool.or_true]
        exact ⟨rfl, hi.2⟩
      omega
    · rw [if_neg e, Nat.zero_or]
      omega
end Go.Proofs.YtgmedcnpgpehfaaDoor

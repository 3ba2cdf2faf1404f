/- Plain laws of most: fewer masks, more pCPUs. No condition. -/
import Derived.Test.YtgmedcnpgpehfaaDoorWb
import Derived.Test.YtgmedcnpgpehfaaDoorCq
namespace Go.Proofs.YtgmedcnpgpehfaaDoor
open Go Go.Sy
set_option maxRecDepth 100000
set_option linter.unusedSimpArgs false
set_option linter.unusedVariables false

theorem alw_bit {m : Msk} {s : Nat} (hm : okM m = true) (hs : s < 256) (i : Nat) : (alw m s).testBit i = (m.1.testBit i && s.testBit i) := by
  rw [alw, if_pos ⟨hm, hs⟩, Nat.testBit_and]
theorem mem_alw {m : Msk} {s : Nat} {c : Int} (hm : okM m = true) (hs : s < 256) : c ∈ bits (alw m s) ↔ (0 ≤ c ∧ c < 8) ∧ m.1.testBit c.toNat = true ∧ s.testBit c.toNat = true := by
  rw [mem_bits, hasB, alw_bit hm hs]
  simp only [Bool.and_eq_true, decide_eq_true_eq]
/-- One way more. -/
theorem most_skip (m : Msk) (l : List Msk) (s : Nat) : mostN l s ≤ mostN (m :: l) s := by
  rw [mostN]
  split
  · rename_i h; subst h; rw [mostN_zero]; omega
  · exact (fold_ge (fun c => 1 + mostN l (dif s (2 ^ c.toNat))) (bits (alw m s)) (mostN l s)).1
theorem most_take {m : Msk} {l : List Msk} {s : Nat} {c : Int} (h : c ∈ bits (alw m s)) : 1 + mostN l (dif s (2 ^ c.toNat)) ≤ mostN (m :: l) s := by
  rw [mostN]
  split
  · rename_i e
    subst e
    have : alw m 0 = 0 := by unfold alw; split <;> simp
    rw [this, bits_zero] at h
    cases h
  · exact (fold_ge (fun c => 1 + mostN l (dif s (2 ^ c.toNat))) (bits (alw m s)) (mostN l s)).2 c h
theorem most_le {m : Msk} {l : List Msk} {s n : Nat} (h0 : mostN l s ≤ n) (h : ∀ c ∈ bits (alw m s), 1 + mostN l (dif s (2 ^ c.toNat)) ≤ n) : mostN (m :: l) s ≤ n := by
  rw [mostN]
  split
  · omega
  · rcases fold_att (fun c => 1 + mostN l (dif s (2 ^ c.toNat))) (bits (alw m s)) (mostN l s) with e | ⟨c, hc, e⟩
    · rw [e]; exact h0
    · rw [e]; exact h c hc
def sub (s t : Nat) : Prop := ∀ i, s.testBit i = true → t.testBit i = true
theorem cnt_sub {s t : Nat} (h : sub s t) : cnt s ≤ cnt t := by
  rw [cnt, cnt, bits, bits, List.length_map, List.length_map, ← List.countP_eq_length_filter, ← List.countP_eq_length_filter]
  exact List.countP_mono_left fun i _ hi => h i hi
theorem most_mono {l : List Msk} (hl : l.all okM = true) : ∀ {s t : Nat}, s < 256 → t < 256 → sub s t → mostN l s ≤ mostN l t := by
  induction l with
  | nil => intros; simp [mostN]
  | cons m l ih =>
    intro s t hs ht h
    simp only [List.all_cons, Bool.and_eq_true] at hl
    refine most_le (Nat.le_trans (ih hl.2 hs ht h) (most_skip m l t)) fun c hc => ?_
    rw [mem_alw hl.1 hs] at hc
    have h1 := most_take (m := m) (l := l) (s := t) (c := c) ((mem_alw hl.1 ht).2 ⟨hc.1, hc.2.1, h _ hc.2.2⟩)
    have h2 := ih hl.2 (s := dif s (2 ^ c.toNat)) (t := dif t (2 ^ c.toNat)) (Nat.lt_of_le_of_lt (dif_le _ _) hs) (Nat.lt_of_le_of_lt (dif_le _ _) ht) (fun i hi => by
      rw [dif_bit, Bool.and_eq_true] at hi ⊢
      exact ⟨h i hi.1, hi.2⟩)
    omega
theorem most_more {l : List Msk} (hl : l.all okM = true) : ∀ {s t : Nat}, s < 256 → t < 256 → mostN l t ≤ mostN l s + cnt (dif t s) := by
  induction l with
  | nil => intros; simp [mostN]
  | cons m l ih =>
    intro s t hs ht
    simp only [List.all_cons, Bool.and_eq_true] at hl
    have h0 := most_skip m l s
    refine most_le (by have := ih hl.2 hs ht; omega) fun c hc => ?_
    rw [mem_alw hl.1 ht] at hc
    have hd := Nat.lt_of_le_of_lt (dif_le t (2 ^ c.toNat)) ht
    cases hb : s.testBit c.toNat
    · have h1 := ih hl.2 hs hd
      have h2 := cnt_del (dif t s) (Nat.lt_of_le_of_lt (dif_le _ _) ht) c.toNat (by omega) (by rw [dif_bit, hb, hc.2.2]; rfl)
      have e : dif (dif t (2 ^ c.toNat)) s = dif (dif t s) (2 ^ c.toNat) := Nat.eq_of_testBit_eq fun i => by
        rw [dif_bit, dif_bit, dif_bit, dif_bit, Bool.and_assoc, Bool.and_assoc, Bool.and_comm (!_)]
      rw [e] at h1
      omega
    · have h1 := most_take (m := m) (l := l) (s := s) (c := c) ((mem_alw hl.1 hs).2 ⟨hc.1, hc.2.1, hb⟩)
      have h2 := ih hl.2 (s := dif s (2 ^ c.toNat)) (t := dif t (2 ^ c.toNat)) (Nat.lt_of_le_of_lt (dif_le _ _) hs) hd
      have h3 : cnt (dif (dif t (2 ^ c.toNat)) (dif s (2 ^ c.toNat))) ≤ cnt (dif t s) := cnt_sub fun i hi => by
        rw [dif_bit, dif_bit, dif_bit] at hi
        rw [dif_bit]
        revert hi
        cases t.testBit i <;> cases s.testBit i <;> cases (2 ^ c.toNat).testBit i <;> simp
      omega
theorem most_cnt {l : List Msk} (hl : l.all okM = true) {s : Nat} (hs : s < 256) : mostN l s ≤ cnt s := by
  have := most_more hl (s := 0) (t := s) (by decide) hs
  rw [mostN_zero] at this
  have h : cnt (dif s 0) ≤ cnt s := cnt_sub fun i hi => by
    rw [dif_bit, Bool.and_eq_true] at hi; exact hi.1
  omega
/-- One mask less. -/
theorem most_less (m : Msk) (l : List Msk) : ∀ (p : List Msk) (s : Nat), (p ++ m :: l).all okM = true → s < 256 → mostN (p ++ l) s ≤ mostN (p ++ m :: l) s ∧ mostN (p ++ m :: l) s ≤ mostN (p ++ l) s + 1
  | [], s, h, hs => by
    rw [List.nil_append] at h
    simp only [List.all_cons, Bool.and_eq_true] at h
    refine ⟨most_skip m l s, most_le (by simp) fun c hc => ?_⟩
    have := most_mono h.2 (s := dif s (2 ^ c.toNat)) (t := s) (Nat.lt_of_le_of_lt (dif_le _ _) hs) hs (fun i hi => by
      rw [dif_bit, Bool.and_eq_true] at hi; exact hi.1)
    simp only [List.nil_append]
    omega
  | q :: p, s, h, hs => by
    rw [List.cons_append] at h
    simp only [List.all_cons, Bool.and_eq_true] at h
    have hi := most_less m l p s h.2 hs
    rw [List.cons_append, List.cons_append]
    refine ⟨most_le (Nat.le_trans hi.1 (most_skip _ _ _)) fun c hc => ?_, most_le (by have := most_skip q (p ++ l) s; omega) fun c hc => ?_⟩
    · have := most_less m l p (dif s (2 ^ c.toNat)) h.2 (Nat.lt_of_le_of_lt (dif_le _ _) hs)
      have := most_take (l := p ++ m :: l) hc
      omega
    · have := most_less m l p (dif s (2 ^ c.toNat)) h.2 (Nat.lt_of_le_of_lt (dif_le _ _) hs)
      have := most_take (l := p ++ l) hc
      omega
theorem cnt_or {s t : Nat} : cnt (dif (s ||| t) s) ≤ cnt t := cnt_sub fun i hi => by
  rw [dif_bit, Nat.testBit_or] at hi
  revert hi
  cases s.testBit i <;> simp
theorem sub_or (s t : Nat) : sub s (s ||| t) := fun i hi => by rw [Nat.testBit_or, hi]; rfl
end Go.Proofs.YtgmedcnpgpehfaaDoor

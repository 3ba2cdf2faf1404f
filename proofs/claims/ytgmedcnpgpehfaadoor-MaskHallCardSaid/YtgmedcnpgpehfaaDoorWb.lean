/- Plain laws of choices. No condition. -/
import Derived.Test.YtgmedcnpgpehfaaDoorWa
namespace Go.Proofs.YtgmedcnpgpehfaaDoor
open Go Go.Sy
set_option maxRecDepth 100000
set_option linter.unusedSimpArgs false
set_option linter.unusedVariables false

theorem bits_sorted (s : Nat) : (bits s).Pairwise (· < ·) := by
  rw [bits, List.pairwise_map]
  refine List.Pairwise.filter _ ?_
  have := @List.pairwise_lt_range 8
  exact this.imp fun h => by omega
/-- The first one that has it. -/
theorem first_of {p : Int → Bool} {s : Nat} {c : Int} (h : (bits s).find? p = some c) {x : Int} (hx : hasB s x = true) (hp : p x = true) : c ≤ x := by
  obtain ⟨-, a, b, e, ha⟩ := List.find?_eq_some_iff_append.1 h
  have hm := mem_bits.2 hx
  have hs := bits_sorted s
  rw [e] at hm hs
  rcases List.mem_append.1 hm with h1 | h1
  · have := ha x h1
    rw [hp] at this
    cases this
  · rcases List.mem_cons.1 h1 with h1 | h1
    · omega
    · have := (List.pairwise_append.1 hs).2.1
      exact Int.le_of_lt (List.rel_of_pairwise_cons this h1)
theorem fold_att (g : Int → Nat) : ∀ (cs : List Int) (n : Nat), cs.foldl (fun n c => max n (g c)) n = n ∨ ∃ c ∈ cs, cs.foldl (fun n c => max n (g c)) n = g c
  | [], n => Or.inl rfl
  | c :: cs, n => by
    rw [List.foldl_cons]
    rcases fold_att g cs (max n (g c)) with h | ⟨d, hd, h⟩
    · rw [h]
      by_cases hq : g c ≤ n
      · exact Or.inl (Nat.max_eq_left hq)
      · exact Or.inr ⟨c, by simp, Nat.max_eq_right (by omega)⟩
    · exact Or.inr ⟨d, by simp [hd], h⟩
theorem fold_ge (g : Int → Nat) : ∀ (cs : List Int) (n : Nat), n ≤ cs.foldl (fun n c => max n (g c)) n ∧ ∀ c ∈ cs, g c ≤ cs.foldl (fun n c => max n (g c)) n
  | [], n => ⟨Nat.le_refl _, by simp⟩
  | c :: cs, n => by
    rw [List.foldl_cons]
    obtain ⟨h1, h2⟩ := fold_ge g cs (max n (g c))
    refine ⟨by omega, fun d hd => ?_⟩
    rcases List.mem_cons.1 hd with rfl | hd
    · omega
    · exact h2 d hd
theorem most_full {m : Msk} {l : List Msk} {s : Nat} (h : mostN (m :: l) s = l.length + 1) : ∃ c ∈ bits (alw m s), mostN l (dif s (2 ^ c.toNat)) = l.length := by
  rw [mostN] at h
  split at h
  · omega
  · have h0 := mostN_le l s
    rcases fold_att (fun c => 1 + mostN l (dif s (2 ^ c.toNat))) (bits (alw m s)) (mostN l s) with e | ⟨c, hc, e⟩
    · rw [e] at h; omega
    · rw [e] at h
      exact ⟨c, hc, by omega⟩
/-- While there is a choice, its first one is the first that leaves a choice for the rest. -/
theorem choice_cons {m : Msk} {l : List Msk} {s : Nat} (h : mostN (m :: l) s = l.length + 1) : ∃ c, hasB (alw m s) c = true ∧ choiceN (m :: l) s = c :: choiceN l (dif s (2 ^ c.toNat)) ∧ mostN l (dif s (2 ^ c.toNat)) = l.length ∧ ∀ x, hasB (alw m s) x = true → mostN l (dif s (2 ^ x.toNat)) = l.length → c ≤ x := by
  obtain ⟨c, hc, e⟩ := most_full h
  have hp := fun x => @decide_eq_true_iff (mostN l (dif s (2 ^ Int.toNat x)) = l.length) _
  cases hf : (bits (alw m s)).find? fun c => decide (mostN l (dif s (2 ^ c.toNat)) = l.length) with
  | none =>
    have := List.find?_eq_none.1 hf c hc
    exact absurd (decide_eq_true e) this
  | some d =>
    have h1 := List.find?_some hf
    have h2 := List.mem_of_find?_eq_some hf
    exact ⟨d, mem_bits.1 h2, by rw [choiceN, hf], of_decide_eq_true h1, fun x hx e => first_of hf hx (decide_eq_true e)⟩
theorem choice_len : ∀ {l : List Msk} {s : Nat}, mostN l s = l.length → (choiceN l s).length = l.length
  | [], _, _ => rfl
  | m :: l, s, h => by
    obtain ⟨c, -, e, h2, -⟩ := choice_cons h
    rw [e, List.length_cons, choice_len h2, List.length_cons]
theorem choice_bd : ∀ {l : List Msk} {s : Nat} {c : Int}, c ∈ choiceN l s → 0 ≤ c ∧ c < 8
  | [], _, _, h => by cases h
  | m :: l, s, c, h => by
    rw [choiceN] at h
    split at h
    · rename_i d e
      rcases List.mem_cons.1 h with rfl | h
      · exact bits_bd (List.mem_of_find?_eq_some e)
      · exact choice_bd h
    · cases h
theorem askM_cases (l : List Msk) (s : Nat) : askM l s = 0 ∨ askM l s = 3 ∨ askM l s = 140 ∨ askM l s = 170 := by
  unfold askM; repeat' split
  all_goals simp
end Go.Proofs.YtgmedcnpgpehfaaDoor

/- Topologies and bytes, in plain words. No condition. -/
import Derived.Test.YtbgnnmlhpaaebaaDoorTh
namespace Go.Proofs.YtbgnnmlhpaaebaaDoor
open Go Go.Sy
set_option maxRecDepth 100000
set_option linter.unusedSimpArgs false
set_option linter.unusedVariables false

theorem getD_app_l {α : Type} [Inhabited α] {a b : List α} {i : Nat} (h : i < a.length) : (a ++ b).getD i default = a.getD i default := by
  rw [List.getD, List.getElem?_append_left h, ← List.getD]
theorem getD_app_r {α : Type} [Inhabited α] {a b : List α} {i : Nat} : (a ++ b).getD (a.length + i) default = b.getD i default := by
  rw [List.getD, List.getElem?_append_right (by omega), Nat.add_sub_cancel_left, ← List.getD]
theorem enc_at {l : List Sea} {k : Nat} (h : k < l.length) : (encB l).getD (1 + 2 * k) default = (l.getD k default).1 ∧ (encB l).getD (2 + 2 * k) default = (l.getD k default).2 := by
  have e : ∀ n, k < n → n ≤ l.length → (encK l n).getD (1 + 2 * k) default = (l.getD k default).1 ∧ (encK l n).getD (2 + 2 * k) default = (l.getD k default).2 := by
    intro n
    induction n with
    | zero => intro h0; omega
    | succ n ih =>
      intro h0 h1
      have hl := encK_len l n (by omega)
      rw [encK_succ (by omega)]
      by_cases e : k = n
      · subst e
        rw [show 1 + 2 * k = (encK l k).length + 0 by omega, getD_app_r, show 2 + 2 * k = (encK l k).length + 1 by omega, getD_app_r]
        exact ⟨rfl, rfl⟩
      · rw [getD_app_l (by omega), getD_app_l (by omega)]
        exact ih (by omega) (by omega)
  exact e l.length h (Nat.le_refl _)
theorem list_ext {α : Type} [Inhabited α] {a b : List α} (hl : a.length = b.length) (h : ∀ i, i < a.length → a.getD i default = b.getD i default) : a = b := by
  refine List.ext_getElem hl fun i h1 h2 => ?_
  have := h i h1
  rwa [List.getD, List.getD, List.getElem?_eq_getElem h1, List.getElem?_eq_getElem h2] at this
theorem seats_at {b : List Int} {n k : Nat} (h : k < n) : (seatsN b n).getD k default = (b.getD (1 + 2 * k) default, b.getD (2 + 2 * k) default) := by
  rw [seatsN, List.getD, List.getElem?_map, List.getElem?_range h]; rfl
theorem seats_enc (l : List Sea) : seatsN (encB l) l.length = l := by
  refine list_ext (seatsN_len _ _) fun i hi => ?_
  rw [seatsN_len] at hi
  rw [seats_at hi, (enc_at hi).1, (enc_at hi).2]
theorem enc_len (l : List Sea) : (encB l).length = 1 + 2 * l.length := encK_len l _ (Nat.le_refl _)
theorem enc_head (l : List Sea) : (encB l).getD 0 default = l.length := rfl
theorem enc_seats {b : List Int} {n : Nat} (hl : b.length = 1 + 2 * n) (h0 : b.getD 0 default = n) : encB (seatsN b n) = b := by
  have hs := seatsN_len b n
  refine list_ext (by rw [enc_len, hs, hl]) fun i hi => ?_
  rw [enc_len, hs] at hi
  cases i with
  | zero => rw [enc_head, hs, h0]
  | succ i =>
    obtain ⟨k, hk⟩ : ∃ k, i = 2 * k ∨ i = 2 * k + 1 := ⟨i / 2, by omega⟩
    rcases hk with rfl | rfl
    · rw [show 2 * k + 1 = 1 + 2 * k by omega, (enc_at (by rw [hs]; omega)).1, seats_at (by omega)]
    · rw [show 2 * k + 1 + 1 = 2 + 2 * k by omega, (enc_at (by rw [hs]; omega)).2, seats_at (by omega)]
theorem dec_same {b : List Int} (hb : isB b) : decE b = decR b ∧ decS b = decRS b := by
  have b0 := byte_at hb 0
  by_cases h1 : b.length = 0
  · have e1 : decE b = 7 := by rw [decE, if_pos (Or.inl h1)]
    have e2 : decR b = 7 := by rw [decR, if_pos (Or.inl (by omega))]
    rw [decS, decRS, e1, e2]; exact ⟨rfl, rfl⟩
  by_cases h2 : (b.length : Int) ≤ 2 * b.getD 0 default
  · have e1 : decE b = 7 := by rw [decE, if_pos (Or.inr h2)]
    have e2 : decR b = 7 := by rw [decR, if_pos (Or.inr (by omega))]
    rw [decS, decRS, e1, e2]; exact ⟨rfl, rfl⟩
  by_cases h3 : (b.length : Int) = 1 + 2 * b.getD 0 default
  · have hm : midN b = (b.getD 0 default).toNat := by rw [midN]; omega
    have he : encB (seatsN b (b.getD 0 default).toNat) = b := enc_seats (by omega) (by omega)
    have e : decE b = decR b := by
      rw [decE, decR, if_neg (fun h => h.elim h1 h2), if_neg (fun h => Or.elim h (by omega) (by omega)), hm]
      by_cases ho : okTs (seatsN b (b.getD 0 default).toNat) = true
      · rw [if_pos ⟨ho, he⟩, if_pos ⟨ho, h3⟩]
      · rw [if_neg (fun h => ho h.1), if_neg (fun h => ho h.1)]
    rw [decS, decRS, e, hm]; exact ⟨rfl, rfl⟩
  · have e1 : decE b = 160 := by
      rw [decE, if_neg (fun h => h.elim h1 h2)]
      refine if_neg ?_
      rintro ⟨-, he⟩
      have hl := congrArg List.length he
      have hh : (encB (seatsN b (midN b))).getD 0 default = b.getD 0 default := by rw [he]
      rw [enc_len, seatsN_len] at hl
      rw [enc_head, seatsN_len] at hh
      omega
    have e2 : decR b = 160 := by
      rw [decR, if_neg (fun h => Or.elim h (by omega) (by omega)), if_neg (fun h => h3 h.2)]
    rw [decS, decRS, e1, e2]; exact ⟨rfl, rfl⟩
theorem dec_enc {l : List Sea} (h : okTs l = true) : decE (encB l) = 0 ∧ decS (encB l) = l := by
  have hm : midN (encB l) = l.length := by rw [midN, enc_len]; omega
  have hl := ((okTs_iff l).1 h).2
  have e : decE (encB l) = 0 := by
    rw [decE, if_neg (by rw [enc_len, enc_head]; omega), hm, seats_enc, if_pos ⟨h, rfl⟩]
  refine ⟨e, ?_⟩
  rw [decS, if_pos e, hm, seats_enc]
theorem dec_short {l : List Sea} {i : Nat} (hi : i < (encB l).length) : decE ((encB l).take i) = 7 := by
  rw [enc_len] at hi
  rw [decE, if_pos]
  rw [List.length_take, enc_len]
  by_cases h : i = 0
  · left; omega
  · right
    obtain ⟨j, rfl⟩ : ∃ j, i = j + 1 := ⟨i - 1, by omega⟩
    have : ((encB l).take (j + 1)).getD 0 default = l.length := rfl
    rw [this]; omega
theorem dec_back {b : List Int} (h : decE b = 0) : okTs (decS b) = true ∧ encB (decS b) = b := by
  rw [decS, if_pos h]
  unfold decE at h
  split at h
  · cases h
  · split at h
    · assumption
    · cases h
theorem decE_cases (b : List Int) : decE b = 0 ∨ decE b = 7 ∨ decE b = 160 := by
  unfold decE; split
  · simp
  · split <;> simp
end Go.Proofs.YtbgnnmlhpaaebaaDoor

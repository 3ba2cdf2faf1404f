/- Numbers of bytes and back; what the code's parser gives. No condition. -/
import Derived.Test.YtmieikflcolbaaaVc
import Derived.Test.YtmieikflcolbaaaHa
namespace Go.Proofs.Ytmieikflcolbaaa
open Go Go.Sy
set_option maxRecDepth 100000
set_option linter.unusedSimpArgs false
set_option linter.unusedVariables false

def val : List Int → Int
  | [] => 0
  | c :: l => c * 256 ^ l.length + val l
theorem val_bd : ∀ (l : List Int), isY l → 0 ≤ val l ∧ val l < 256 ^ l.length
  | [], _ => by simp [val]
  | c :: l, h => by
    obtain ⟨h1, h2⟩ := val_bd l fun b hb => h b (by simp [hb])
    obtain ⟨c1, c2⟩ := h c (by simp)
    have hp : (0 : Int) < 256 ^ l.length := Int.pow_pos (by decide)
    have e : (256 : Int) ^ (l.length + 1) = 256 ^ l.length * 256 := Int.pow_succ _ _
    have h3 : 0 ≤ c * 256 ^ l.length := Int.mul_nonneg c1 (by omega)
    have h4 : c * 256 ^ l.length ≤ 255 * 256 ^ l.length := Int.mul_le_mul_of_nonneg_right (by omega) (by omega)
    rw [val, List.length_cons, e]
    omega
theorem val_snoc : ∀ (l : List Int) (c : Int), val (l ++ [c]) = val l * 256 + c
  | [], c => by simp [val]
  | d :: l, c => by
    have e : (256 : Int) ^ (l.length + 1) = 256 ^ l.length * 256 := Int.pow_succ _ _
    rw [List.cons_append, val, val_snoc l c, val, List.length_append, List.length_singleton, e, Int.add_mul, Int.mul_assoc]
    omega
theorem pw_le : ∀ k : Nat, k ≤ 8 → (256 : Int) ^ k ≤ 18446744073709551616 := by decide
theorem num_val : ∀ (n : Nat) (l : List Int), l.length = n → n ≤ 8 → isY l → num l = val l := by
  intro n
  induction n with
  | zero => intro l h _ _; rw [List.eq_nil_of_length_eq_zero h]; rfl
  | succ n ih =>
    intro l hl hn hy
    obtain ⟨l', c, rfl⟩ : ∃ l' c, l = l' ++ [c] := by
      rcases List.eq_nil_or_concat l with rfl | ⟨l', c, rfl⟩
      · simp at hl
      · exact ⟨l', c, by simp⟩
    have h1 := ih l' (by simpa using hl) (by omega) fun b hb => hy b (by simp [hb])
    have h2 := val_bd _ hy
    rw [num_snoc, h1, ← val_snoc]
    refine Int.emod_eq_of_lt h2.1 (Int.lt_of_lt_of_le h2.2 ?_)
    rw [hl]
    exact pw_le _ hn
theorem val_dig (x : Int) (h : 0 ≤ x) : ∀ w : Nat, val (dig x w) = x % 256 ^ w
  | 0 => by simp [dig, val, Int.emod_one]
  | w + 1 => by
    obtain ⟨n, rfl⟩ : ∃ n : Nat, x = n := ⟨x.toNat, by omega⟩
    rw [dig, val, dig_length, val_dig _ h w]
    have e : ((256 : Int) ^ (w + 1)) = ((256 ^ w * 256 : Nat) : Int) := by rw [← Nat.pow_succ]; first | (push_cast; done) | (push_cast; rfl)
    have e2 : ((256 : Int) ^ w) = ((256 ^ w : Nat) : Int) := by first | (push_cast; done) | (push_cast; rfl)
    rw [e, e2]
    have := Nat.mod_mul (a := 256 ^ w) (b := 256) (x := n)
    have h3 : ((n % (256 ^ w * 256) : Nat) : Int) = ((n % 256 ^ w + 256 ^ w * (n / 256 ^ w % 256) : Nat) : Int) := by rw [this]
    push_cast at h3 ⊢
    rw [h3, Int.mul_comm]
    omega
theorem num_dig (x : Int) (w : Nat) (h : 0 ≤ x) (hw : w ≤ 8) : num (dig x w) = x % 256 ^ w := by
  rw [num_val w _ (dig_length _ _) hw (dig_Y _ _), val_dig x h]
theorem dig_add (x c : Int) : ∀ (w k : Nat), w ≤ k → dig (x + c * 256 ^ k) w = dig x w
  | 0, _, _ => rfl
  | w + 1, k, h => by
    rw [dig, dig, dig_add x c w k (by omega)]
    congr 1
    have e : c * (256 : Int) ^ k = (c * 256 ^ (k - w - 1) * 256) * 256 ^ w := by
      rw [Int.mul_assoc, Int.mul_assoc, ← Int.mul_assoc (256 ^ (k - w - 1)), ← Int.pow_succ, ← Int.pow_add]
      congr 2
      omega
    have hp : (0 : Int) < 256 ^ w := Int.pow_pos (by decide)
    rw [e, Int.add_mul_ediv_right _ _ (by omega), Int.add_mul_emod_self_right]
theorem dig_val : ∀ (l : List Int), isY l → dig (val l) l.length = l
  | [], _ => rfl
  | c :: l, h => by
    have hl : isY l := fun b hb => h b (by simp [hb])
    obtain ⟨h1, h2⟩ := val_bd l hl
    obtain ⟨c1, c2⟩ := h c (by simp)
    have hp : (0 : Int) < 256 ^ l.length := Int.pow_pos (by decide)
    rw [List.length_cons, dig, val]
    have e1 : (c * 256 ^ l.length + val l) / 256 ^ l.length = c := by
      rw [Int.add_comm, Int.add_mul_ediv_right _ _ (by omega), Int.ediv_eq_zero_of_lt h1 h2, Int.zero_add]
    rw [e1, Int.emod_eq_of_lt c1 c2, Int.add_comm, dig_add _ _ _ _ (Nat.le_refl _), dig_val l hl]
def resE : Pr → Int
  | .ok _ r => if r = [] then 0 else 361
  | .no e => e
def resA : Pr → Evt
  | .ok a r => if r = [] then a else ev0
  | .no _ => ev0
def pD (b : List Int) : Pr := pEv ev0 b
theorem decE_eq {b : List Int} (hb : isY b) : decE b = resE (pD b) ∧ decA b = resA (pD b) := by
  have h := sim0 hb s0 ev0 rfl rfl (Nat.zero_le _)
  rw [show dEv b s0 ev0 = decP b from rfl, show b.drop s0.wk = b from rfl, show pEv ev0 b = pD b from rfl] at h
  have hE : decE b = if (decP b).1.bad = true then 361 else if (decP b).1.er ≠ 0 then (decP b).1.er else if (decP b).1.wk < b.length then 361 else 0 := rfl
  have hA : decA b = if decE b = 0 then (decP b).2 else ev0 := rfl
  rw [hA]
  cases hp : pD b with
  | no e =>
    rw [hp] at h
    obtain ⟨h1, h2⟩ := h
    have h3 : decE b = e := by
      rw [hE]
      unfold errOf at h2
      split
      · rename_i hx; rw [if_pos hx] at h2; exact h2
      · rename_i hx
        rw [if_neg hx] at h2
        rw [h2, if_pos h1]
    rw [h3, if_neg h1]
    exact ⟨rfl, rfl⟩
  | ok a r =>
    rw [hp] at h
    obtain ⟨h1, h2, h3, h4, h5⟩ := h
    have h6 : decE b = if r = [] then 0 else 361 := by
      rw [hE, h2, h1, if_neg (by decide), if_neg (fun h => h rfl)]
      subst h5
      by_cases hl : (decP b).1.wk < b.length
      · rw [if_pos hl, if_neg]
        rw [List.drop_eq_nil_iff]; omega
      · rw [if_neg hl, if_pos]
        rw [List.drop_eq_nil_iff]; omega
    rw [h6, h4]
    constructor
    · rfl
    · rw [resA]
      by_cases hr : r = []
      · rw [if_pos hr, if_pos rfl, if_pos hr]
      · rw [if_neg hr, if_neg (by decide), if_neg hr]
end Go.Proofs.Ytmieikflcolbaaa

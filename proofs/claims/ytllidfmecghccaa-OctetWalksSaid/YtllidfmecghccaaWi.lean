/- What bytes of numbers are, one behind the other. No condition. -/
import Derived.Test.YtllidfmecghccaaWh
namespace Go.Proofs.Ytllidfmecghccaa
open Go Go.Sy
set_option maxRecDepth 100000
set_option linter.unusedSimpArgs false
set_option linter.unusedVariables false

theorem emod_mul_add (p q r M : Int) : (p % M * q + r) % M = (p * q + r) % M := by
  rw [Int.add_emod, Int.mul_emod, Int.emod_emod_of_dvd _ (Int.dvd_refl M), ← Int.mul_emod, ← Int.add_emod]
theorem foldl_bytes : ∀ (w : Nat) (a y : Int), 0 ≤ y → y < 256 ^ w → (bytesF y w).foldl (fun x c => (x * 256 + c) % 18446744073709551616) a % 18446744073709551616 = (a * 256 ^ w + y) % 18446744073709551616
  | 0, a, y, h0, h1 => by
    have : y = 0 := by simp at h1; omega
    subst this
    simp [bytesF]
  | w + 1, a, y, h0, h1 => by
    have h2 : (0 : Int) < 256 ^ w := Int.pow_pos (by decide)
    have h3 : (256 : Int) ^ (w + 1) = 256 ^ w * 256 := Int.pow_succ _ _
    have e1 : 0 ≤ y / 256 ^ w := Int.ediv_nonneg h0 (by omega)
    have e2 : y / 256 ^ w < 256 := Int.ediv_lt_of_lt_mul h2 (by rw [Int.mul_comm]; omega)
    have e3 : y / 256 ^ w % 256 = y / 256 ^ w := Int.emod_eq_of_lt e1 e2
    simp only [bytesF, List.foldl_cons]
    rw [foldl_bytes w _ _ (Int.emod_nonneg _ (by omega)) (Int.emod_lt_of_pos _ h2), e3, emod_mul_add]
    congr 1
    have e4 := Int.mul_ediv_add_emod y (256 ^ w)
    rw [h3, Int.add_mul, Int.mul_assoc, Int.mul_comm 256 (256 ^ w), Int.add_assoc, Int.mul_comm (y / 256 ^ w), e4]
theorem num_bytesF {w : Nat} {y : Int} (hw : w ≤ 8) (h0 : 0 ≤ y) (h1 : y < 256 ^ w) : num (bytesF y w) = y := by
  have h := foldl_bytes w 0 y h0 h1
  have h2 : (256 : Int) ^ w ≤ 256 ^ 8 := by
    have : ∀ w : Nat, w ≤ 8 → (256 : Int) ^ w ≤ 256 ^ 8 := by decide
    exact this w hw
  obtain ⟨n0, n1⟩ := num_bd (bytesF y w)
  have h3 : (256 : Int) ^ 8 = 18446744073709551616 := by decide
  rw [Int.zero_mul, Int.zero_add, Int.emod_eq_of_lt h0 (by omega)] at h
  exact (Int.emod_eq_of_lt n0 n1).symm.trans h

/-- A number's bytes, and those of a row of them. -/
def mb (p : Int × Int) : List Int := bytesF (p.1 % 256 ^ wd p.2) (wd p.2)
def allB (l : List (Int × Int)) : List Int := l.flatMap mb
theorem mb_length (p : Int × Int) : (mb p).length = wd p.2 := bytesF_length _ _
theorem wd_le (w : Int) : 2 ≤ wd w ∧ wd w ≤ 8 := by rcases wd_cases w with e | e | e <;> omega
theorem mod_wd {x : Int} (w : Int) (h0 : 0 ≤ x) : 0 ≤ x % 256 ^ wd w ∧ x % 256 ^ wd w < 256 ^ wd w := by
  have h2 : (0 : Int) < 256 ^ wd w := Int.pow_pos (by decide)
  exact ⟨Int.emod_nonneg _ (by omega), Int.emod_lt_of_pos _ h2⟩
theorem num_mb (p : Int × Int) (h0 : 0 ≤ p.1) : num (mb p) = p.1 % 256 ^ wd p.2 := num_bytesF (wd_le _).2 (mod_wd _ h0).1 (mod_wd _ h0).2
theorem mb_bd (p : Int × Int) : ∀ b ∈ mb p, 0 ≤ b ∧ b < 256 := bytesF_bd _ _
theorem allB_bd (l : List (Int × Int)) : ∀ b ∈ allB l, 0 ≤ b ∧ b < 256 := by
  intro b hb
  obtain ⟨p, _, hp⟩ := List.mem_flatMap.1 hb
  exact mb_bd p b hp
theorem allB_take {l : List (Int × Int)} {k : Nat} (hk : k < l.length) : allB (l.take (k + 1)) = allB (l.take k) ++ mb l[k] := by
  rw [List.take_succ_eq_append_getElem hk, allB, allB, List.flatMap_append, List.flatMap_cons, List.flatMap_nil, List.append_nil]
theorem allB_split {l : List (Int × Int)} {k : Nat} (hk : k < l.length) : allB l = allB (l.take k) ++ (mb l[k] ++ allB (l.drop (k + 1))) := by
  have e : l = l.take k ++ (l[k] :: l.drop (k + 1)) := by
    rw [← List.drop_eq_getElem_cons hk, List.take_append_drop]
  have : allB l = allB (l.take k ++ (l[k] :: l.drop (k + 1))) := congrArg allB e
  rw [this]
  simp only [allB, List.flatMap_append, List.flatMap_cons]
theorem allB_length (l : List (Int × Int)) : (allB l).length ≤ 8 * l.length := by
  induction l with
  | nil => simp [allB]
  | cons p l ih =>
    simp only [allB, List.flatMap_cons, List.length_append, List.length_cons] at ih ⊢
    have := (wd_le p.2).2
    rw [mb_length]
    omega
end Go.Proofs.Ytllidfmecghccaa

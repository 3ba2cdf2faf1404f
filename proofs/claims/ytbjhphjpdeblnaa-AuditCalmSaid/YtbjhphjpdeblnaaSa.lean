/- Whole numbers of 128 bits: their digits; products. No condition. -/
import Derived.Test.YtbjhphjpdeblnaaGz
namespace Go.Proofs.Ytbjhphjpdeblnaa.Sh
open Go Go.Sy
set_option maxRecDepth 100000
set_option linter.unusedSimpArgs false
set_option linter.unusedVariables false

abbrev U (n : Nat) : SV := .v (.int .u64 n)
/-- A number's digit. -/
def dig (N j : Nat) : Nat := N / 2 ^ (32 * j) % 4294967296
theorem dig_lt (N j : Nat) : dig N j < 4294967296 := Nat.mod_lt _ (by decide)
/-- The lower digits of one, the upper ones of another one. -/
def Mx (T N c : Nat) : List (List SV) := (List.range 7).map fun j => [U (if j < c then dig T j else dig N j)]
def Qd (N : Nat) : List (List SV) := (List.range 7).map fun j => [U (dig N j)]
theorem Mx_len (T N c : Nat) : (Mx T N c).length = 7 := rfl
theorem Qd_len (N : Nat) : (Qd N).length = 7 := rfl
theorem Mx_get {T N c k : Nat} (h : k < 7) : (Mx T N c).getD k [] = [U (if k < c then dig T k else dig N k)] := by
  rw [Mx, List.getD, List.getElem?_map, List.getElem?_range h]; rfl
theorem Qd_get {N k : Nat} (h : k < 7) : (Qd N).getD k [] = [U (dig N k)] := by
  rw [Qd, List.getD, List.getElem?_map, List.getElem?_range h]; rfl
theorem Mx_zero (T N : Nat) : Mx T N 0 = Qd N := rfl
theorem Mx_full (T N : Nat) {c : Nat} (h : 7 ≤ c) : Mx T N c = Qd T := by
  rw [Mx, Qd]
  refine List.map_congr_left fun j hj => ?_
  rw [List.mem_range] at hj
  rw [if_pos (by omega)]
theorem Mx_set {T N c : Nat} (h : c < 7) : (Mx T N c).set c [U (dig T c)] = Mx T N (c + 1) := by
  apply List.ext_getElem (by simp [Mx])
  intro j h1 h2
  rw [List.getElem_set]
  simp only [Mx, List.getElem_map, List.getElem_range]
  by_cases e : c = j
  · subst e; rw [if_pos rfl, if_pos (by omega)]
  · rw [if_neg e]
    by_cases e2 : j < c
    · rw [if_pos e2, if_pos (by omega)]
    · rw [if_neg e2, if_neg (by omega)]
theorem Mx_same {T N c : Nat} (h : ∀ j, j < c → dig T j = dig N j) : Mx T N c = Qd N := by
  rw [Mx, Qd]
  refine List.map_congr_left fun j _ => ?_
  by_cases e : j < c
  · rw [if_pos e, h j e]
  · rw [if_neg e]
theorem Qd_zero : Qd 0 = List.replicate 7 [U 0] := by
  simp only [Qd, dig, Nat.zero_div, Nat.zero_mod]; rfl
/-- What is carried. -/
def carN (N Q f i k : Nat) : Nat := (N % 2 ^ (32 * (k + i)) + f * 2 ^ (32 * i) * (Q % 2 ^ (32 * k))) / 2 ^ (32 * (k + i))
theorem mod_step (N c : Nat) : N % 2 ^ (32 * (c + 1)) = N % 2 ^ (32 * c) + 2 ^ (32 * c) * dig N c := by
  rw [show 32 * (c + 1) = 32 * c + 32 by omega, Nat.pow_add, Nat.mod_mul, dig]
theorem car_step (N Q f i k : Nat) : N % 2 ^ (32 * (k + 1 + i)) + f * 2 ^ (32 * i) * (Q % 2 ^ (32 * (k + 1))) = N % 2 ^ (32 * (k + i)) + f * 2 ^ (32 * i) * (Q % 2 ^ (32 * k)) + 2 ^ (32 * (k + i)) * (dig N (k + i) + dig Q k * f) := by
  rw [show k + 1 + i = k + i + 1 by omega, mod_step N, mod_step Q]
  have e : 2 ^ (32 * (k + i)) = 2 ^ (32 * i) * 2 ^ (32 * k) := by rw [← Nat.pow_add]; congr 1; omega
  generalize 2 ^ (32 * (k + i)) = B at e ⊢
  subst e
  generalize N % _ = n
  generalize Q % _ = q
  generalize 2 ^ (32 * i) = b
  generalize 2 ^ (32 * k) = c
  generalize dig Q k = y
  generalize dig N (k + i) = z
  grind
theorem carN_lt {N Q f i k : Nat} (hf : f < 4294967296) : carN N Q f i k < 4294967296 := by
  rw [carN]
  have e : 2 ^ (32 * (k + i)) = 2 ^ (32 * i) * 2 ^ (32 * k) := by rw [← Nat.pow_add]; congr 1; omega
  have h1 := Nat.mod_lt N (Nat.two_pow_pos (32 * (k + i)))
  have h2 := Nat.mod_lt Q (Nat.two_pow_pos (32 * k))
  have hb := Nat.two_pow_pos (32 * i)
  rw [Nat.div_lt_iff_lt_mul (Nat.two_pow_pos _)]
  generalize N % _ = n at h1 ⊢
  generalize Q % _ = q at h2 ⊢
  generalize 2 ^ (32 * (k + i)) = B at e h1 ⊢
  subst e
  generalize 2 ^ (32 * i) = b at *
  generalize 2 ^ (32 * k) = c at *
  have h3 : f * b * q ≤ 4294967295 * (b * q) := by rw [Nat.mul_assoc]; exact Nat.mul_le_mul_right _ (by omega)
  have h4 : b * q ≤ b * c := Nat.mul_le_mul_left _ (by omega)
  omega
theorem car_next {N Q f i k : Nat} : carN N Q f i (k + 1) = (carN N Q f i k + (dig N (k + i) + dig Q k * f)) / 4294967296 := by
  rw [carN, car_step, carN, show 32 * (k + 1 + i) = 32 * (k + i) + 32 by omega, Nat.pow_add, ← Nat.div_div_eq_div_mul]
  have hp := Nat.two_pow_pos (32 * (k + i))
  rw [Nat.add_mul_div_left _ _ hp]
theorem car_dig {N Q f i k : Nat} : dig (N + f * 2 ^ (32 * i) * Q) (k + i) = (carN N Q f i k + (dig N (k + i) + dig Q k * f)) % 4294967296 := by
  have hp := Nat.two_pow_pos (32 * (k + i))
  have h1 := car_step N Q f i k
  have e0 : (N + f * 2 ^ (32 * i) * Q) % 2 ^ (32 * (k + 1 + i)) = (N % 2 ^ (32 * (k + 1 + i)) + f * 2 ^ (32 * i) * (Q % 2 ^ (32 * (k + 1)))) % 2 ^ (32 * (k + 1 + i)) := by
    have e : 2 ^ (32 * (k + 1 + i)) = 2 ^ (32 * i) * 2 ^ (32 * (k + 1)) := by rw [← Nat.pow_add]; congr 1; omega
    have hq := Nat.div_add_mod Q (2 ^ (32 * (k + 1)))
    suffices H : f * 2 ^ (32 * i) * Q % 2 ^ (32 * (k + 1 + i)) = f * 2 ^ (32 * i) * (Q % 2 ^ (32 * (k + 1))) % 2 ^ (32 * (k + 1 + i)) by
      rw [Nat.add_mod, H, ← Nat.add_mod, Nat.mod_add_mod]
    conv => lhs; rw [← hq]
    rw [Nat.mul_add, show f * 2 ^ (32 * i) * (2 ^ (32 * (k + 1)) * (Q / 2 ^ (32 * (k + 1)))) = 2 ^ (32 * (k + 1 + i)) * (f * (Q / 2 ^ (32 * (k + 1)))) by rw [e]; generalize Q / _ = z; generalize 2 ^ (32 * i) = x; generalize 2 ^ (32 * (k + 1)) = y; grind]
    rw [Nat.mul_add_mod]
  have e1 : ∀ X : Nat, dig X (k + i) = X % 2 ^ (32 * (k + 1 + i)) / 2 ^ (32 * (k + i)) := fun X => by
    rw [show k + 1 + i = k + i + 1 by omega, mod_step, Nat.add_mul_div_left _ _ hp, Nat.div_eq_of_lt (Nat.mod_lt _ hp), Nat.zero_add]
  rw [e1, e0, h1, show k + 1 + i = k + i + 1 by omega, mod_step, Nat.add_mul_div_left _ _ hp, Nat.div_eq_of_lt (Nat.mod_lt _ hp), Nat.zero_add, dig, Nat.add_mul_div_left _ _ hp, ← carN]
/-- What is carried where one number is added. -/
theorem car_zero (N Q f i : Nat) : carN N Q f i 0 = 0 := by
  rw [carN, Nat.mul_zero, Nat.pow_zero, Nat.mod_one, Nat.mul_zero, Nat.add_zero, Nat.zero_add]
  exact Nat.div_eq_of_lt (Nat.mod_lt _ (Nat.two_pow_pos _))
theorem dig_low {N X i j : Nat} (h : j < i) : dig (N + X * 2 ^ (32 * i)) j = dig N j := by
  rw [dig, dig, show 32 * i = 32 * j + (32 + 32 * (i - j - 1)) by omega, Nat.pow_add, Nat.pow_add]
  rw [show X * (2 ^ (32 * j) * (2 ^ 32 * 2 ^ (32 * (i - j - 1)))) = 2 ^ (32 * j) * (2 ^ 32 * (X * 2 ^ (32 * (i - j - 1)))) by generalize 2 ^ (32 * (i - j - 1)) = x; generalize 2 ^ (32 * j) = y; grind]
  rw [Nat.add_mul_div_left _ _ (Nat.two_pow_pos _), Nat.add_mul_mod_self_left]
end Go.Proofs.Ytbjhphjpdeblnaa.Sh

/- What the code writes, in plain Lean: which events fit, and their bytes. No condition. -/
import Derived.Test.YtmieikflcolbaaaEf
import Derived.Test.YtmieikflcolbaaaVb
import Derived.Test.YtmieikflcolbaaaHq
namespace Go.Proofs.Ytmieikflcolbaaa
open Go Go.Sy
set_option maxRecDepth 100000
set_option linter.unusedSimpArgs false
set_option linter.unusedVariables false
abbrev isY (l : List Int) : Prop := ∀ b ∈ l, 0 ≤ b ∧ b < 256
structure wf (a : Evt) : Prop where
  i : ∀ i, -2 ^ 63 ≤ a.1 i ∧ a.1 i < 2 ^ 63
  u : ∀ i, (i = 13 ∨ i = 14 ∨ i = 24 ∨ i = 25 ∨ i = 26) → 0 ≤ a.1 i ∧ a.1 i < 2 ^ 32
  f : a.1 5 = 0 ∨ a.1 5 = 1
  z : ∀ i, (i = 6 ∨ i = 27 ∨ 29 ≤ i) → a.1 i = 0
  n : ∀ x ∈ a.2.1, -2 ^ 63 ≤ x ∧ x < 2 ^ 63
  m : ∀ x ∈ a.2.2, -2 ^ 63 ≤ x ∧ x < 2 ^ 63
  nl : a.2.1.length < 2 ^ 38
  ml : a.2.2.length < 2 ^ 38
theorem dig_Y (x : Int) (w : Nat) : isY (dig x w) := by
  induction w with
  | zero => intro b h; cases h
  | succ w ih =>
    intro b h
    rw [dig, List.mem_cons] at h
    rcases h with rfl | h
    · exact ⟨Int.emod_nonneg _ (by decide), Int.emod_lt_of_pos _ (by decide)⟩
    · exact ih b h
theorem e1_Y {w : Nat} {x : Int} {s : Out} (h : isY s.1) : isY (e1 w x s).1 := fun b hb => by
  rw [e1, List.mem_append] at hb
  exact hb.elim (h b) (dig_Y _ _ b)
theorem eNs_Y : ∀ (l : List Int) (s : Out), isY s.1 → isY (eNs l s).1
  | [], s, h => h
  | x :: l, s, h => by
    rw [eNs]
    split
    · exact h
    · exact eNs_Y l _ (e1_Y h)
theorem eL_Y {l : List Int} {s : Out} (h : isY s.1) : isY (eL l s).1 := eNs_Y l _ (e1_Y (w := 1) (x := l.length) h)
theorem eC_Y {a : Evt} {s : Out} (c : Nat) (h : isY s.1) : isY (eC a s c).1 := by
  unfold eC
  repeat' split
  · exact e1_Y (e1_Y h)
  · exact e1_Y (e1_Y h)
  · exact eL_Y h
  · exact eL_Y h
  · exact e1_Y h
theorem eLs_Y {a : Evt} : ∀ (l : List Nat) (s : Out), isY s.1 → isY (eLs a s l).1
  | [], _, h => h
  | c :: l, s, h => eLs_Y l (eC a s c) (eC_Y c h)
def eSub (a : Evt) (s : Out) : Option (List Nat) → Out
  | some l => eLs a s l
  | none => (s.1, true)
theorem optE {P : Out → Prop} {a : Evt} {s : Out} (o : Option (List Nat)) (h1 : ∀ l, o = some l → P (eLs a s l)) (h2 : P (s.1, true)) : P (eSub a s o) := by
  cases o with
  | none => exact h2
  | some l => exact h1 l rfl
theorem eEv_eq (a : Evt) (s : Out) : eEv a s = if a.1 0 = 1 then eSub a (e1 1 (a.1 1) (e1 1 (a.1 0) s)) (callL (a.1 1)) else if a.1 0 = 2 then eSub a (e1 1 (a.1 15) (e1 1 (a.1 0) s)) (liveL (a.1 15)) else if a.1 0 = 3 then e1 8 (a.1 28) (e1 1 (a.1 0) s) else ((e1 1 (a.1 0) s).1, true) := rfl
theorem eEv_Y {a : Evt} {s : Out} (h : isY s.1) : isY (eEv a s).1 := by
  rw [eEv_eq]
  split
  · exact optE (P := fun o => isY o.1) _ (fun l _ => eLs_Y l _ (e1_Y (e1_Y h))) (e1_Y (e1_Y h))
  split
  · exact optE (P := fun o => isY o.1) _ (fun l _ => eLs_Y l _ (e1_Y (e1_Y h))) (e1_Y (e1_Y h))
  split
  · exact e1_Y (e1_Y h)
  · exact e1_Y h
theorem wid_le (c : Nat) : wid c ≤ 8 := by
  unfold wid
  repeat' split
  all_goals decide
theorem eC_len (a : Evt) (s : Out) (c : Nat) : (eC a s c).1.length ≤ s.1.length + (9 + a.2.1.length + a.2.2.length) := by
  unfold eC
  repeat' split
  · rw [e1_len, e1_len]; omega
  · rw [e1_len, e1_len]; omega
  · have := eL_len a.2.1 s; omega
  · have := eL_len a.2.2 s; omega
  · rw [e1_len]; have := wid_le c; omega
theorem eLs_len (a : Evt) : ∀ (l : List Nat) (s : Out), (eLs a s l).1.length ≤ s.1.length + l.length * (9 + a.2.1.length + a.2.2.length)
  | [], s => by simp [eLs]
  | c :: l, s => by
    have h1 := eLs_len a l (eC a s c)
    have h2 := eC_len a s c
    rw [show eLs a s (c :: l) = eLs a (eC a s c) l from rfl, List.length_cons, Nat.succ_mul]
    omega
theorem callL_len {s : Int} {l : List Nat} (h : callL s = some l) : l.length ≤ 4 := by
  unfold callL at h
  repeat' split at h
  all_goals first | (cases h; decide) | cases h
theorem liveL_len {s : Int} {l : List Nat} (h : liveL s = some l) : l.length ≤ 4 := by
  unfold liveL at h
  repeat' split at h
  all_goals first | (cases h; decide) | cases h
theorem eEv_len (a : Evt) (s : Out) : (eEv a s).1.length ≤ s.1.length + 10 + 4 * (9 + a.2.1.length + a.2.2.length) := by
  have hk : ∀ (l : List Nat) (x y : Int), l.length ≤ 4 → (eLs a (e1 1 x (e1 1 y s)) l).1.length ≤ s.1.length + 10 + 4 * (9 + a.2.1.length + a.2.2.length) := fun l x y h => by
    have := eLs_len a l (e1 1 x (e1 1 y s))
    rw [e1_len, e1_len] at this
    have h2 := Nat.mul_le_mul_right (9 + a.2.1.length + a.2.2.length) h
    omega
  rw [eEv_eq]
  split
  · exact optE (P := fun o => o.1.length ≤ s.1.length + 10 + 4 * (9 + a.2.1.length + a.2.2.length)) _ (fun l hl => hk l _ _ (callL_len hl)) (by simp only [e1_len]; omega)
  split
  · exact optE (P := fun o => o.1.length ≤ s.1.length + 10 + 4 * (9 + a.2.1.length + a.2.2.length)) _ (fun l hl => hk l _ _ (liveL_len hl)) (by simp only [e1_len]; omega)
  split
  · simp only [e1_len]; omega
  · simp only [e1_len]; omega
def encP (a : Evt) : Out := eEv a ([], false)
theorem encP_Y (a : Evt) : isY (encP a).1 := eEv_Y (by intro b h; cases h)
theorem encP_len {a : Evt} (h : wf a) : (encP a).1.length < 2 ^ 42 := by
  have h1 : (encP a).1.length ≤ 0 + 10 + 4 * (9 + a.2.1.length + a.2.2.length) := eEv_len a ([], false)
  have := h.nl
  have := h.ml
  omega
end Go.Proofs.Ytmieikflcolbaaa
namespace Go.Proofs.Ytmieikflcolbaaa
open Go Go.Sy
set_option maxRecDepth 100000
set_option linter.unusedSimpArgs false
set_option linter.unusedVariables false
def val : List Int → Int
  | [] => 0
  | c :: l => c * 256 ^ l.length + val l
theorem val_bd : ∀ (l : List Int), isY l → 0 ≤ val l ∧ val l < 256 ^ l.length
  | [], _ => by simp [val]
  | c :: l, h => by
    obtain ⟨h1, h2⟩ := val_bd l fun b hb => h b (by simp [hb])
    obtain ⟨c1, c2⟩ := h c (by simp)
    have hp : (0 : Int) < 256 ^ l.length := Int.pow_pos (by decide)
    have e : (256 : Int) ^ (l.length + 1) = 256 ^ l.length * 256 := Int.pow_succ _ _
    have h3 : 0 ≤ c * 256 ^ l.length := Int.mul_nonneg c1 (by omega)
    have h4 : c * 256 ^ l.length ≤ 255 * 256 ^ l.length := Int.mul_le_mul_of_nonneg_right (by omega) (by omega)
    rw [val, List.length_cons, e]
    omega
theorem val_snoc : ∀ (l : List Int) (c : Int), val (l ++ [c]) = val l * 256 + c
  | [], c => by simp [val]
  | d :: l, c => by
    have e : (256 : Int) ^ (l.length + 1) = 256 ^ l.length * 256 := Int.pow_succ _ _
    rw [List.cons_append, val, val_snoc l c, val, List.length_append, List.length_singleton, e, Int.add_mul, Int.mul_assoc]
    omega
theorem pw_le : ∀ k : Nat, k ≤ 8 → (256 : Int) ^ k ≤ 18446744073709551616 := by decide
theorem num_val : ∀ (n : Nat) (l : List Int), l.length = n → n ≤ 8 → isY l → num l = val l := by
  intro n
  induction n with
  | zero => intro l h _ _; rw [List.eq_nil_of_length_eq_zero h]; rfl
  | succ n ih =>
    intro l hl hn hy
    obtain ⟨l', c, rfl⟩ : ∃ l' c, l = l' ++ [c] := by
      rcases List.eq_nil_or_concat l with rfl | ⟨l', c, rfl⟩
      · simp at hl
      · exact ⟨l', c, by simp⟩
    have h1 := ih l' (by simpa using hl) (by omega) fun b hb => hy b (by simp [hb])
    have h2 := val_bd _ hy
    rw [num_snoc, h1, ← val_snoc]
    refine Int.emod_eq_of_lt h2.1 (Int.lt_of_lt_of_le h2.2 ?_)
    rw [hl]
    exact pw_le _ hn
theorem val_dig (x : Int) (h : 0 ≤ x) : ∀ w : Nat, val (dig x w) = x % 256 ^ w
  | 0 => by simp [dig, val, Int.emod_one]
  | w + 1 => by
    obtain ⟨n, rfl⟩ : ∃ n : Nat, x = n := ⟨x.toNat, by omega⟩
    rw [dig, val, dig_length, val_dig _ h w]
    have e : ((256 : Int) ^ (w + 1)) = ((256 ^ w * 256 : Nat) : Int) := by rw [← Nat.pow_succ]; first | (push_cast; done) | (push_cast; rfl)
    have e2 : ((256 : Int) ^ w) = ((256 ^ w : Nat) : Int) := by first | (push_cast; done) | (push_cast; rfl)
    rw [e, e2]
    have := Nat.mod_mul (a := 256 ^ w) (b := 256) (x := n)
    have h3 : ((n % (256 ^ w * 256) : Nat) : Int) = ((n % 256 ^ w + 256 ^ w * (n / 256 ^ w % 256) : Nat) : Int) := by rw [this]
    push_cast at h3 ⊢
    rw [h3, Int.mul_comm]
    omega
theorem num_dig (x : Int) (w : Nat) (h : 0 ≤ x) (hw : w ≤ 8) : num (dig x w) = x % 256 ^ w := by
  rw [num_val w _ (dig_length _ _) hw (dig_Y _ _), val_dig x h]
theorem dig_add (x c : Int) : ∀ (w k : Nat), w ≤ k → dig (x + c * 256 ^ k) w = dig x w
  | 0, _, _ => rfl
  | w + 1, k, h => by
    rw [dig, dig, dig_add x c w k (by omega)]
    congr 1
    have e : c * (256 : Int) ^ k = (c * 256 ^ (k - w - 1) * 256) * 256 ^ w := by
      rw [Int.mul_assoc, Int.mul_assoc, ← Int.mul_assoc (256 ^ (k - w - 1)), ← Int.pow_succ, ← Int.pow_add]
      congr 2
      omega
    have hp : (0 : Int) < 256 ^ w := Int.pow_pos (by decide)
    rw [e, Int.add_mul_ediv_right _ _ (by omega), Int.add_mul_emod_self_right]
theorem dig_val : ∀ (l : List Int), isY l → dig (val l) l.length = l
  | [], _ => rfl
  | c :: l, h => by
    have hl : isY l := fun b hb => h b (by simp [hb])
    obtain ⟨h1, h2⟩ := val_bd l hl
    obtain ⟨c1, c2⟩ := h c (by simp)
    have hp : (0 : Int) < 256 ^ l.length := Int.pow_pos (by decide)
    rw [List.length_cons, dig, val]
    have e1 : (c * 256 ^ l.length + val l) / 256 ^ l.length = c := by
      rw [Int.add_comm, Int.add_mul_ediv_right _ _ (by omega), Int.ediv_eq_zero_of_lt h1 h2, Int.zero_add]
    rw [e1, Int.emod_eq_of_lt c1 c2, Int.add_comm, dig_add _ _ _ _ (Nat.le_refl _), dig_val l hl]
def resE : Pr → Int
  | .ok _ r => if r = [] then 0 else 361
  | .no e => e
def resA : Pr → Evt
  | .ok a r => if r = [] then a else ev0
  | .no _ => ev0
def pD (b : List Int) : Pr := pEv ev0 b
theorem decE_eq {b : List Int} (hb : isY b) : decE b = resE (pD b) ∧ decA b = resA (pD b) := by
  have h := sim0 hb s0 ev0 rfl rfl (Nat.zero_le _)
  rw [show dEv b s0 ev0 = decP b from rfl, show b.drop s0.wk = b from rfl, show pEv ev0 b = pD b from rfl] at h
  have hE : decE b = if (decP b).1.bad = true then 361 else if (decP b).1.er ≠ 0 then (decP b).1.er else if (decP b).1.wk < b.length then 361 else 0 := rfl
  have hA : decA b = if decE b = 0 then (decP b).2 else ev0 := rfl
  rw [hA]
  cases hp : pD b with
  | no e =>
    rw [hp] at h
    obtain ⟨h1, h2⟩ := h
    have h3 : decE b = e := by
      rw [hE]
      unfold errOf at h2
      split
      · rename_i hx; rw [if_pos hx] at h2; exact h2
      · rename_i hx
        rw [if_neg hx] at h2
        rw [h2, if_pos h1]
    rw [h3, if_neg h1]
    exact ⟨rfl, rfl⟩
  | ok a r =>
    rw [hp] at h
    obtain ⟨h1, h2, h3, h4, h5⟩ := h
    have h6 : decE b = if r = [] then 0 else 361 := by
      rw [hE, h2, h1, if_neg (by decide), if_neg (fun h => h rfl)]
      subst h5
      by_cases hl : (decP b).1.wk < b.length
      · rw [if_pos hl, if_neg]
        rw [List.drop_eq_nil_iff]; omega
      · rw [if_neg hl, if_pos]
        rw [List.drop_eq_nil_iff]; omega
    rw [h6, h4]
    constructor
    · rfl
    · rw [resA]
      by_cases hr : r = []
      · rw [if_pos hr, if_pos rfl, if_pos hr]
      · rw [if_neg hr, if_neg (by decide), if_neg hr]
end Go.Proofs.Ytmieikflcolbaaa

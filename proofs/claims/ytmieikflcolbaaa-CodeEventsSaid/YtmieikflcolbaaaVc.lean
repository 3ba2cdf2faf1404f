/- What the code writes, in plain Lean: which events fit, and their bytes. No condition. -/
import Derived.Test.YtmieikflcolbaaaEf
import Derived.Test.YtmieikflcolbaaaVb
namespace Go.Proofs.Ytmieikflcolbaaa
open Go Go.Sy
set_option maxRecDepth 100000
set_option linter.unusedSimpArgs false
set_option linter.unusedVariables false

abbrev isY (l : List Int) : Prop := ∀ b ∈ l, 0 ≤ b ∧ b < 256
/-- An event as Go has them. -/
structure wf (a : Evt) : Prop where
  i : ∀ i, -2 ^ 63 ≤ a.1 i ∧ a.1 i < 2 ^ 63
  u : ∀ i, (i = 13 ∨ i = 14 ∨ i = 24 ∨ i = 25 ∨ i = 26) → 0 ≤ a.1 i ∧ a.1 i < 2 ^ 32
  f : a.1 5 = 0 ∨ a.1 5 = 1
  z : ∀ i, (i = 6 ∨ i = 27 ∨ 29 ≤ i) → a.1 i = 0
  n : ∀ x ∈ a.2.1, -2 ^ 63 ≤ x ∧ x < 2 ^ 63
  m : ∀ x ∈ a.2.2, -2 ^ 63 ≤ x ∧ x < 2 ^ 63
  nl : a.2.1.length < 2 ^ 38
  ml : a.2.2.length < 2 ^ 38
theorem dig_Y (x : Int) (w : Nat) : isY (dig x w) := by
  induction w with
  | zero => intro b h; cases h
  | succ w ih =>
    intro b h
    rw [dig, List.mem_cons] at h
    rcases h with rfl | h
    · exact ⟨Int.emod_nonneg _ (by decide), Int.emod_lt_of_pos _ (by decide)⟩
    · exact ih b h
theorem e1_Y {w : Nat} {x : Int} {s : Out} (h : isY s.1) : isY (e1 w x s).1 := fun b hb => by
  rw [e1, List.mem_append] at hb
  exact hb.elim (h b) (dig_Y _ _ b)
theorem eNs_Y : ∀ (l : List Int) (s : Out), isY s.1 → isY (eNs l s).1
  | [], s, h => h
  | x :: l, s, h => by
    rw [eNs]
    split
    · exact h
    · exact eNs_Y l _ (e1_Y h)
theorem eL_Y {l : List Int} {s : Out} (h : isY s.1) : isY (eL l s).1 := eNs_Y l _ (e1_Y (w := 1) (x := l.length) h)
theorem eC_Y {a : Evt} {s : Out} (c : Nat) (h : isY s.1) : isY (eC a s c).1 := by
  unfold eC
  repeat' split
  · exact e1_Y (e1_Y h)
  · exact e1_Y (e1_Y h)
  · exact eL_Y h
  · exact eL_Y h
  · exact e1_Y h
theorem eLs_Y {a : Evt} : ∀ (l : List Nat) (s : Out), isY s.1 → isY (eLs a s l).1
  | [], _, h => h
  | c :: l, s, h => eLs_Y l (eC a s c) (eC_Y c h)
def eSub (a : Evt) (s : Out) : Option (List Nat) → Out
  | some l => eLs a s l
  | none => (s.1, true)
theorem optE {P : Out → Prop} {a : Evt} {s : Out} (o : Option (List Nat)) (h1 : ∀ l, o = some l → P (eLs a s l)) (h2 : P (s.1, true)) : P (eSub a s o) := by
  cases o with
  | none => exact h2
  | some l => exact h1 l rfl
theorem eEv_eq (a : Evt) (s : Out) : eEv a s = if a.1 0 = 1 then eSub a (e1 1 (a.1 1) (e1 1 (a.1 0) s)) (callL (a.1 1)) else if a.1 0 = 2 then eSub a (e1 1 (a.1 15) (e1 1 (a.1 0) s)) (liveL (a.1 15)) else if a.1 0 = 3 then e1 8 (a.1 28) (e1 1 (a.1 0) s) else ((e1 1 (a.1 0) s).1, true) := rfl
theorem eEv_Y {a : Evt} {s : Out} (h : isY s.1) : isY (eEv a s).1 := by
  rw [eEv_eq]
  split
  · exact optE (P := fun o => isY o.1) _ (fun l _ => eLs_Y l _ (e1_Y (e1_Y h))) (e1_Y (e1_Y h))
  split
  · exact optE (P := fun o => isY o.1) _ (fun l _ => eLs_Y l _ (e1_Y (e1_Y h))) (e1_Y (e1_Y h))
  split
  · exact e1_Y (e1_Y h)
  · exact e1_Y h
theorem wid_le (c : Nat) : wid c ≤ 8 := by
  unfold wid
  repeat' split
  all_goals decide
theorem eC_len (a : Evt) (s : Out) (c : Nat) : (eC a s c).1.length ≤ s.1.length + (9 + a.2.1.length + a.2.2.length) := by
  unfold eC
  repeat' split
  · rw [e1_len, e1_len]; omega
  · rw [e1_len, e1_len]; omega
  · have := eL_len a.2.1 s; omega
  · have := eL_len a.2.2 s; omega
  · rw [e1_len]; have := wid_le c; omega
theorem eLs_len (a : Evt) : ∀ (l : List Nat) (s : Out), (eLs a s l).1.length ≤ s.1.length + l.length * (9 + a.2.1.length + a.2.2.length)
  | [], s => by simp [eLs]
  | c :: l, s => by
    have h1 := eLs_len a l (eC a s c)
    have h2 := eC_len a s c
    rw [show eLs a s (c :: l) = eLs a (eC a s c) l from rfl, List.length_cons, Nat.succ_mul]
    omega
theorem callL_len {s : Int} {l : List Nat} (h : callL s = some l) : l.length ≤ 4 := by
  unfold callL at h
  repeat' split at h
  all_goals first | (cases h; decide) | cases h
theorem liveL_len {s : Int} {l : List Nat} (h : liveL s = some l) : l.length ≤ 4 := by
  unfold liveL at h
  repeat' split at h
  all_goals first | (cases h; decide) | cases h
theorem eEv_len (a : Evt) (s : Out) : (eEv a s).1.length ≤ s.1.length + 10 + 4 * (9 + a.2.1.length + a.2.2.length) := by
  have hk : ∀ (l : List Nat) (x y : Int), l.length ≤ 4 → (eLs a (e1 1 x (e1 1 y s)) l).1.length ≤ s.1.length + 10 + 4 * (9 + a.2.1.length + a.2.2.length) := fun l x y h => by
    have := eLs_len a l (e1 1 x (e1 1 y s))
    rw [e1_len, e1_len] at this
    have h2 := Nat.mul_le_mul_right (9 + a.2.1.length + a.2.2.length) h
    omega
  rw [eEv_eq]
  split
  · exact optE (P := fun o => o.1.length ≤ s.1.length + 10 + 4 * (9 + a.2.1.length + a.2.2.length)) _ (fun l hl => hk l _ _ (callL_len hl)) (by simp only [e1_len]; omega)
  split
  · exact optE (P := fun o => o.1.length ≤ s.1.length + 10 + 4 * (9 + a.2.1.length + a.2.2.length)) _ (fun l hl => hk l _ _ (liveL_len hl)) (by simp only [e1_len]; omega)
  split
  · simp only [e1_len]; omega
  · simp only [e1_len]; omega
def encP (a : Evt) : Out := eEv a ([], false)
theorem encP_Y (a : Evt) : isY (encP a).1 := eEv_Y (by intro b h; cases h)
theorem encP_len {a : Evt} (h : wf a) : (encP a).1.length < 2 ^ 42 := by
  have h1 : (encP a).1.length ≤ 0 + 10 + 4 * (9 + a.2.1.length + a.2.2.length) := eEv_len a ([], false)
  have := h.nl
  have := h.ml
  omega
end Go.Proofs.Ytmieikflcolbaaa

/- Events and their bytes, in plain Lean. No condition. -/
import Derived.Test.YtmieikflcolbaaaVd
namespace Go.Proofs.Ytmieikflcolbaaa
open Go Go.Sy
set_option maxRecDepth 100000
set_option linter.unusedSimpArgs false
set_option linter.unusedVariables false
def fitN (w : Nat) (x : Int) : Bool := decide (8 ≤ w) || decide (0 ≤ x ∧ x < 256 ^ w)
def fitL (l : List Int) : Bool := decide (l.length ≤ 32) && l.all fun x => decide (0 ≤ x ∧ x < 256)
def fitC (a : Evt) (c : Nat) : Bool := if c = 109 ∨ c = 77 then true else if c = 110 then fitL a.2.1 else if c = 78 then fitL a.2.2 else fitN (wid c) (a.1 (cel c))
def bytC (a : Evt) (c : Nat) : List Int :=
  if c = 109 then dig (a.1 13) 4 ++ dig (a.1 14) 4 else if c = 77 then dig (a.1 24) 4 ++ dig (a.1 25) 4 else if c = 110 then (a.2.1.length : Int) :: a.2.1 else if c = 78 then (a.2.2.length : Int) :: a.2.2 else dig (uM (a.1 (cel c))) (wid c)
def putC (b a : Evt) (c : Nat) : Evt :=
  if c = 109 then upd (upd b 13 (a.1 13)) 14 (a.1 14) else if c = 77 then upd (upd b 24 (a.1 24)) 25 (a.1 25) else if c = 110 then setL b a.2.1 else if c = 78 then setM b a.2.2 else upd b (cel c) (a.1 (cel c))
theorem uM_pos {x : Int} (h0 : 0 ≤ x) (h1 : x < 2 ^ 63) : uM x = x := by rw [uM]; omega
theorem e1_spec (w : Nat) (x : Int) (hx : -2 ^ 63 ≤ x ∧ x < 2 ^ 63) (hw : w ≤ 8) (s : Out) : e1 w x s = (s.1 ++ dig (uM x) w, s.2 || !fitN w x) := by
  rw [e1]
  congr 2
  rw [fitN]
  by_cases h8 : w = 8
  · subst h8; simp
  · have hw7 : w ≤ 7 := by omega
    obtain ⟨p1, p2⟩ := pw_bd w hw7
    rw [show decide (8 ≤ w) = false from decide_eq_false (by omega), Bool.false_or, ← decide_not]
    apply decide_eq_decide.2
    have hwlt : w < 8 := by omega
    simp only [hwlt, true_and]
    rcases Int.lt_or_le x 0 with h0 | h0
    · have hu : uM x = x + 18446744073709551616 := by rw [uM]; omega
      rw [hu]
      refine ⟨fun _ h => by omega, fun _ hz => ?_⟩
      have := Int.lt_ediv_add_one_mul_self (x + 18446744073709551616) (show (0 : Int) < 256 ^ w by omega)
      rw [hz] at this
      omega
    · rw [uM_pos h0 (by omega)]
      refine ⟨fun h hx => h (Int.ediv_eq_zero_of_lt hx.1 hx.2), fun h hz => h ⟨h0, ?_⟩⟩
      have := Int.lt_ediv_add_one_mul_self x (show (0 : Int) < 256 ^ w by omega)
      rw [hz] at this
      omega
theorem dig1 {x : Int} (h : 0 ≤ x ∧ x < 256) : dig x 1 = [x] := by
  simp only [dig, Int.pow_zero, Int.ediv_one]
  rw [Int.emod_eq_of_lt h.1 h.2]
theorem eNs_spec : ∀ (l : List Int) (s : Out), (∀ x ∈ l, -2 ^ 63 ≤ x ∧ x < 2 ^ 63) → (eNs l s).2 = (s.2 || !l.all fun x => decide (0 ≤ x ∧ x < 256)) ∧ ((eNs l s).2 = false → (eNs l s).1 = s.1 ++ l)
  | [], s, _ => by simp [eNs]
  | x :: l, s, h => by
    rw [eNs]
    by_cases hb : s.2 = true
    · rw [if_pos hb, hb]
      exact ⟨rfl, fun h => by cases h⟩
    · rw [if_neg hb]
      have hb : s.2 = false := by simpa using hb
      have hx := h x (by simp)
      obtain ⟨h1, h2⟩ := eNs_spec l (e1 1 x s) fun y hy => h y (by simp [hy])
      have hf : fitN 1 x = decide (0 ≤ x ∧ x < 256) := by simp [fitN]
      have he : e1 1 x s = (s.1 ++ dig (uM x) 1, !decide (0 ≤ x ∧ x < 256)) := by rw [e1_spec 1 x hx (by decide) s, hb, Bool.false_or, hf]
      rw [he] at h1 h2 ⊢
      refine ⟨by rw [h1, hb, Bool.false_or, List.all_cons, Bool.not_and], fun hz => ?_⟩
      rw [h2 hz]
      rw [h1] at hz
      have hd : decide (0 ≤ x ∧ x < 256) = true := by
        cases hd : decide (0 ≤ x ∧ x < 256)
        · rw [hd] at hz; simp at hz
        · rfl
      have hd' := of_decide_eq_true hd
      dsimp only
      rw [uM_pos hd'.1 (by omega), dig1 hd', List.append_assoc]
      rfl
theorem eL_spec (l : List Int) (s : Out) (h : ∀ x ∈ l, -2 ^ 63 ≤ x ∧ x < 2 ^ 63) (hl : l.length < 2 ^ 38) : (eL l s).2 = (s.2 || !fitL l) ∧ ((eL l s).2 = false → (eL l s).1 = s.1 ++ ((l.length : Int) :: l)) := by
  obtain ⟨h1, h2⟩ := eNs_spec l ((e1 1 l.length s).1, (e1 1 l.length s).2 || decide (32 < l.length)) h
  have he := e1_spec 1 (l.length : Int) (by omega) (by decide) s
  have hb : (eL l s).2 = (s.2 || !fitL l) := by
    rw [eL, h1, he, fitL]
    have : (s.2 || !fitN 1 (l.length : Int) || decide (32 < l.length)) = (s.2 || decide (32 < l.length)) := by
      by_cases h32 : 32 < l.length
      · simp [h32]
      · have : fitN 1 (l.length : Int) = true := by simp only [fitN, Bool.or_eq_true, decide_eq_true_eq]; right; omega
        simp [this]
    dsimp only
    rw [this, Bool.not_and, ← decide_not, Bool.or_assoc]
    congr 3
    exact propext ⟨fun h => by omega, fun h => by omega⟩
  refine ⟨hb, fun hz => ?_⟩
  have h3 := h2 hz
  rw [show (eL l s).1 = _ from h3, he]
  dsimp only
  have h32 : l.length ≤ 32 := by
    rw [hb] at hz
    have : fitL l = true := by cases hf : fitL l; · rw [hf] at hz; simp at hz
                               · rfl
    rw [fitL, Bool.and_eq_true, decide_eq_true_eq] at this
    exact this.1
  rw [uM_pos (by omega) (by omega), dig1 (by omega), List.append_assoc]
  rfl
theorem eC_spec (a : Evt) (ha : wf a) (s : Out) (c : Nat) : (eC a s c).2 = (s.2 || !fitC a c) ∧ ((eC a s c).2 = false → (eC a s c).1 = s.1 ++ bytC a c) := by
  have hm : ∀ i j, (i = 13 ∨ i = 14 ∨ i = 24 ∨ i = 25 ∨ i = 26) → (j = 13 ∨ j = 14 ∨ j = 24 ∨ j = 25 ∨ j = 26) → e1 4 (a.1 j) (e1 4 (a.1 i) s) = (s.1 ++ (dig (a.1 i) 4 ++ dig (a.1 j) 4), s.2) := fun i j hi hj => by
    have h1 := ha.u i hi
    have h2 := ha.u j hj
    rw [e1_spec 4 _ (by omega) (by decide), e1_spec 4 _ (by omega) (by decide)]
    have f1 : fitN 4 (a.1 i) = true := by simp only [fitN, Bool.or_eq_true, decide_eq_true_eq, Int.reducePow]; right; omega
    have f2 : fitN 4 (a.1 j) = true := by simp only [fitN, Bool.or_eq_true, decide_eq_true_eq, Int.reducePow]; right; omega
    rw [f1, f2, uM_pos h1.1 (by omega), uM_pos h2.1 (by omega)]
    simp
  unfold eC fitC bytC
  by_cases c1 : c = 109
  · simp only [c1, if_true, true_or]
    rw [hm 13 14 (by omega) (by omega)]
    simp
  by_cases c2 : c = 77
  · simp only [c2, if_true, or_true, Nat.reduceEqDiff, if_false]
    rw [hm 24 25 (by omega) (by omega)]
    simp
  by_cases c3 : c = 110
  · simp only [c3, if_true, Nat.reduceEqDiff, if_false, or_self]
    exact eL_spec _ s ha.n ha.nl
  by_cases c4 : c = 78
  · simp only [c4, if_true, Nat.reduceEqDiff, if_false, or_self]
    exact eL_spec _ s ha.m ha.ml
  simp only [c1, c2, c3, c4, if_false, or_self]
  rw [e1_spec _ _ (ha.i _) (wid_le c)]
  exact ⟨rfl, fun _ => rfl⟩
theorem eLs_spec (a : Evt) (ha : wf a) : ∀ (l : List Nat) (s : Out), (eLs a s l).2 = (s.2 || !l.all (fitC a)) ∧ ((eLs a s l).2 = false → (eLs a s l).1 = s.1 ++ l.flatMap (bytC a))
  | [], s => by simp [eLs]
  | c :: l, s => by
    obtain ⟨h1, h2⟩ := eC_spec a ha s c
    obtain ⟨h3, h4⟩ := eLs_spec a ha l (eC a s c)
    rw [show eLs a s (c :: l) = eLs a (eC a s c) l from rfl]
    refine ⟨by rw [h3, h1, List.all_cons, Bool.not_and, Bool.or_assoc], fun hz => ?_⟩
    rw [h4 hz, h2, List.flatMap_cons, List.append_assoc]
    rw [h3] at hz
    cases hx : (eC a s c).2
    · rfl
    · rw [hx] at hz; simp at hz
def fld (a : Evt) : Option (List Nat) := if a.1 0 = 1 then callL (a.1 1) else if a.1 0 = 2 then liveL (a.1 15) else if a.1 0 = 3 then some [116] else none
def headB (a : Evt) : List Int := if a.1 0 = 1 then [1, a.1 1] else if a.1 0 = 2 then [2, a.1 15] else [a.1 0]
def fitE (a : Evt) : Bool := match fld a with
  | some l => l.all (fitC a)
  | none => false
def bytE (a : Evt) : List Int := match fld a with
  | some l => headB a ++ l.flatMap (bytC a)
  | none => []
theorem callL_rng {s : Int} {l : List Nat} (h : callL s = some l) : 1 ≤ s ∧ s ≤ 20 := by
  by_cases hs : s < 1 ∨ 20 < s
  · rw [callL_none hs] at h; cases h
  · omega
theorem liveL_rng {s : Int} {l : List Nat} (h : liveL s = some l) : 1 ≤ s ∧ s ≤ 10 := by
  by_cases hs : s < 1 ∨ 10 < s
  · rw [liveL_none hs] at h; cases h
  · omega
theorem e1_small {x : Int} (h : 0 ≤ x ∧ x < 256) (s : Out) : e1 1 x s = (s.1 ++ [x], s.2) := by
  rw [e1_spec 1 x (by omega) (by decide), uM_pos h.1 (by omega), dig1 h]
  have : fitN 1 x = true := by simp only [fitN, Bool.or_eq_true, decide_eq_true_eq]; right; omega
  rw [this]; simp
theorem encP_spec (a : Evt) (ha : wf a) : (encP a).2 = !fitE a ∧ (fitE a = true → (encP a).1 = bytE a) := by
  rw [encP, eEv_eq, fitE, bytE, fld, headB]
  by_cases k1 : a.1 0 = 1
  · simp only [if_pos k1]
    rw [k1]
    cases hc : callL (a.1 1) with
    | none => exact ⟨rfl, fun h => by cases h⟩
    | some l =>
      have hr := callL_rng hc
      obtain ⟨h1, h2⟩ := eLs_spec a ha l (e1 1 (a.1 1) (e1 1 1 ([], false)))
      rw [e1_small (x := 1) (by decide), e1_small (x := a.1 1) (by omega)] at h1 h2
      rw [eSub, e1_small (x := 1) (by decide), e1_small (x := a.1 1) (by omega)]
      rw [Bool.false_or] at h1
      exact ⟨h1, fun h => h2 (by have h' : l.all (fitC a) = true := h; rw [h1, h']; rfl)⟩
  by_cases k2 : a.1 0 = 2
  · simp only [if_neg k1, if_pos k2]
    rw [k2]
    cases hc : liveL (a.1 15) with
    | none => exact ⟨rfl, fun h => by cases h⟩
    | some l =>
      have hr := liveL_rng hc
      obtain ⟨h1, h2⟩ := eLs_spec a ha l (e1 1 (a.1 15) (e1 1 2 ([], false)))
      rw [e1_small (x := 2) (by decide), e1_small (x := a.1 15) (by omega)] at h1 h2
      rw [eSub, e1_small (x := 2) (by decide), e1_small (x := a.1 15) (by omega)]
      rw [Bool.false_or] at h1
      exact ⟨h1, fun h => h2 (by have h' : l.all (fitC a) = true := h; rw [h1, h']; rfl)⟩
  by_cases k3 : a.1 0 = 3
  · simp only [if_neg k1, if_neg k2, if_pos k3]
    rw [k3]
    obtain ⟨h1, h2⟩ := eLs_spec a ha [116] (e1 1 3 ([], false))
    rw [e1_small (x := 3) (by decide)] at h1 h2 ⊢
    rw [Bool.false_or] at h1
    exact ⟨h1, fun h => h2 (by have h' : [116].all (fitC a) = true := h; rw [h1, h']; rfl)⟩
  · simp only [if_neg k1, if_neg k2, if_neg k3]
    exact ⟨rfl, fun h => by cases h⟩
theorem wrap_i64_mod (n : Int) : IntKind.i64.wrap n = if 9223372036854775808 ≤ n % 18446744073709551616 then n % 18446744073709551616 - 18446744073709551616 else n % 18446744073709551616 := by
  have e : (2 : Int) ^ IntKind.i64.bits = 18446744073709551616 := rfl
  have e2 : (2 : Int) ^ (IntKind.i64.bits - 1) = 9223372036854775808 := rfl
  unfold IntKind.wrap
  simp only [e, e2]
  by_cases h : 9223372036854775808 ≤ n % 18446744073709551616
  · rw [if_pos h, if_pos (by simp only [Bool.and_eq_true, decide_eq_true_eq]; exact ⟨rfl, h⟩)]
  · rw [if_neg h, if_neg (by simp only [Bool.and_eq_true, decide_eq_true_eq]; exact fun x => h x.2)]
theorem uM_wrap {n : Int} (h0 : 0 ≤ n) (h1 : n < 18446744073709551616) : uM (IntKind.i64.wrap n) = n := by
  rw [wrap_i64_mod, uM]
  split <;> omega
theorem wrap_uM {x : Int} (h : -2 ^ 63 ≤ x ∧ x < 2 ^ 63) : IntKind.i64.wrap (uM x) = x := by
  rw [wrap_i64_mod, uM]
  split <;> omega
theorem wrap_rng (n : Int) : -2 ^ 63 ≤ IntKind.i64.wrap n ∧ IntKind.i64.wrap n < 2 ^ 63 := by
  rw [wrap_i64_mod]
  have := Int.emod_nonneg n (show (18446744073709551616 : Int) ≠ 0 by decide)
  have := Int.emod_lt_of_pos n (show (0 : Int) < 18446744073709551616 by decide)
  split <;> constructor <;> omega
theorem dig_num {u : List Int} (h : isY u) (hl : u.length ≤ 8) : dig (num u) u.length = u ∧ 0 ≤ num u ∧ num u < 256 ^ u.length := by
  rw [num_val _ u rfl hl h]
  exact ⟨dig_val u h, val_bd u h⟩
theorem pN_ok {w : Nat} {k : Int → Evt → Evt} {x y : Evt} {r r' : List Int} (hr : isY r) (hw : w ≤ 8) (h : pN w k x r = .ok y r') : ∃ n, 0 ≤ n ∧ n < 256 ^ w ∧ y = k n x ∧ r = dig n w ++ r' := by
  rw [pN] at h
  split at h
  · rename_i hl
    cases h
    have hu : isY (r.take w) := fun b hb => hr b (List.mem_of_mem_take hb)
    have hlen : (r.take w).length = w := by rw [List.length_take]; omega
    obtain ⟨h1, h2, h3⟩ := dig_num hu (by omega)
    rw [hlen] at h1 h3
    exact ⟨num (r.take w), h2, h3, rfl, by rw [h1, List.take_append_drop]⟩
  · cases h
theorem pN_of {w : Nat} {k : Int → Evt → Evt} {x : Evt} {n : Int} {r : List Int} (h0 : 0 ≤ n) (h1 : n < 256 ^ w) (hw : w ≤ 8) : pN w k x (dig n w ++ r) = .ok (k n x) r := by
  rw [pN, if_pos (by rw [List.length_append, dig_length]; omega), List.take_left' (dig_length _ _), List.drop_left' (dig_length _ _), num_dig n w h0 hw, Int.emod_eq_of_lt h0 h1]
theorem upd_self (x : Evt) (i : Nat) (n : Int) : (upd x i n).1 i = n := by simp [upd]
theorem upd_other {x : Evt} {i j : Nat} (n : Int) (h : j ≠ i) : (upd x i n).1 j = x.1 j := by simp [upd, h]
theorem wid8 {c : Nat} (h : ¬(c = 97 ∨ c = 101 ∨ c = 116)) : wid c ≤ 4 := by
  unfold wid
  repeat' split
  all_goals first | decide | omega
theorem pow_le4 : ∀ w : Nat, w ≤ 4 → (256 : Int) ^ w ≤ 4294967296 := by decide
theorem pC_ok {c : Nat} {x y : Evt} {r r' : List Int} (hr : isY r) (h : pC c x r = .ok y r') : fitC y c = true ∧ r = bytC y c ++ r' ∧ y = putC x y c := by
  unfold pC at h
  unfold fitC bytC putC
  by_cases c1 : c = 109
  · simp only [c1, if_true, true_or] at h ⊢
    cases hp : pN 4 (upd' 13) x r with
    | no e => rw [hp] at h; cases h
    | ok x1 r1 =>
      rw [hp] at h
      obtain ⟨n, n0, n1, rfl, rfl⟩ := pN_ok hr (by decide) hp
      obtain ⟨m, m0, m1, rfl, rfl⟩ := pN_ok (fun b hb => hr b (by simp [hb])) (by decide) h
      have e1 : (upd' 14 m (upd' 13 n x)).1 13 = n := rfl
      have e2 : (upd' 14 m (upd' 13 n x)).1 14 = m := rfl
      rw [e1, e2, List.append_assoc]
      exact ⟨trivial, rfl, rfl⟩
  by_cases c2 : c = 77
  · simp only [c2, if_true, or_true, Nat.reduceEqDiff, if_false] at h ⊢
    cases hp : pN 4 (upd' 24) x r with
    | no e => rw [hp] at h; cases h
    | ok x1 r1 =>
      rw [hp] at h
      obtain ⟨n, n0, n1, rfl, rfl⟩ := pN_ok hr (by decide) hp
      obtain ⟨m, m0, m1, rfl, rfl⟩ := pN_ok (fun b hb => hr b (by simp [hb])) (by decide) h
      have e1 : (upd' 25 m (upd' 24 n x)).1 24 = n := rfl
      have e2 : (upd' 25 m (upd' 24 n x)).1 25 = m := rfl
      rw [e1, e2, List.append_assoc]
      exact ⟨trivial, rfl, rfl⟩
  have hL : ∀ (k : List Int → Evt → Evt), pL k x r = .ok y r' → ∃ l, y = k l x ∧ fitL l = true ∧ r = (l.length : Int) :: l ++ r' := by
    intro k h
    cases r with
    | nil => cases h
    | cons n r =>
      rw [pL] at h
      split at h
      · cases h
      rename_i h32
      split at h
      · rename_i hl
        cases h
        have hn := hr n (by simp)
        have hlen : (r.take n.toNat).length = n.toNat := by rw [List.length_take]; omega
        refine ⟨r.take n.toNat, rfl, ?_, ?_⟩
        · rw [fitL, Bool.and_eq_true, decide_eq_true_eq, List.all_eq_true]
          exact ⟨by omega, fun b hb => decide_eq_true (hr b (by simp [List.mem_of_mem_take hb]))⟩
        · rw [hlen, show ((n.toNat : Nat) : Int) = n by omega, List.cons_append, List.take_append_drop]
      · cases h
  by_cases c3 : c = 110
  · simp only [c3, if_true, Nat.reduceEqDiff, if_false, or_self] at h ⊢
    obtain ⟨l, rfl, h1, h2⟩ := hL _ h
    exact ⟨h1, h2, rfl⟩
  by_cases c4 : c = 78
  · simp only [c4, if_true, Nat.reduceEqDiff, if_false, or_self] at h ⊢
    obtain ⟨l, rfl, h1, h2⟩ := hL _ h
    exact ⟨h1, h2, rfl⟩
  simp only [c1, c2, c3, c4, if_false, or_self] at h ⊢
  have hN : ∀ w, w ≤ 4 → pN w (upd' (cel c)) x r = .ok y r' → wid c = w → fitN (wid c) (y.1 (cel c)) = true ∧ r = dig (uM (y.1 (cel c))) (wid c) ++ r' ∧ y = upd x (cel c) (y.1 (cel c)) := by
    intro w hw h hwid
    obtain ⟨n, n0, n1, rfl, rfl⟩ := pN_ok hr (by omega) h
    have e : (upd' (cel c) n x).1 (cel c) = n := upd_self _ _ _
    have := pow_le4 w hw
    rw [e, hwid, uM_pos n0 (by omega)]
    exact ⟨by simp only [fitN, Bool.or_eq_true, decide_eq_true_eq]; exact Or.inr ⟨n0, n1⟩, rfl, rfl⟩
  by_cases c5 : c = 102
  · rw [if_pos c5] at h
    subst c5
    rw [pT] at h
    cases hp : pN 1 (upd' 5) x r with
    | no e => rw [hp] at h; cases h
    | ok x1 r1 =>
      rw [hp] at h
      simp only [Pr.bind] at h
      split at h
      · cases h
        exact hN 1 (by decide) hp rfl
      · cases h
  rw [if_neg c5] at h
  by_cases c6 : c = 97 ∨ c = 101 ∨ c = 116
  · rw [if_pos c6] at h
    have hwid : wid c = 8 := by rcases c6 with rfl | rfl | rfl <;> rfl
    obtain ⟨n, n0, n1, rfl, rfl⟩ := pN_ok hr (by decide) h
    have e : (upd' (cel c) (IntKind.i64.wrap n) x).1 (cel c) = IntKind.i64.wrap n := upd_self _ _ _
    rw [e, hwid, uM_wrap n0 n1]
    exact ⟨rfl, rfl, rfl⟩
  · rw [if_neg c6] at h
    exact hN _ (wid8 c6) h rfl
theorem pC_of {c : Nat} {x a : Evt} (ha : wf a) {r : List Int} (hf : fitC a c = true) : pC c x (bytC a c ++ r) = .ok (putC x a c) r := by
  unfold fitC at hf
  unfold pC bytC putC
  have hm : ∀ i, (i = 13 ∨ i = 14 ∨ i = 24 ∨ i = 25 ∨ i = 26) → 0 ≤ a.1 i ∧ a.1 i < 256 ^ 4 := fun i hi => by
    rw [show (256 : Int) ^ 4 = 2 ^ 32 by decide]
    exact ha.u i hi
  by_cases c1 : c = 109
  · simp only [c1, if_true]
    rw [List.append_assoc, pN_of (hm 13 (by omega)).1 (hm 13 (by omega)).2 (by decide)]
    exact pN_of (hm 14 (by omega)).1 (hm 14 (by omega)).2 (by decide)
  by_cases c2 : c = 77
  · simp only [c2, if_true, Nat.reduceEqDiff, if_false]
    rw [List.append_assoc, pN_of (hm 24 (by omega)).1 (hm 24 (by omega)).2 (by decide)]
    exact pN_of (hm 25 (by omega)).1 (hm 25 (by omega)).2 (by decide)
  have hL : ∀ (k : List Int → Evt → Evt) (l : List Int), fitL l = true → pL k x (((l.length : Int) :: l) ++ r) = .ok (k l x) r := by
    intro k l hl
    rw [fitL, Bool.and_eq_true, decide_eq_true_eq] at hl
    rw [List.cons_append, pL, if_neg (by omega), Int.toNat_natCast, if_pos (by rw [List.length_append]; omega), List.take_left' rfl, List.drop_left' rfl]
  by_cases c3 : c = 110
  · simp only [c3, if_true, Nat.reduceEqDiff, if_false, or_self] at hf ⊢
    exact hL _ _ hf
  by_cases c4 : c = 78
  · simp only [c4, if_true, Nat.reduceEqDiff, if_false, or_self] at hf ⊢
    exact hL _ _ hf
  simp only [c1, c2, c3, c4, if_false, or_self] at hf ⊢
  have hfit : wid c ≤ 4 → 0 ≤ a.1 (cel c) ∧ a.1 (cel c) < 256 ^ wid c := fun hw => by
    rw [fitN, Bool.or_eq_true, decide_eq_true_eq, decide_eq_true_eq] at hf
    exact hf.resolve_left (by omega)
  by_cases c5 : c = 102
  · subst c5
    have h := hfit (by decide)
    rw [show wid 102 = 1 from rfl] at h
    have h5 := ha.f
    have h9 : a.1 (cel 102) < 256 := by have := h.2; rw [Int.pow_one] at this; exact this
    rw [if_pos rfl, pT, show wid 102 = 1 from rfl, uM_pos h.1 (by omega)]
    rw [pN_of h.1 h.2 (by decide)]
    simp only [Pr.bind]
    rw [if_pos]
    · rfl
    · show decide ((upd' 5 (a.1 5) x).1 5 ≤ 1) = true
      rw [upd', upd_self]
      exact decide_eq_true (by omega)
  rw [if_neg c5]
  by_cases c6 : c = 97 ∨ c = 101 ∨ c = 116
  · have hwid : wid c = 8 := by rcases c6 with rfl | rfl | rfl <;> rfl
    obtain ⟨u0, u1⟩ := uM_bd (a.1 (cel c))
    rw [if_pos c6, hwid, pN_of u0 u1 (by decide), wrap_uM (ha.i _)]
    rfl
  · have h := hfit (wid8 c6)
    have := pow_le4 _ (wid8 c6)
    rw [if_neg c6, uM_pos h.1 (by omega), pN_of h.1 h.2 (wid_le c)]
    rfl
theorem wf_upd {a : Evt} (ha : wf a) {i : Nat} {x : Int} (hi : i < 29 ∧ i ≠ 6 ∧ i ≠ 27 ∧ i ≠ 5) (hx : -2 ^ 63 ≤ x ∧ x < 2 ^ 63) (hu : (i = 13 ∨ i = 14 ∨ i = 24 ∨ i = 25 ∨ i = 26) → 0 ≤ x ∧ x < 2 ^ 32) : wf (upd a i x) where
  i j := by by_cases h : j = i
            · subst h; rw [upd_self]; exact hx
            · rw [upd_other _ h]; exact ha.i j
  u j hj := by by_cases h : j = i
               · subst h; rw [upd_self]; exact hu hj
               · rw [upd_other _ h]; exact ha.u j hj
  f := by rw [upd_other _ (by omega)]; exact ha.f
  z j hj := by rw [upd_other _ (by omega)]; exact ha.z j hj
  n := ha.n
  m := ha.m
  nl := ha.nl
  ml := ha.ml
theorem wf_upd5 {a : Evt} (ha : wf a) {x : Int} (hx : x = 0 ∨ x = 1) : wf (upd a 5 x) where
  i j := by by_cases h : j = 5
            · subst h; rw [upd_self]; omega
            · rw [upd_other _ h]; exact ha.i j
  u j hj := by rw [upd_other _ (by omega)]; exact ha.u j hj
  f := by rw [upd_self]; exact hx
  z j hj := by rw [upd_other _ (by omega)]; exact ha.z j hj
  n := ha.n
  m := ha.m
  nl := ha.nl
  ml := ha.ml
theorem wf_setL {a : Evt} (ha : wf a) {l : List Int} (hl : fitL l = true) : wf (setL a l) := by
  rw [fitL, Bool.and_eq_true, decide_eq_true_eq, List.all_eq_true] at hl
  exact ⟨ha.i, ha.u, ha.f, ha.z, fun x hx => by have := of_decide_eq_true (hl.2 x hx); omega, ha.m, by show l.length < _; omega, ha.ml⟩
theorem wf_setM {a : Evt} (ha : wf a) {l : List Int} (hl : fitL l = true) : wf (setM a l) := by
  rw [fitL, Bool.and_eq_true, decide_eq_true_eq, List.all_eq_true] at hl
  exact ⟨ha.i, ha.u, ha.f, ha.z, ha.n, fun x hx => by have := of_decide_eq_true (hl.2 x hx); omega, ha.nl, by show l.length < _; omega⟩
theorem wf_ev0 : wf ev0 where
  i _ := by show -2 ^ 63 ≤ (0 : Int) ∧ (0 : Int) < 2 ^ 63; decide
  u _ _ := by show 0 ≤ (0 : Int) ∧ (0 : Int) < 2 ^ 32; decide
  f := Or.inl rfl
  z _ _ := rfl
  n x hx := by cases hx
  m x hx := by cases hx
  nl := by decide
  ml := by decide
theorem cel_big {c : Nat} (h : 127 < c) : cel c = 19 := by
  unfold cel
  rw [if_neg (by omega), if_neg (by omega), if_neg (by omega), if_neg (by omega), if_neg (by omega), if_neg (by omega), if_neg (by omega), if_neg (by omega), if_neg (by omega), if_neg (by omega), if_neg (by omega), if_neg (by omega), if_neg (by omega), if_neg (by omega), if_neg (by omega), if_neg (by omega), if_neg (by omega), if_neg (by omega), if_neg (by omega)]
theorem cel_mem0 : ∀ c : Nat, c < 128 → cel c ∈ [9, 10, 11, 12, 2, 3, 4, 5, 7, 8, 28, 16, 22, 23, 20, 17, 18, 26, 21, 19] := by decide
theorem cel_mem (c : Nat) : cel c ∈ [9, 10, 11, 12, 2, 3, 4, 5, 7, 8, 28, 16, 22, 23, 20, 17, 18, 26, 21, 19] := by
  by_cases h : c < 128
  · exact cel_mem0 c h
  · rw [cel_big (by omega)]; decide
theorem cel_all : ∀ v ∈ [9, 10, 11, 12, 2, 3, 4, 5, 7, 8, 28, 16, 22, 23, 20, 17, 18, 26, 21, 19], v < 29 ∧ v ≠ 6 ∧ v ≠ 27 ∧ v ≠ 13 ∧ v ≠ 14 ∧ v ≠ 24 ∧ v ≠ 25 ∧ v ≠ 0 ∧ v ≠ 1 ∧ v ≠ 15 := by decide
theorem cel_rng (c : Nat) : cel c < 29 ∧ cel c ≠ 6 ∧ cel c ≠ 27 ∧ cel c ≠ 13 ∧ cel c ≠ 14 ∧ cel c ≠ 24 ∧ cel c ≠ 25 ∧ cel c ≠ 0 ∧ cel c ≠ 1 ∧ cel c ≠ 15 := cel_all _ (cel_mem c)
theorem cel5_0 : ∀ c : Nat, c < 128 → c ≠ 102 → cel c ≠ 5 := by decide
theorem cel5 {c : Nat} (h : c ≠ 102) : cel c ≠ 5 := by
  by_cases hc : c < 128
  · exact cel5_0 c hc h
  · rw [cel_big (by omega)]; decide
theorem cel26_0 : ∀ c : Nat, c < 128 → cel c = 26 → wid c = 4 := by decide
theorem cel26 {c : Nat} (h : cel c = 26) : wid c = 4 := by
  by_cases hc : c < 128
  · exact cel26_0 c hc h
  · rw [cel_big (by omega)] at h; cases h
theorem wf_pC {c : Nat} {x y : Evt} {r r' : List Int} (hx : wf x) (hr : isY r) (h : pC c x r = .ok y r') : wf y := by
  obtain ⟨h1, h2, h3⟩ := pC_ok hr h
  unfold fitC at h1
  unfold putC at h3
  unfold pC at h
  by_cases c1 : c = 109
  · simp only [c1, if_true] at h3 h
    cases hp : pN 4 (upd' 13) x r with
    | no e => rw [hp] at h; cases h
    | ok x1 r1 =>
      rw [hp] at h
      obtain ⟨n, n0, n1, rfl, rfl⟩ := pN_ok hr (by decide) hp
      obtain ⟨m, m0, m1, rfl, rfl⟩ := pN_ok (fun b hb => hr b (by simp [hb])) (by decide) h
      rw [show (256 : Int) ^ 4 = 2 ^ 32 by decide] at n1 m1
      exact wf_upd (wf_upd hx (by decide) (by omega) (fun _ => ⟨n0, n1⟩)) (by decide) (by omega) (fun _ => ⟨m0, m1⟩)
  by_cases c2 : c = 77
  · simp only [c2, if_true, Nat.reduceEqDiff, if_false] at h3 h
    cases hp : pN 4 (upd' 24) x r with
    | no e => rw [hp] at h; cases h
    | ok x1 r1 =>
      rw [hp] at h
      obtain ⟨n, n0, n1, rfl, rfl⟩ := pN_ok hr (by decide) hp
      obtain ⟨m, m0, m1, rfl, rfl⟩ := pN_ok (fun b hb => hr b (by simp [hb])) (by decide) h
      rw [show (256 : Int) ^ 4 = 2 ^ 32 by decide] at n1 m1
      exact wf_upd (wf_upd hx (by decide) (by omega) (fun _ => ⟨n0, n1⟩)) (by decide) (by omega) (fun _ => ⟨m0, m1⟩)
  by_cases c3 : c = 110
  · simp only [c3, if_true, Nat.reduceEqDiff, if_false, or_self] at h1 h3
    rw [h3]; exact wf_setL hx h1
  by_cases c4 : c = 78
  · simp only [c4, if_true, Nat.reduceEqDiff, if_false, or_self] at h1 h3
    rw [h3]; exact wf_setM hx h1
  simp only [c1, c2, c3, c4, if_false, or_self] at h1 h3 h
  by_cases c5 : c = 102
  · subst c5
    rw [if_pos rfl, pT] at h
    cases hp : pN 1 (upd' 5) x r with
    | no e => rw [hp] at h; cases h
    | ok x1 r1 =>
      rw [hp] at h
      simp only [Pr.bind] at h
      split at h
      · rename_i ho
        cases h
        obtain ⟨n, n0, n1, rfl, rfl⟩ := pN_ok hr (by decide) hp
        have ho := of_decide_eq_true ho
        rw [upd', upd_self] at ho
        exact wf_upd5 hx (by omega)
      · cases h
  rw [if_neg c5] at h
  have hc := cel_rng c
  have hc5 := cel5 c5
  by_cases c6 : c = 97 ∨ c = 101 ∨ c = 116
  · rw [if_pos c6] at h
    obtain ⟨n, n0, n1, rfl, rfl⟩ := pN_ok hr (by decide) h
    refine wf_upd hx ⟨hc.1, hc.2.1, hc.2.2.1, hc5⟩ (wrap_rng n) (fun hi => ?_)
    have : cel c = 26 := by omega
    have hw := cel26 this
    rcases c6 with rfl | rfl | rfl <;> cases hw
  · rw [if_neg c6] at h
    obtain ⟨n, n0, n1, rfl, rfl⟩ := pN_ok hr (wid_le c) h
    have := pow_le4 _ (wid8 c6)
    exact wf_upd hx ⟨hc.1, hc.2.1, hc.2.2.1, hc5⟩ (by omega) (fun _ => by omega)
theorem Good.suf {f : Evt → List Int → Pr} (hf : Good f) {a a' : Evt} {r r' : List Int} (h : f a r = .ok a' r') (hr : isY r) : isY r' := by
  obtain ⟨u, rfl, -, -⟩ := hf a r a' r' h
  exact fun b hb => hr b (by simp [hb])
theorem wf_pLs : ∀ (l : List Nat) (x y : Evt) (r r' : List Int), wf x → isY r → pLs l x r = .ok y r' → wf y
  | [], x, y, r, r', hx, hr, h => by cases h; exact hx
  | c :: l, x, y, r, r', hx, hr, h => by
    replace h : (pC c x r).bind (pLs l) = .ok y r' := h
    cases hp : pC c x r with
    | no e => rw [hp] at h; cases h
    | ok x1 r1 =>
      rw [hp] at h
      exact wf_pLs l x1 y r1 r' (wf_pC hx hr hp) ((pC_good c).suf hp hr) h
theorem wf_byte {a : Evt} (ha : wf a) {i : Nat} {n : Int} (hi : i = 0 ∨ i = 1 ∨ i = 15) (h0 : 0 ≤ n) (h1 : n < 256 ^ 1) : wf (upd' i n a) := by
  rw [Int.pow_one] at h1
  exact wf_upd ha (by omega) (by omega) (fun _ => by omega)
theorem wf_pSub {i : Nat} {fl : Int → Option (List Nat)} {x y : Evt} {r r' : List Int} (hi : i = 1 ∨ i = 15) (hx : wf x) (hr : isY r) (h : pSub i fl x r = .ok y r') : wf y := by
  rw [pSub] at h
  cases hp : pN 1 (upd' i) x r with
  | no e => rw [hp] at h; cases h
  | ok x1 r1 =>
    rw [hp] at h
    have hs := (pN_good 1 (upd' i)).suf hp hr
    obtain ⟨n, n0, n1, rfl, rfl⟩ := pN_ok hr (by decide) hp
    have hx1 := wf_byte (i := i) hx (by omega) n0 n1
    simp only [Pr.bind] at h
    cases hf : fl ((upd' i n x).1 i) with
    | none => rw [hf] at h; cases h
    | some l => rw [hf] at h; exact wf_pLs l _ _ _ _ hx1 hs h
theorem wf_pEv {x y : Evt} {r r' : List Int} (hx : wf x) (hr : isY r) (h : pEv x r = .ok y r') : wf y := by
  rw [pEv] at h
  cases hp : pN 1 (upd' 0) x r with
  | no e => rw [hp] at h; cases h
  | ok x1 r1 =>
    rw [hp] at h
    have hs := (pN_good 1 (upd' 0)).suf hp hr
    obtain ⟨n, n0, n1, rfl, rfl⟩ := pN_ok hr (by decide) hp
    have hx1 := wf_byte (i := 0) hx (by omega) n0 n1
    replace h : pKind (upd' 0 n x) r1 = .ok y r' := h
    rw [pKind] at h
    split at h
    · exact wf_pSub (Or.inl rfl) hx1 hs h
    split at h
    · exact wf_pSub (Or.inr rfl) hx1 hs h
    split at h
    · exact wf_pLs _ _ _ _ _ hx1 hs h
    · cases h
theorem wf_decA {b : List Int} (hb : isY b) : wf (decA b) := by
  rw [(decE_eq hb).2]
  cases h : pD b with
  | no e => exact wf_ev0
  | ok a r =>
    rw [resA]
    split
    · exact wf_pEv wf_ev0 hb h
    · exact wf_ev0
end Go.Proofs.Ytmieikflcolbaaa

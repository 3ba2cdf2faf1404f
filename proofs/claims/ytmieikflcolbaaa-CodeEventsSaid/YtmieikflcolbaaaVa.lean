/- Bytes read and written, in plain Lean: parsers that take what they take. No condition. -/
import Derived.Test.YtmieikflcolbaaaFd
import Derived.Test.YtmieikflcolbaaaCa
namespace Go.Proofs.Ytmieikflcolbaaa
open Go Go.Sy
set_option maxRecDepth 100000
set_option linter.unusedSimpArgs false
set_option linter.unusedVariables false

/-- What is read of bytes: an event and what is left, or an error. -/
inductive Pr where
  | ok (a : Evt) (r : List Int)
  | no (e : Int)
def Pr.bind (x : Pr) (f : Evt → List Int → Pr) : Pr := match x with
  | .ok a r => f a r
  | .no e => .no e
/-- It takes just so many. -/
def Good (f : Evt → List Int → Pr) : Prop := ∀ a r a' r', f a r = .ok a' r' → ∃ u, r = u ++ r' ∧ (∀ t, f a (u ++ t) = .ok a' t) ∧ ∀ j, j < u.length → f a (u.take j) = .no 7
theorem Good.bind {f g : Evt → List Int → Pr} (hf : Good f) (hg : Good g) : Good fun a r => (f a r).bind g := by
  intro a r a' r' h
  replace h : (f a r).bind g = .ok a' r' := h
  cases hfr : f a r with
  | no e => rw [hfr] at h; simp [Pr.bind] at h
  | ok a1 r1 =>
    rw [hfr] at h
    replace h : g a1 r1 = .ok a' r' := h
    obtain ⟨u, rfl, h1, h2⟩ := hf a r a1 r1 hfr
    obtain ⟨v, rfl, h3, h4⟩ := hg a1 r1 a' r' h
    refine ⟨u ++ v, (List.append_assoc ..).symm, fun t => ?_, fun j hj => ?_⟩
    · show (f a (u ++ v ++ t)).bind g = _
      rw [List.append_assoc, h1]
      exact h3 t
    · show (f a ((u ++ v).take j)).bind g = _
      by_cases hju : j < u.length
      · rw [List.take_append_of_le_length (by omega), h2 j hju]
        rfl
      · rw [List.take_append, List.take_of_length_le (by omega), h1]
        exact h4 _ (by simp only [List.length_append] at hj; omega)
/-- A number of so many bytes. -/
def pN (w : Nat) (k : Int → Evt → Evt) : Evt → List Int → Pr := fun a r => if w ≤ r.length then .ok (k (num (r.take w)) a) (r.drop w) else .no 7
theorem pN_good (w : Nat) (k : Int → Evt → Evt) : Good (pN w k) := by
  intro a r a' r' h
  rw [pN] at h
  split at h
  · rename_i hw
    cases h
    refine ⟨r.take w, (List.take_append_drop ..).symm, fun t => ?_, fun j hj => ?_⟩
    · rw [pN, if_pos (by simp; omega), List.take_append_of_le_length (by simp; omega), List.take_take, Nat.min_self, List.drop_append_of_le_length (by simp; omega), List.drop_of_length_le (by simp only [List.length_take]; omega), List.nil_append]
    · rw [pN, if_neg (by simp only [List.length_take] at hj ⊢; omega)]
  · cases h
/-- A number that may be no more. -/
def pT (f : Evt → List Int → Pr) (ok : Evt → Bool) : Evt → List Int → Pr := fun a r => (f a r).bind fun a' r' => if ok a' = true then .ok a' r' else .no 361
theorem pT_good {f : Evt → List Int → Pr} (hf : Good f) (ok : Evt → Bool) : Good (pT f ok) := by
  refine hf.bind ?_
  intro a r a' r' h
  dsimp only at h
  split at h
  · rename_i ho
    cases h
    exact ⟨[], rfl, fun t => by simp [ho], fun j hj => absurd hj (by simp)⟩
  · cases h
/-- A list. -/
def pL (k : List Int → Evt → Evt) : Evt → List Int → Pr := fun a r => match r with
  | [] => .no 7
  | n :: r => if 32 < n then .no 361 else if n.toNat ≤ r.length then .ok (k (r.take n.toNat) a) (r.drop n.toNat) else .no 7
theorem pL_good (k : List Int → Evt → Evt) : Good (pL k) := by
  intro a r a' r' h
  cases r with
  | nil => cases h
  | cons n r =>
    rw [pL] at h
    split at h
    · cases h
    rename_i h32
    split at h
    · rename_i hl
      cases h
      refine ⟨n :: r.take n.toNat, by simp [List.take_append_drop], fun t => ?_, fun j hj => ?_⟩
      · rw [List.cons_append, pL, if_neg h32, if_pos (by simp; omega), List.take_append_of_le_length (by simp; omega), List.take_take, Nat.min_self, List.drop_append_of_le_length (by simp; omega), List.drop_of_length_le (by simp only [List.length_take]; omega), List.nil_append]
      · cases j with
        | zero => rfl
        | succ j =>
          simp only [List.length_cons, List.length_take] at hj
          rw [List.take_succ_cons, pL, if_neg h32, if_neg (by simp only [List.length_take]; omega)]
    · cases h
/-- A letter. -/
def upd' (i : Nat) (x : Int) (a : Evt) : Evt := upd a i x
def pC (c : Nat) : Evt → List Int → Pr :=
  if c = 109 then fun a r => (pN 4 (upd' 13) a r).bind (pN 4 (upd' 14))
  else if c = 77 then fun a r => (pN 4 (upd' 24) a r).bind (pN 4 (upd' 25))
  else if c = 110 then pL (fun l a => setL a l) else if c = 78 then pL (fun l a => setM a l)
  else if c = 102 then pT (pN 1 (upd' 5)) (fun a => decide (a.1 5 ≤ 1))
  else if c = 97 ∨ c = 101 ∨ c = 116 then pN 8 (fun x => upd' (cel c) (IntKind.i64.wrap x))
  else pN (wid c) (upd' (cel c))
theorem pC_good (c : Nat) : Good (pC c) := by
  unfold pC
  repeat' split
  · exact (pN_good _ _).bind (pN_good _ _)
  · exact (pN_good _ _).bind (pN_good _ _)
  · exact pL_good _
  · exact pL_good _
  · exact pT_good (pN_good _ _) _
  · exact pN_good _ _
  · exact pN_good _ _
def pLs : List Nat → Evt → List Int → Pr
  | [] => fun a r => .ok a r
  | c :: l => fun a r => (pC c a r).bind (pLs l)
theorem pLs_good : ∀ l : List Nat, Good (pLs l)
  | [] => fun a r a' r' h => by cases h; exact ⟨[], rfl, fun t => rfl, fun j hj => absurd hj (by simp)⟩
  | c :: l => (pC_good c).bind (pLs_good l)
/-- What two kinds carry. -/
def pSub (i : Nat) (fl : Int → Option (List Nat)) : Evt → List Int → Pr := fun a r => (pN 1 (upd' i) a r).bind fun a' r' => match fl (a'.1 i) with
  | some l => pLs l a' r'
  | none => .no 361
theorem pSub_good (i : Nat) (fl : Int → Option (List Nat)) : Good (pSub i fl) := by
  refine (pN_good _ _).bind ?_
  intro a r a' r' h
  dsimp only at h
  cases hf : fl (a.1 i) with
  | none => rw [hf] at h; cases h
  | some l =>
    rw [hf] at h
    obtain ⟨u, h1, h2, h3⟩ := pLs_good l a r a' r' h
    exact ⟨u, h1, fun t => by simp only [hf]; exact h2 t, fun j hj => by simp only [hf]; exact h3 j hj⟩
def pKind : Evt → List Int → Pr := fun a r => if a.1 0 = 1 then pSub 1 callL a r else if a.1 0 = 2 then pSub 15 liveL a r else if a.1 0 = 3 then pLs [116] a r else .no 361
theorem pKind_good : Good pKind := by
  intro a r a' r' h
  unfold pKind at h ⊢
  split at h
  · rename_i h1; simp only [h1, if_true]; exact pSub_good _ _ a r a' r' h
  split at h
  · rename_i h1 h2; simp only [h1, h2, if_true, if_false]; exact pSub_good _ _ a r a' r' h
  split at h
  · rename_i h1 h2 h3; simp only [h1, h2, h3, if_true, if_false]; exact pLs_good _ a r a' r' h
  · cases h
/-- An event. -/
def pEv : Evt → List Int → Pr := fun a r => (pN 1 (upd' 0) a r).bind pKind
theorem pEv_good : Good pEv := (pN_good _ _).bind pKind_good
end Go.Proofs.Ytmieikflcolbaaa

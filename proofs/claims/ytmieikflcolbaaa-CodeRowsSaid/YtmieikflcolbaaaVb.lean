/- Bytes read and written, in plain Lean: parsers that take what they take. No condition. -/
import Derived.Test.YtmieikflcolbaaaFd
import Derived.Test.YtmieikflcolbaaaCa
import Derived.Test.YtmieikflcolbaaaEh
namespace Go.Proofs.Ytmieikflcolbaaa
open Go Go.Sy
set_option maxRecDepth 100000
set_option linter.unusedSimpArgs false
set_option linter.unusedVariables false
inductive Pr where
  | ok (a : Evt) (r : List Int)
  | no (e : Int)
def Pr.bind (x : Pr) (f : Evt → List Int → Pr) : Pr := match x with
  | .ok a r => f a r
  | .no e => .no e
def Good (f : Evt → List Int → Pr) : Prop := ∀ a r a' r', f a r = .ok a' r' → ∃ u, r = u ++ r' ∧ (∀ t, f a (u ++ t) = .ok a' t) ∧ ∀ j, j < u.length → f a (u.take j) = .no 7
theorem Good.bind {f g : Evt → List Int → Pr} (hf : Good f) (hg : Good g) : Good fun a r => (f a r).bind g := by
  intro a r a' r' h
  replace h : (f a r).bind g = .ok a' r' := h
  cases hfr : f a r with
  | no e => rw [hfr] at h; simp [Pr.bind] at h
  | ok a1 r1 =>
    rw [hfr] at h
    replace h : g a1 r1 = .ok a' r' := h
    obtain ⟨u, rfl, h1, h2⟩ := hf a r a1 r1 hfr
    obtain ⟨v, rfl, h3, h4⟩ := hg a1 r1 a' r' h
    refine ⟨u ++ v, (List.append_assoc ..).symm, fun t => ?_, fun j hj => ?_⟩
    · show (f a (u ++ v ++ t)).bind g = _
      rw [List.append_assoc, h1]
      exact h3 t
    · show (f a ((u ++ v).take j)).bind g = _
      by_cases hju : j < u.length
      · rw [List.take_append_of_le_length (by omega), h2 j hju]
        rfl
      · rw [List.take_append, List.take_of_length_le (by omega), h1]
        exact h4 _ (by simp only [List.length_append] at hj; omega)
def pN (w : Nat) (k : Int → Evt → Evt) : Evt → List Int → Pr := fun a r => if w ≤ r.length then .ok (k (num (r.take w)) a) (r.drop w) else .no 7
theorem pN_good (w : Nat) (k : Int → Evt → Evt) : Good (pN w k) := by
  intro a r a' r' h
  rw [pN] at h
  split at h
  · rename_i hw
    cases h
    refine ⟨r.take w, (List.take_append_drop ..).symm, fun t => ?_, fun j hj => ?_⟩
    · rw [pN, if_pos (by simp; omega), List.take_append_of_le_length (by simp; omega), List.take_take, Nat.min_self, List.drop_append_of_le_length (by simp; omega), List.drop_of_length_le (by simp only [List.length_take]; omega), List.nil_append]
    · rw [pN, if_neg (by simp only [List.length_take] at hj ⊢; omega)]
  · cases h
def pT (f : Evt → List Int → Pr) (ok : Evt → Bool) : Evt → List Int → Pr := fun a r => (f a r).bind fun a' r' => if ok a' = true then .ok a' r' else .no 361
theorem pT_good {f : Evt → List Int → Pr} (hf : Good f) (ok : Evt → Bool) : Good (pT f ok) := by
  refine hf.bind ?_
  intro a r a' r' h
  dsimp only at h
  split at h
  · rename_i ho
    cases h
    exact ⟨[], rfl, fun t => by simp [ho], fun j hj => absurd hj (by simp)⟩
  · cases h
def pL (k : List Int → Evt → Evt) : Evt → List Int → Pr := fun a r => match r with
  | [] => .no 7
  | n :: r => if 32 < n then .no 361 else if n.toNat ≤ r.length then .ok (k (r.take n.toNat) a) (r.drop n.toNat) else .no 7
theorem pL_good (k : List Int → Evt → Evt) : Good (pL k) := by
  intro a r a' r' h
  cases r with
  | nil => cases h
  | cons n r =>
    rw [pL] at h
    split at h
    · cases h
    rename_i h32
    split at h
    · rename_i hl
      cases h
      refine ⟨n :: r.take n.toNat, by simp [List.take_append_drop], fun t => ?_, fun j hj => ?_⟩
      · rw [List.cons_append, pL, if_neg h32, if_pos (by simp; omega), List.take_append_of_le_length (by simp; omega), List.take_take, Nat.min_self, List.drop_append_of_le_length (by simp; omega), List.drop_of_length_le (by simp only [List.length_take]; omega), List.nil_append]
      · cases j with
        | zero => rfl
        | succ j =>
          simp only [List.length_cons, List.length_take] at hj
          rw [List.take_succ_cons, pL, if_neg h32, if_neg (by simp only [List.length_take]; omega)]
    · cases h
def upd' (i : Nat) (x : Int) (a : Evt) : Evt := upd a i x
def pC (c : Nat) : Evt → List Int → Pr :=
  if c = 109 then fun a r => (pN 4 (upd' 13) a r).bind (pN 4 (upd' 14))
  else if c = 77 then fun a r => (pN 4 (upd' 24) a r).bind (pN 4 (upd' 25))
  else if c = 110 then pL (fun l a => setL a l) else if c = 78 then pL (fun l a => setM a l)
  else if c = 102 then pT (pN 1 (upd' 5)) (fun a => decide (a.1 5 ≤ 1))
  else if c = 97 ∨ c = 101 ∨ c = 116 then pN 8 (fun x => upd' (cel c) (IntKind.i64.wrap x))
  else pN (wid c) (upd' (cel c))
theorem pC_good (c : Nat) : Good (pC c) := by
  unfold pC
  repeat' split
  · exact (pN_good _ _).bind (pN_good _ _)
  · exact (pN_good _ _).bind (pN_good _ _)
  · exact pL_good _
  · exact pL_good _
  · exact pT_good (pN_good _ _) _
  · exact pN_good _ _
  · exact pN_good _ _
def pLs : List Nat → Evt → List Int → Pr
  | [] => fun a r => .ok a r
  | c :: l => fun a r => (pC c a r).bind (pLs l)
def pSub (i : Nat) (fl : Int → Option (List Nat)) : Evt → List Int → Pr := fun a r => (pN 1 (upd' i) a r).bind fun a' r' => match fl (a'.1 i) with
  | some l => pLs l a' r'
  | none => .no 361
def pKind : Evt → List Int → Pr := fun a r => if a.1 0 = 1 then pSub 1 callL a r else if a.1 0 = 2 then pSub 15 liveL a r else if a.1 0 = 3 then pLs [116] a r else .no 361
def pEv : Evt → List Int → Pr := fun a r => (pN 1 (upd' 0) a r).bind pKind
end Go.Proofs.Ytmieikflcolbaaa
namespace Go.Proofs.Ytmieikflcolbaaa
open Go Go.Sy
set_option maxRecDepth 100000
set_option linter.unusedSimpArgs false
set_option linter.unusedVariables false
def errOf (s : In) : Int := if s.bad = true then 361 else s.er
def Sim (bs : List Int) (q : In × Evt) (x : Pr) : Prop := match x with
  | .ok a r => q.1.er = 0 ∧ q.1.bad = false ∧ q.1.wk ≤ bs.length ∧ q.2 = a ∧ bs.drop q.1.wk = r
  | .no e => e ≠ 0 ∧ errOf q.1 = e
theorem numR_err {bs : List Int} {wk w : Nat} {er : Int} (h : er ≠ 0) : numR bs wk er w = 0 := by rw [numR, if_neg (fun x => h x.1)]
theorem rdS_err {bs : List Int} {w : Nat} {s : In} (h : s.er ≠ 0) : (rdS bs w s).er = s.er := by
  simp only [rdS, erR]
  rw [if_neg (fun x => h x.1)]
theorem errOf_rdS {bs : List Int} {w : Nat} {s : In} (h : errOf s ≠ 0) : errOf (rdS bs w s) = errOf s := by
  unfold errOf at h ⊢
  have e : (rdS bs w s).bad = s.bad := rfl
  rw [e]
  split
  · rfl
  · rename_i hb
    rw [if_neg hb] at h
    exact rdS_err h
theorem errOf_listS {bs : List Int} {s : In} (h : errOf s ≠ 0) : errOf (listS bs s) = errOf s := by
  unfold errOf at h ⊢
  by_cases hb : s.bad = true
  · have : (listS bs s).bad = true := by
      rw [listS]; split <;> simp [hb]
    rw [if_pos hb, if_pos this]
  · rw [if_neg hb] at h
    have hn := numR_err (bs := bs) (wk := s.wk) (w := 1) h
    have h1 : (rdS bs 1 s).er ≠ 0 := by rw [rdS_err h]; exact h
    rw [listS, if_pos (Or.inl h1), hn]
    simp only [hb, Bool.false_or]
    rw [if_neg (by decide)]
    exact rdS_err h
theorem errOf_flagS {bs : List Int} {s : In} (h : errOf s ≠ 0) : errOf (flagS bs s) = errOf s := by
  unfold errOf at h ⊢
  by_cases hb : s.bad = true
  · have : (flagS bs s).bad = true := by rw [flagS]; simp [hb]
    rw [if_pos hb, if_pos this]
  · rw [if_neg hb] at h
    have hn := numR_err (bs := bs) (wk := s.wk) (w := 1) h
    rw [flagS, hn]
    simp only [hb, Bool.false_or]
    rw [if_neg (by decide)]
    exact rdS_err h
theorem errOf_dC {bs : List Int} {q : In × Evt} (c : Nat) (h : errOf q.1 ≠ 0) : errOf (dC bs q c).1 = errOf q.1 := by
  unfold dC
  repeat' split
  all_goals first | exact errOf_rdS h | exact errOf_listS h | exact errOf_flagS h | (rw [errOf_rdS (by rw [errOf_rdS h]; exact h), errOf_rdS h])
theorem simN {bs : List Int} {s : In} {a : Evt} (w : Nat) (k : Int → Evt → Evt) (h0 : s.er = 0) (h1 : s.bad = false) (h2 : s.wk ≤ bs.length) : Sim bs (rdS bs w s, k (numR bs s.wk s.er w) a) (pN w k a (bs.drop s.wk)) := by
  by_cases hw : s.wk + w ≤ bs.length
  · rw [pN, if_pos (by simp; omega)]
    have e1 : wkR bs s.wk s.er w = s.wk + w := if_pos ⟨h0, hw⟩
    have e2 : erR bs s.wk s.er w = s.er := if_neg (by omega)
    refine ⟨by show erR bs s.wk s.er w = 0; rw [e2, h0], h1, by simp only [rdS, e1]; exact hw, ?_, ?_⟩
    · simp only
      rw [numR, if_pos ⟨h0, hw⟩]
    · simp only [rdS, e1, List.drop_drop]
  · rw [pN, if_neg (by simp; omega)]
    have e2 : erR bs s.wk s.er w = 7 := if_pos ⟨h0, by omega⟩
    refine ⟨by decide, ?_⟩
    simp only [rdS, errOf, h1, e2]
    rfl
theorem Sim.then {bs : List Int} {q : In × Evt} {x : Pr} (h : Sim bs q x) (g : In × Evt → In × Evt) (f : Evt → List Int → Pr) (he : ∀ q, errOf q.1 ≠ 0 → errOf (g q).1 = errOf q.1)
    (hs : ∀ s a, s.er = 0 → s.bad = false → s.wk ≤ bs.length → Sim bs (g (s, a)) (f a (bs.drop s.wk))) : Sim bs (g q) (x.bind f) := by
  cases x with
  | no e => exact ⟨h.1, by rw [he _ (by rw [h.2]; exact h.1)]; exact h.2⟩
  | ok a r =>
    obtain ⟨h0, h1, h2, rfl, rfl⟩ := h
    exact hs q.1 q.2 h0 h1 h2
theorem simL {bs : List Int} (hby : ∀ b ∈ bs, 0 ≤ b ∧ b < 256) {s : In} {a : Evt} (k : List Int → Evt → Evt) (h0 : s.er = 0) (h1 : s.bad = false) (h2 : s.wk ≤ bs.length) : Sim bs (listS bs s, k (listL bs s) a) (pL k a (bs.drop s.wk)) := by
  obtain ⟨wk, er, bad⟩ := s
  dsimp only at h0 h1 h2 ⊢
  subst h0 h1
  by_cases hlt : wk < bs.length
  · have hn := numR1 bs wk hlt hby
    have e1 : wkR bs wk 0 1 = wk + 1 := if_pos ⟨rfl, by omega⟩
    have e2 : erR bs wk 0 1 = 0 := if_neg (by omega)
    have hb := hby _ (List.getElem_mem hlt)
    have hg : bs.getD wk default = bs[wk] := by simp [List.getD, hlt]
    have er1 : rdS bs 1 ⟨wk, 0, false⟩ = ⟨wk + 1, 0, false⟩ := by simp only [rdS, e1, e2]
    rw [listS, listL, er1]
    dsimp only
    rw [hn, List.drop_eq_getElem_cons hlt, pL, hg]
    simp only [ne_eq, not_true_eq_false, false_or, Bool.false_or]
    by_cases h32 : 32 < bs[wk]
    · rw [if_pos h32, if_pos h32, if_pos h32]
      exact ⟨by decide, by simp [errOf, h32]⟩
    · rw [if_neg h32, if_neg h32, if_neg h32]
      by_cases hl : wk + 1 + bs[wk].toNat ≤ bs.length
      · rw [if_pos hl, if_pos (by simp only [List.length_drop]; omega)]
        exact ⟨rfl, rfl, Nat.min_le_right _ _, rfl, by dsimp only; rw [Nat.min_eq_left hl, List.drop_drop]⟩
      · rw [if_neg hl, if_neg (by simp only [List.length_drop]; omega)]
        exact ⟨by decide, by simp [errOf]⟩
  · have e2 : erR bs wk 0 1 = 7 := if_pos ⟨rfl, by omega⟩
    have e1 : wkR bs wk 0 1 = wk := if_neg (by omega)
    have hn : numR bs wk 0 1 = 0 := if_neg (by omega)
    have er1 : rdS bs 1 ⟨wk, 0, false⟩ = ⟨wk, 7, false⟩ := by simp only [rdS, e1, e2]
    rw [listS, listL, er1]
    dsimp only
    rw [hn, List.drop_of_length_le (by omega), if_pos (Or.inl (by decide))]
    exact ⟨by decide, by simp [errOf]⟩
theorem Pr.bind_assoc (x : Pr) (f g : Evt → List Int → Pr) : (x.bind f).bind g = x.bind fun a r => (f a r).bind g := by cases x <;> rfl
theorem simC {bs : List Int} (hby : ∀ b ∈ bs, 0 ≤ b ∧ b < 256) (c : Nat) (s : In) (a : Evt) (h0 : s.er = 0) (h1 : s.bad = false) (h2 : s.wk ≤ bs.length) : Sim bs (dC bs (s, a) c) (pC c a (bs.drop s.wk)) := by
  unfold dC pC
  repeat' split
  · exact (simN 4 (upd' 13) h0 h1 h2).then (fun q => (rdS bs 4 q.1, upd' 14 (numR bs q.1.wk q.1.er 4) q.2)) _ (fun q h => errOf_rdS h) (fun s a h0 h1 h2 => simN 4 _ h0 h1 h2)
  · exact (simN 4 (upd' 24) h0 h1 h2).then (fun q => (rdS bs 4 q.1, upd' 25 (numR bs q.1.wk q.1.er 4) q.2)) _ (fun q h => errOf_rdS h) (fun s a h0 h1 h2 => simN 4 _ h0 h1 h2)
  · exact simL hby (fun l a => setL a l) h0 h1 h2
  · exact simL hby (fun l a => setM a l) h0 h1 h2
  · have h := simN (a := a) 1 (upd' 5) h0 h1 h2
    rw [pT]
    cases hp : pN 1 (upd' 5) a (bs.drop s.wk) with
    | no e =>
      rw [hp] at h
      have h9 : (flagS bs s).bad = decide (1 < numR bs s.wk s.er 1) := by rw [flagS, h1, Bool.false_or]
      have hx : ¬ 1 < numR bs s.wk s.er 1 := by
        intro hx
        rw [pN] at hp
        split at hp
        · cases hp
        · rename_i hl
          rw [numR, if_neg (by simp at hl; omega)] at hx
          omega
      refine ⟨h.1, ?_⟩
      have := h.2
      unfold errOf at this ⊢
      simp only [h9, hx, decide_false] at this ⊢
      rw [if_neg (by simp only [rdS, h1]; decide)] at this
      exact this
    | ok a' r' =>
      rw [hp] at h
      obtain ⟨g0, g1, g2, rfl, rfl⟩ := h
      have e : (upd' 5 (numR bs s.wk s.er 1) a).1 5 = numR bs s.wk s.er 1 := rfl
      simp only [Pr.bind, e, decide_eq_true_eq]
      by_cases hx : numR bs s.wk s.er 1 ≤ 1
      · rw [if_pos hx]
        exact ⟨g0, by simp only [flagS, h1, Bool.false_or, decide_eq_false_iff_not]; omega, g2, rfl, rfl⟩
      · rw [if_neg hx]
        exact ⟨by decide, by simp only [errOf, flagS, h1, Bool.false_or, decide_eq_true_eq]; rw [if_pos (by omega)]⟩
  · exact simN 8 (fun x => upd' (cel c) (IntKind.i64.wrap x)) h0 h1 h2
  · exact simN (wid c) (upd' (cel c)) h0 h1 h2
theorem errOf_dLs {bs : List Int} : ∀ (l : List Nat) (q : In × Evt), errOf q.1 ≠ 0 → errOf (dLs bs q l).1 = errOf q.1
  | [], _, _ => rfl
  | c :: l, q, h => by
    have := errOf_dC (bs := bs) c h
    rw [show dLs bs q (c :: l) = dLs bs (dC bs q c) l from rfl, errOf_dLs l _ (by rw [this]; exact h), this]
theorem simLs {bs : List Int} (hby : ∀ b ∈ bs, 0 ≤ b ∧ b < 256) : ∀ (l : List Nat) (s : In) (a : Evt), s.er = 0 → s.bad = false → s.wk ≤ bs.length → Sim bs (dLs bs (s, a) l) (pLs l a (bs.drop s.wk))
  | [], s, a, h0, h1, h2 => ⟨h0, h1, h2, rfl, rfl⟩
  | c :: l, s, a, h0, h1, h2 => (simC hby c s a h0 h1 h2).then (fun q => dLs bs q l) (pLs l) (fun q h => errOf_dLs l q h) fun s a h0 h1 h2 => simLs hby l s a h0 h1 h2
def noS (s : In) : In := ⟨s.wk, s.er, decide (s.er = 0)⟩
theorem errOf_noS {s : In} (hb : s.bad = false) : errOf (noS s) = if s.er = 0 then 361 else s.er := by
  unfold errOf noS
  simp only [decide_eq_true_eq]
def dSub (bs : List Int) (i : Nat) (fl : Int → Option (List Nat)) (q : In × Evt) : In × Evt :=
  match fl (numR bs q.1.wk q.1.er 1) with
  | some l => dLs bs (rdS bs 1 q.1, upd q.2 i (numR bs q.1.wk q.1.er 1)) l
  | none => (noS (rdS bs 1 q.1), upd q.2 i (numR bs q.1.wk q.1.er 1))
theorem simSub {bs : List Int} (hby : ∀ b ∈ bs, 0 ≤ b ∧ b < 256) (i : Nat) (fl : Int → Option (List Nat)) (hf : fl 0 = none) (s : In) (a : Evt) (h1 : s.bad = false) (h2 : s.wk ≤ bs.length) (h0 : s.er = 0) : Sim bs (dSub bs i fl (s, a)) (pSub i fl a (bs.drop s.wk)) := by
  have h := simN (a := a) 1 (upd' i) h0 h1 h2
  rw [pSub]
  cases hp : pN 1 (upd' i) a (bs.drop s.wk) with
  | no e =>
    rw [hp] at h
    have hx : numR bs s.wk s.er 1 = 0 := by
      rw [pN] at hp
      split at hp
      · cases hp
      · rename_i hl
        rw [numR, if_neg (by simp at hl; omega)]
    obtain ⟨ha, hb⟩ := h
    unfold dSub
    dsimp only
    rw [hx, hf]
    refine ⟨ha, ?_⟩
    show errOf (noS (rdS bs 1 s)) = e
    rw [errOf_noS (s := rdS bs 1 s) h1]
    unfold errOf at hb
    rw [if_neg (by simp only [rdS, h1]; decide)] at hb
    rw [hb, if_neg ha]
  | ok a' r' =>
    rw [hp] at h
    obtain ⟨g0, g1, g2, rfl, rfl⟩ := h
    have e : (upd' i (numR bs s.wk s.er 1) a).1 i = numR bs s.wk s.er 1 := by simp [upd', upd]
    simp only [Pr.bind, e]
    unfold dSub
    dsimp only
    cases hfl : fl (numR bs s.wk s.er 1) with
    | none =>
      refine ⟨by decide, ?_⟩
      dsimp only at g0 ⊢
      rw [errOf_noS g1, if_pos g0]
    | some l => exact simLs hby l _ _ g0 g1 g2
theorem callL0 : callL 0 = none := callL_none (Or.inl (by decide))
theorem liveL0 : liveL 0 = none := liveL_none (Or.inl (by decide))
theorem sim0 {bs : List Int} (hby : ∀ b ∈ bs, 0 ≤ b ∧ b < 256) (s : In) (a : Evt) (h0 : s.er = 0) (h1 : s.bad = false) (h2 : s.wk ≤ bs.length) : Sim bs (dEv bs s a) (pEv a (bs.drop s.wk)) := by
  have h := simN (a := a) 1 (upd' 0) h0 h1 h2
  have hd : dEv bs s a = if numR bs s.wk s.er 1 = 1 then dSub bs 1 callL (rdS bs 1 s, upd a 0 (numR bs s.wk s.er 1)) else if numR bs s.wk s.er 1 = 2 then dSub bs 15 liveL (rdS bs 1 s, upd a 0 (numR bs s.wk s.er 1))
      else if numR bs s.wk s.er 1 = 3 then dLs bs (rdS bs 1 s, upd a 0 (numR bs s.wk s.er 1)) [116] else (noS (rdS bs 1 s), upd a 0 (numR bs s.wk s.er 1)) := rfl
  rw [hd]
  rw [pEv]
  cases hp : pN 1 (upd' 0) a (bs.drop s.wk) with
  | no e =>
    rw [hp] at h
    have hx : numR bs s.wk s.er 1 = 0 := by
      rw [pN] at hp
      split at hp
      · cases hp
      · rename_i hl
        rw [numR, if_neg (by simp at hl; omega)]
    obtain ⟨ha, hb⟩ := h
    rw [hx, if_neg (by decide), if_neg (by decide), if_neg (by decide)]
    refine ⟨ha, ?_⟩
    show errOf (noS (rdS bs 1 s)) = e
    rw [errOf_noS (s := rdS bs 1 s) h1]
    unfold errOf at hb
    rw [if_neg (by simp only [rdS, h1]; decide)] at hb
    rw [hb, if_neg ha]
  | ok a' r' =>
    rw [hp] at h
    obtain ⟨g0, g1, g2, rfl, rfl⟩ := h
    have e : (upd' 0 (numR bs s.wk s.er 1) a).1 0 = numR bs s.wk s.er 1 := rfl
    simp only [Pr.bind, pKind, e]
    split
    · exact simSub hby 1 callL callL0 _ _ g1 g2 g0
    split
    · exact simSub hby 15 liveL liveL0 _ _ g1 g2 g0
    split
    · exact simLs hby [116] _ _ g0 g1 g2
    · refine ⟨by decide, ?_⟩
      dsimp only at g0 ⊢
      rw [errOf_noS g1, if_pos g0]
end Go.Proofs.Ytmieikflcolbaaa

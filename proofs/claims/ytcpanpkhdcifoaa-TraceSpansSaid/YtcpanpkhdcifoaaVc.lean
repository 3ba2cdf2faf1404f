/- Traces that may be, without any program: what is cut out, what is put at the end. No condition. -/
import Derived.Test.YtcpanpkhdcifoaaVb
namespace Go.Proofs.Ytcpanpkhdcifoaa
open Go Go.Sy
set_option maxRecDepth 100000
set_option linter.unusedSimpArgs false
set_option linter.unusedVariables false

theorem getD_snoc_lt {α : Type} [Inhabited α] {F : List α} {x : α} {i : Nat} (h : i < F.length) : (F ++ [x]).getD i default = F.getD i default := by
  rw [List.getD, List.getD, List.getElem?_append_left h]
theorem getD_snoc_eq {α : Type} [Inhabited α] {F : List α} {x : α} {i : Nat} (h : i = F.length) : (F ++ [x]).getD i default = x := by
  subst h
  rw [List.getD, List.getElem?_append_right (Nat.le_refl _)]; simp
theorem getD_take {α : Type} [Inhabited α] {F : List α} {m i : Nat} (h : i < m) : (F.take m).getD i default = F.getD i default := by
  rw [List.getD, List.getD, List.getElem?_take_of_lt h]
theorem RT.snoc {F : List Fr} {E a b : Int} {l : List Pt} (h : RT F E) (h1 : ∀ i, i + 1 = F.length → aT F i < a ∧ pT F i ≠ l) (hl : okPic l = true) (ha : 0 ≤ a) (hab : a ≤ b) (hb : b ≤ 1125899906842624) (hn : F.length + 1 ≤ 4000) : RT (F ++ [(a, l)]) b := by
  have hle : ∀ i, i < F.length → aT F i < a := fun i hi => by
    by_cases e : i + 1 = F.length
    · exact (h1 i e).1
    · have := h.mono (i := i) (j := F.length - 1) (by omega) (by omega)
      have := (h1 (F.length - 1) (by omega)).1
      omega
  refine ⟨by simp; omega, by omega, hb, fun k hk => ?_, fun k hk => ?_, fun k hk => ?_, fun k hk => ?_, fun k hk => ?_⟩
  all_goals rw [List.length_append, List.length_singleton] at hk
  · by_cases e : k < F.length
    · rw [aT, getD_snoc_lt e]; exact h.at0 k e
    · rw [aT, getD_snoc_eq (by omega)]; exact ha
  · by_cases e : k < F.length
    · rw [aT, getD_snoc_lt e]; have := hle k e; simp only [aT] at this; omega
    · rw [aT, getD_snoc_eq (by omega)]; exact hab
  · by_cases e : k < F.length
    · rw [pT, getD_snoc_lt e]; exact h.pic k e
    · rw [pT, getD_snoc_eq (by omega)]; exact hl
  · by_cases e : k + 1 < F.length
    · rw [aT, aT, getD_snoc_lt e, getD_snoc_lt (by omega)]; exact h.inc k e
    · rw [aT, aT, getD_snoc_lt (by omega), getD_snoc_eq (by omega)]; exact (h1 k (by omega)).1
  · by_cases e : k + 1 < F.length
    · rw [pT, pT, getD_snoc_lt e, getD_snoc_lt (by omega)]; exact h.ne k e
    · rw [pT, pT, getD_snoc_lt (by omega), getD_snoc_eq (by omega)]; exact (h1 k (by omega)).2
theorem RT.take {F : List Fr} {E : Int} (h : RT F E) (m : Nat) : RT (F.take m) E := by
  refine ⟨by simp; have := h.len; omega, h.en0, h.en1, fun k hk => ?_, fun k hk => ?_, fun k hk => ?_, fun k hk => ?_, fun k hk => ?_⟩
  all_goals rw [List.length_take] at hk
  · rw [aT, getD_take (by omega)]; exact h.at0 k (by omega)
  · rw [aT, getD_take (by omega)]; exact h.atE k (by omega)
  · rw [pT, getD_take (by omega)]; exact h.pic k (by omega)
  · rw [aT, aT, getD_take (by omega), getD_take (by omega)]; exact h.inc k (by omega)
  · rw [pT, pT, getD_take (by omega), getD_take (by omega)]; exact h.ne k (by omega)
theorem RT.late {F : List Fr} {E E' : Int} (h : RT F E) (h1 : E ≤ E') (h2 : E' ≤ 1125899906842624) : RT F E' :=
  ⟨h.len, Int.le_trans h.en0 h1, h2, h.at0, fun k hk => Int.le_trans (h.atE k hk) h1, h.pic, h.inc, h.ne⟩
theorem RT.none : RT [] 0 := ⟨by decide, by decide, by decide, fun k hk => (by cases hk), fun k hk => (by cases hk), fun k hk => (by cases hk), fun k hk => (by cases hk), fun k hk => (by cases hk)⟩
/-- The frame that holds at a time. -/
def atO (fs : List Fr) (en now : Int) : Option Nat := (List.range fs.length).find? (atB fs en now)
theorem atT_O (fs : List Fr) (en now : Int) : atT fs en now = match atO fs en now with | some k => (k : Int) | none => -1 := by
  rw [atT, atO]
  cases (List.range fs.length).find? (atB fs en now) <;> rfl
theorem atO_yes {fs : List Fr} {en now : Int} {k : Nat} (hk : k < fs.length) (h : atB fs en now k = true) (hj : ∀ j, j < k → atB fs en now j = false) : atO fs en now = some k :=
  List.find?_range_eq_some.2 ⟨h, List.mem_range.2 hk, fun j hjk => by rw [hj j hjk]; rfl⟩
theorem atO_no {fs : List Fr} {en now : Int} (hj : ∀ j, j < fs.length → atB fs en now j = false) : atO fs en now = none :=
  List.find?_range_eq_none.2 fun j hjk => by rw [hj j hjk]; rfl
theorem atO_lt {fs : List Fr} {en now : Int} {k : Nat} (h : atO fs en now = some k) : k < fs.length ∧ atB fs en now k = true := by
  obtain ⟨h1, h2, -⟩ := List.find?_range_eq_some.1 h
  exact ⟨List.mem_range.1 h2, h1⟩
/-- The picture at a time. -/
def atP (fs : List Fr) (en now : Int) : Option (List Pt) := if rightT fs en = true then (atO fs en now).map fun k => (fs.getD k default).2 else none
/-- A picture holds at a time. -/
def Sh (F : List Fr) (E n : Int) (l : List Pt) : Prop := ∃ i, i < F.length ∧ aT F i ≤ n ∧ n < untilT F E i ∧ pT F i = l
theorem atB_iff (F : List Fr) (E n : Int) (k : Nat) : atB F E n k = true ↔ aT F k ≤ n ∧ n < untilT F E k := by
  simp only [atB, Bool.and_eq_true, decide_eq_true_eq]
theorem atO_iff {F : List Fr} {E n : Int} (h : RT F E) (k : Nat) : atO F E n = some k ↔ k < F.length ∧ aT F k ≤ n ∧ n < untilT F E k := by
  constructor
  · intro h1
    obtain ⟨h2, h3⟩ := atO_lt h1
    exact ⟨h2, (atB_iff ..).1 h3⟩
  · rintro ⟨h1, h2⟩
    refine atO_yes h1 ((atB_iff ..).2 h2) fun j hj => ?_
    cases e : atB F E n j with
    | false => rfl
    | true =>
      have h3 := (atB_iff ..).1 e
      have := h.after hj h1
      omega
theorem atP_iff {F : List Fr} {E n : Int} (h : RT F E) (l : List Pt) : atP F E n = some l ↔ Sh F E n l := by
  rw [atP, if_pos ((RT.iff F E).2 h), Option.map_eq_some_iff]
  constructor
  · rintro ⟨k, h1, h2⟩
    obtain ⟨h3, h4, h5⟩ := (atO_iff h k).1 h1
    exact ⟨k, h3, h4, h5, h2⟩
  · rintro ⟨k, h3, h4, h5, h2⟩
    exact ⟨k, (atO_iff h k).2 ⟨h3, h4, h5⟩, h2⟩
theorem atP_eq {F G : List Fr} {E D n : Int} (h : RT F E) (h' : RT G D) (hs : ∀ l, Sh F E n l ↔ Sh G D n l) : atP F E n = atP G D n := by
  apply Option.ext
  intro l
  rw [atP_iff h, atP_iff h', hs]
theorem untilT_snoc {F : List Fr} {x : Fr} {b : Int} {i : Nat} (h : i < F.length) : untilT (F ++ [x]) b i = untilT F x.1 i := by
  by_cases e : i + 1 < F.length
  · rw [untilT_in (by simp; omega), untilT_in e, aT, getD_snoc_lt e]
  · rw [untilT_in (by simp; omega), untilT_end e, aT, getD_snoc_eq (by omega)]
theorem Sh_snoc {F : List Fr} {a b n : Int} {l p : List Pt} : Sh (F ++ [(a, l)]) b n p ↔ Sh F a n p ∨ (a ≤ n ∧ n < b ∧ l = p) := by
  constructor
  · rintro ⟨i, h1, h2, h3, h4⟩
    rw [List.length_append, List.length_singleton] at h1
    by_cases e : i < F.length
    · rw [aT, getD_snoc_lt e] at h2
      rw [pT, getD_snoc_lt e] at h4
      rw [untilT_snoc e] at h3
      exact .inl ⟨i, e, h2, h3, h4⟩
    · rw [aT, getD_snoc_eq (by omega)] at h2
      rw [pT, getD_snoc_eq (by omega)] at h4
      rw [untilT_end (by simp; omega)] at h3
      exact .inr ⟨h2, h3, h4⟩
  · rintro (⟨i, e, h2, h3, h4⟩ | ⟨h2, h3, h4⟩)
    · refine ⟨i, by simp; omega, ?_, ?_, ?_⟩
      · rw [aT, getD_snoc_lt e]; exact h2
      · rw [untilT_snoc e]; exact h3
      · rw [pT, getD_snoc_lt e]; exact h4
    · refine ⟨F.length, by simp, ?_, ?_, ?_⟩
      · rw [aT, getD_snoc_eq rfl]; exact h2
      · rw [untilT_end (by simp)]; exact h3
      · rw [pT, getD_snoc_eq rfl]; exact h4

/- what is cut out -/
def maxI (a b : Int) : Int := if a < b then b else a
def minI (a b : Int) : Int := if b < a then b else a
def cutK (fs : List Fr) (en f t : Int) : Nat → List Fr × Int
  | 0 => ([], 0)
  | k + 1 => if maxI (aT fs k) f < minI (untilT fs en k) t then ((cutK fs en f t k).1 ++ [(maxI (aT fs k) f, pT fs k)], minI (untilT fs en k) t) else cutK fs en f t k
def cutT (fs : List Fr) (en f t : Int) : List Fr × Int := cutK fs en f t fs.length
structure CI (fs : List Fr) (en f t : Int) (k : Nat) (F : List Fr) (E : Int) : Prop where
  rt : RT F E
  len : F.length ≤ k
  sh : ∀ n l, Sh F E n l ↔ f ≤ n ∧ n < t ∧ ∃ j, j < k ∧ aT fs j ≤ n ∧ n < untilT fs en j ∧ pT fs j = l
  last : ∀ i, i + 1 = F.length → aT F i < E ∧ f < E ∧ E ≤ t ∧ E ≤ untilT fs en (k - 1) ∧ (E = t ∨ (E = untilT fs en (k - 1) ∧ (k < fs.length → pT F i = pT fs (k - 1))))
theorem CI.of {fs : List Fr} {en f t : Int} (h : RT fs en) (hf : 0 ≤ f) (ht : t ≤ 1125899906842624) : ∀ k, k ≤ fs.length → CI fs en f t k (cutK fs en f t k).1 (cutK fs en f t k).2
  | 0, _ => ⟨RT.none, Nat.le_refl _, fun n l => ⟨fun ⟨i, h1, _⟩ => (by cases h1), fun ⟨_, _, j, h1, _⟩ => (by omega)⟩, fun i hi => (by cases hi)⟩
  | k + 1, hk => by
    have ih := CI.of h hf ht k (by omega)
    have hu := h.until (k := k) (by omega)
    have ha := h.at0 k (by omega)
    have hM := h.en1
    have hlen := h.len
    have hnx : ∀ (hk0 : k ≠ 0), untilT fs en (k - 1) = aT fs k := fun hk0 => by
      rw [untilT_in (by omega), show k - 1 + 1 = k by omega]
    rw [cutK]
    generalize cutK fs en f t k = r at ih ⊢
    obtain ⟨F, E⟩ := r
    dsimp only at ih ⊢
    have hmx : aT fs k ≤ maxI (aT fs k) f ∧ f ≤ maxI (aT fs k) f ∧ (maxI (aT fs k) f = f ∨ maxI (aT fs k) f = aT fs k) := by unfold maxI; split <;> omega
    have hmn : minI (untilT fs en k) t ≤ untilT fs en k ∧ minI (untilT fs en k) t ≤ t ∧ (minI (untilT fs en k) t = t ∨ minI (untilT fs en k) t = untilT fs en k) := by unfold minI; split <;> omega
    generalize maxI (aT fs k) f = a at hmx ⊢
    generalize minI (untilT fs en k) t = b at hmn ⊢
    have hl4 := ih.len
    by_cases e : a < b
    · rw [if_pos e]
      dsimp only
      have hE : ∀ i, i + 1 = F.length → E = a ∧ aT F i < a ∧ pT F i ≠ pT fs k := fun i hi => by
        obtain ⟨h1, h2, h3, h4, h5⟩ := ih.last i hi
        have hk0 : k ≠ 0 := by omega
        rw [hnx hk0] at h4 h5
        have hEa : E = aT fs k := by
          rcases h5 with h5 | h5
          · omega
          · exact h5.1
        have hEa2 : E = a := by omega
        refine ⟨hEa2, by omega, ?_⟩
        rcases h5 with h5 | h5
        · omega
        · rw [h5.2 (by omega)]
          have := h.ne (k - 1) (by omega)
          rwa [show k - 1 + 1 = k by omega] at this
      refine ⟨ih.rt.snoc (fun i hi => ⟨(hE i hi).2.1, (hE i hi).2.2⟩) (h.pic k (by omega)) (by omega) (by omega) (by omega) (by omega), by simp; omega, fun n l => ?_, fun i hi => ?_⟩
      · rw [Sh_snoc]
        have hS : Sh F a n l ↔ Sh F E n l := by
          by_cases e0 : F.length = 0
          · exact ⟨fun ⟨i, h1, _⟩ => by omega, fun ⟨i, h1, _⟩ => by omega⟩
          · rw [(hE (F.length - 1) (by omega)).1]
        rw [hS, ih.sh]
        constructor
        · rintro (⟨h1, h2, j, h3, h4⟩ | ⟨h1, h2, h3⟩)
          · exact ⟨h1, h2, j, by omega, h4⟩
          · refine ⟨by omega, by omega, k, by omega, by omega, by omega, h3⟩
        · rintro ⟨h1, h2, j, h3, h4, h5, h6⟩
          by_cases ej : j = k
          · subst ej
            exact .inr ⟨by omega, by omega, h6⟩
          · exact .inl ⟨h1, h2, j, by omega, h4, h5, h6⟩
      · rw [List.length_append, List.length_singleton] at hi
        rw [aT, getD_snoc_eq (by omega), Nat.add_sub_cancel]
        refine ⟨e, by omega, by omega, by omega, ?_⟩
        rw [pT, getD_snoc_eq (by omega)]
        exact hmn.2.2.imp id fun h => ⟨h, fun _ => rfl⟩
    · rw [if_neg e]
      dsimp only
      refine ⟨ih.rt, by omega, fun n l => ?_, fun i hi => ?_⟩
      · rw [ih.sh]
        constructor
        · rintro ⟨h1, h2, j, h3, h4⟩
          exact ⟨h1, h2, j, by omega, h4⟩
        · rintro ⟨h1, h2, j, h3, h4, h5, h6⟩
          by_cases ej : j = k
          · subst ej
            omega
          · exact ⟨h1, h2, j, by omega, h4, h5, h6⟩
      · obtain ⟨h1, h2, h3, h4, h5⟩ := ih.last i hi
        have hk0 : k ≠ 0 := by omega
        rw [hnx hk0] at h4 h5
        rw [Nat.add_sub_cancel]
        refine ⟨h1, h2, h3, by omega, ?_⟩
        rcases h5 with h5 | h5
        · exact .inl h5
        · have hin : k + 1 < fs.length → aT fs k < untilT fs en k := fun hk2 => by
            rw [untilT_in hk2]; exact h.inc k hk2
          by_cases e3 : E = t
          · exact .inl e3
          · refine .inr ⟨?_, fun hk2 => ?_⟩
            · omega
            · have := hin hk2
              omega
theorem cut_sh {fs : List Fr} {en f t : Int} (h : RT fs en) (hf : 0 ≤ f) (ht : t ≤ 1125899906842624) (n : Int) (l : List Pt) : Sh (cutT fs en f t).1 (cutT fs en f t).2 n l ↔ f ≤ n ∧ n < t ∧ Sh fs en n l := (CI.of h hf ht _ (Nat.le_refl _)).sh n l
theorem cut_rt {fs : List Fr} {en f t : Int} (h : RT fs en) (hf : 0 ≤ f) (ht : t ≤ 1125899906842624) : RT (cutT fs en f t).1 (cutT fs en f t).2 := (CI.of h hf ht _ (Nat.le_refl _)).rt
theorem Sh.bd {F : List Fr} {E n : Int} {l : List Pt} (h : RT F E) (hs : Sh F E n l) : 0 ≤ n ∧ n < 1125899906842624 ∧ okPic l = true := by
  obtain ⟨i, h1, h2, h3, h4⟩ := hs
  have := h.at0 i h1
  have := (h.until h1).2
  have := h.en1
  exact ⟨by omega, by omega, h4 ▸ h.pic i h1⟩
/-- Cut in two: the same pictures. -/
theorem cut_two {fs : List Fr} {en c : Int} (h : RT fs en) (h0 : 0 ≤ c) (h1 : c ≤ 1125899906842624) (n : Int) :
    atP fs en n = if n < c then atP (cutT fs en 0 c).1 (cutT fs en 0 c).2 n else atP (cutT fs en c 1125899906842624).1 (cutT fs en c 1125899906842624).2 n := by
  split
  · refine atP_eq h (cut_rt h (by omega) h1) fun l => ?_
    rw [cut_sh h (by omega) h1]
    exact ⟨fun hs => ⟨(hs.bd h).1, by omega, hs⟩, fun hs => hs.2.2⟩
  · refine atP_eq h (cut_rt h h0 (by omega)) fun l => ?_
    rw [cut_sh h h0 (by omega)]
    exact ⟨fun hs => ⟨by omega, (hs.bd h).2.1, hs⟩, fun hs => hs.2.2⟩
end Go.Proofs.Ytcpanpkhdcifoaa

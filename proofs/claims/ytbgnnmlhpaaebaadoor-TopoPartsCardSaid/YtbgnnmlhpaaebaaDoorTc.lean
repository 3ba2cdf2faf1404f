/- Those of a set by rising distance: what is told. No condition. -/
import Derived.Test.YtbgnnmlhpaaebaaDoorTb
namespace Go.Proofs.YtbgnnmlhpaaebaaDoor
open Go Go.Sy
set_option maxRecDepth 100000
set_option linter.unusedSimpArgs false
set_option linter.unusedVariables false

/-- Two neighbours change places. -/
def swp (xs : List Int) (j : Nat) : List Int := (xs.set (j + 1) (xs.getD j default)).set j (xs.getD (j + 1) default)
/-- One goes down to its place. -/
def insG (D : Int → Int) (xs : List Int) : Nat → List Int
  | 0 => xs
  | j + 1 => if D (xs.getD (j + 1) default) < D (xs.getD j default) then insG D (swp xs j) j else xs
def sortG (D : Int → Int) (xs : List Int) : Nat → List Int
  | 0 => xs
  | 1 => xs
  | k + 1 => insG D (sortG D xs k) k
theorem swp_len (xs : List Int) (j : Nat) : (swp xs j).length = xs.length := by simp [swp]
theorem swp_mem {xs : List Int} {j : Nat} (h : j + 1 < xs.length) {c : Int} (hc : c ∈ swp xs j) : c ∈ xs := by
  rw [swp] at hc
  rcases List.mem_or_eq_of_mem_set hc with hc | rfl
  · rcases List.mem_or_eq_of_mem_set hc with hc | rfl
    · exact hc
    · exact getD_mem (by omega)
  · exact getD_mem h
/-- By distance, each distance's in their own order. -/
def bkt (D : Int → Int) (L : List Int) : Nat → List Int
  | 0 => []
  | d + 1 => bkt D L d ++ L.filter fun c => decide (D c = d)
theorem bkt_filter (D : Int → Int) (L : List Int) (n : Nat) (d : Int) (h0 : 0 ≤ d) : (bkt D L n).filter (fun c => decide (D c = d)) = if d < n then L.filter (fun c => decide (D c = d)) else [] := by
  induction n with
  | zero => rw [if_neg (by omega)]; rfl
  | succ n ih =>
    rw [bkt, List.filter_append, ih, List.filter_filter]
    by_cases e : d = n
    · subst e
      rw [if_neg (by omega), if_pos (by omega), List.nil_append]
      congr 1; funext c; cases decide (D c = (n : Int)) <;> rfl
    · have : (L.filter fun c => decide (D c = d) && decide (D c = (n : Int))) = [] := by
        rw [List.filter_eq_nil_iff]; intro c _ h
        simp only [Bool.and_eq_true, decide_eq_true_eq] at h
        omega
      rw [this, List.append_nil]
      by_cases e2 : d < n
      · rw [if_pos e2, if_pos (by omega)]
      · rw [if_neg e2, if_neg (by omega)]
theorem bkt_mem {D : Int → Int} {L : List Int} {n : Nat} {c : Int} (h : c ∈ bkt D L n) : c ∈ L ∧ D c < n := by
  induction n with
  | zero => cases h
  | succ n ih =>
    rw [bkt, List.mem_append] at h
    rcases h with h | h
    · have := ih h; exact ⟨this.1, by omega⟩
    · have h := List.mem_filter.1 h
      have h2 := of_decide_eq_true h.2
      exact ⟨h.1, by omega⟩
abbrev rising (D : Int → Int) (Z : List Int) : Prop := Z.Pairwise fun a b => D a ≤ D b
theorem bkt_rising (D : Int → Int) (L : List Int) (n : Nat) : rising D (bkt D L n) := by
  induction n with
  | zero => exact List.Pairwise.nil
  | succ n ih =>
    rw [bkt]
    refine List.pairwise_append.2 ⟨ih, ?_, fun a ha b hb => ?_⟩
    · refine List.Pairwise.imp_of_mem (R := fun _ _ => True) (fun {a b} ha hb _ => ?_) (List.pairwise_of_forall (fun _ _ => trivial))
      have h1 := of_decide_eq_true (List.mem_filter.1 ha).2
      have h2 := of_decide_eq_true (List.mem_filter.1 hb).2
      omega
    · have h1 := (bkt_mem ha).2
      have h2 := of_decide_eq_true (List.mem_filter.1 hb).2
      omega
theorem filter_none {D : Int → Int} {Z : List Int} {d : Int} (h : ∀ c ∈ Z, d < D c) : (Z.filter fun c => decide (D c = d)) = [] := by
  rw [List.filter_eq_nil_iff]; intro c hc e
  have := h c hc
  have := of_decide_eq_true e
  omega
/-- What rises is its own row by distance. -/
theorem rising_bkt {D : Int → Int} : ∀ {Z : List Int}, rising D Z → (∀ c ∈ Z, 0 ≤ D c ∧ D c < 4) → bkt D Z 4 = Z
  | [], _, _ => rfl
  | z :: Z, h, hb => by
    have ih := rising_bkt (List.pairwise_cons.1 h).2 fun c hc => hb c (List.mem_cons_of_mem _ hc)
    have h1 := (List.pairwise_cons.1 h).1
    have h2 := hb z (List.mem_cons_self ..)
    simp only [bkt, List.nil_append, List.filter_cons, Int.ofNat_eq_natCast, Int.natCast_zero, Int.natCast_one, Int.cast_ofNat_Int, decide_eq_true_eq] at ih ⊢
    have hz : D z = 0 ∨ D z = 1 ∨ D z = 2 ∨ D z = 3 := by omega
    rcases hz with e | e | e | e
    · rw [e]; simp only [Int.reduceEq, if_true, if_false, List.cons_append]; rw [ih]
    · have f0 := filter_none (D := D) (Z := Z) (d := 0) fun c hc => by have := h1 c hc; omega
      rw [f0] at ih ⊢
      rw [e]; simp only [Int.reduceEq, if_true, if_false, List.cons_append, List.nil_append] at ih ⊢; rw [ih]
    · have f0 := filter_none (D := D) (Z := Z) (d := 0) fun c hc => by have := h1 c hc; omega
      have f1 := filter_none (D := D) (Z := Z) (d := 1) fun c hc => by have := h1 c hc; omega
      rw [f0, f1] at ih ⊢
      rw [e]; simp only [Int.reduceEq, if_true, if_false, List.cons_append, List.nil_append] at ih ⊢; rw [ih]
    · have f0 := filter_none (D := D) (Z := Z) (d := 0) fun c hc => by have := h1 c hc; omega
      have f1 := filter_none (D := D) (Z := Z) (d := 1) fun c hc => by have := h1 c hc; omega
      have f2 := filter_none (D := D) (Z := Z) (d := 2) fun c hc => by have := h1 c hc; omega
      rw [f0, f1, f2] at ih ⊢
      rw [e]; simp only [Int.reduceEq, if_true, if_false, List.cons_append, List.nil_append] at ih ⊢; rw [ih]
theorem bkt_congr {D : Int → Int} {L M : List Int} {n : Nat} (h : ∀ d : Int, 0 ≤ d → (L.filter fun c => decide (D c = d)) = M.filter fun c => decide (D c = d)) : bkt D L n = bkt D M n := by
  induction n with
  | zero => rfl
  | succ n ih => rw [bkt, bkt, ih, h n (by omega)]
/-- Put behind all that are no further, before all that are further. -/
theorem put_bkt {D : Int → Int} {M A C : List Int} {x : Int} (hd : ∀ c ∈ M ++ [x], 0 ≤ D c ∧ D c < 4) (hB : bkt D M 4 = A ++ C) (hA : ∀ c ∈ A, D c ≤ D x) (hC : ∀ c ∈ C, D x < D c) : bkt D (M ++ [x]) 4 = A ++ x :: C := by
  have hr : rising D (A ++ C) := by rw [← hB]; exact bkt_rising ..
  have hx := hd x (by simp)
  have hmem : ∀ c ∈ A ++ C, 0 ≤ D c ∧ D c < 4 := fun c hc => by
    rw [← hB] at hc
    exact hd c (List.mem_append_left _ (bkt_mem hc).1)
  have hr2 : rising D (A ++ x :: C) := by
    have h0 := List.pairwise_append.1 hr
    refine List.pairwise_append.2 ⟨h0.1, List.pairwise_cons.2 ⟨fun c hc => Int.le_of_lt (hC c hc), h0.2.1⟩, fun a ha b hb => ?_⟩
    rcases List.mem_cons.1 hb with rfl | hb
    · exact hA a ha
    · exact h0.2.2 a ha b hb
  rw [← rising_bkt hr2 fun c hc => by
    rcases List.mem_append.1 hc with h | h
    · exact hmem c (List.mem_append_left _ h)
    · rcases List.mem_cons.1 h with rfl | h
      · exact hx
      · exact hmem c (List.mem_append_right _ h)]
  refine bkt_congr fun d hd0 => ?_
  have e1 : (A.filter fun c => decide (D c = d)) ++ (C.filter fun c => decide (D c = d)) = if d < 4 then M.filter (fun c => decide (D c = d)) else [] := by
    rw [← List.filter_append, ← hB, bkt_filter D M 4 d hd0]; rfl
  rw [List.filter_append, List.filter_append, List.filter_cons, List.filter_cons, List.filter_nil]
  by_cases e : D x = d
  · subst e
    rw [filter_none hC, List.append_nil, if_pos hx.2] at e1
    rw [filter_none hC, if_pos (decide_eq_true rfl), e1]
  · rw [if_neg (by simpa using e), List.append_nil, if_neg (by simpa using e), e1]
    split
    · rfl
    · rw [List.filter_eq_nil_iff]; intro c hc h
      have := hd c (List.mem_append_left _ hc)
      have := of_decide_eq_true h
      omega
theorem ins_bkt {D : Int → Int} {M R : List Int} {x : Int} (hd : ∀ c ∈ M ++ [x], 0 ≤ D c ∧ D c < 4) : ∀ (j : Nat) (A C : List Int), A.length = j → bkt D M 4 = A ++ C → (∀ c ∈ C, D x < D c) → insG D (A ++ x :: C ++ R) j = bkt D (M ++ [x]) 4 ++ R
  | 0, A, C, hA, hB, hC => by
    obtain rfl := List.length_eq_zero_iff.1 hA
    rw [insG, put_bkt hd hB (fun _ h => by cases h) hC]
  | j + 1, A, C, hA, hB, hC => by
    obtain ⟨A, y, rfl⟩ : ∃ A' y, A = A' ++ [y] := ⟨A.dropLast, A.getLast (by intro h; rw [h] at hA; cases hA), (List.dropLast_concat_getLast _).symm⟩
    have hl : A.length = j := by simpa using hA
    have g1 : (A ++ [y] ++ x :: C ++ R).getD (j + 1) default = x := by
      rw [← hl]; simp [List.getD]
    have g0 : (A ++ [y] ++ x :: C ++ R).getD j default = y := by
      rw [← hl]; simp [List.getD]
    rw [insG, g1, g0]
    split
    · rename_i h
      have es : swp (A ++ [y] ++ x :: C ++ R) j = A ++ x :: (y :: C) ++ R := by
        rw [swp, g1, g0, ← hl]
        simp [List.set_append]
      rw [es]
      exact ins_bkt hd j A (y :: C) hl (by rw [hB]; simp) fun c hc => by
        rcases List.mem_cons.1 hc with rfl | hc
        · exact h
        · exact hC c hc
    · rename_i h
      rw [put_bkt hd hB (fun c hc => ?_) hC]
      have hr : rising D (A ++ [y] ++ C) := by rw [← hB]; exact bkt_rising ..
      rcases List.mem_append.1 hc with hc | hc
      · have := (List.pairwise_append.1 (List.pairwise_append.1 hr).1).2.2 c hc y (by simp)
        omega
      · obtain rfl := List.mem_singleton.1 hc
        omega
theorem bkt_len {D : Int → Int} {M : List Int} (hd : ∀ c ∈ M, 0 ≤ D c ∧ D c < 4) : (bkt D M 4).length = M.length := by
  induction hn : M.length generalizing M with
  | zero => rw [List.length_eq_zero_iff.1 hn]; rfl
  | succ n ih =>
    obtain ⟨A, y, rfl⟩ : ∃ A' y, M = A' ++ [y] := ⟨M.dropLast, M.getLast (by intro h; rw [h] at hn; cases hn), (List.dropLast_concat_getLast _).symm⟩
    have hl : A.length = n := by simpa using hn
    have h1 := ih (fun c hc => hd c (List.mem_append_left _ hc)) hl
    have h2 := ins_bkt (R := []) hd (bkt D A 4).length (bkt D A 4) [] rfl (by simp) (fun _ h => by cases h)
    have h3 : ∀ j xs, (insG D xs j).length = xs.length := fun j => by
      induction j with
      | zero => intro xs; rfl
      | succ j ih => intro xs; rw [insG]; split
                     · rw [ih, swp_len]
                     · rfl
    have h4 := congrArg List.length h2
    rw [h3] at h4
    simp at h4
    omega
theorem sort_bkt {D : Int → Int} {L : List Int} (hd : ∀ c ∈ L, 0 ≤ D c ∧ D c < 4) : ∀ k, k ≤ L.length → sortG D L k = bkt D (L.take k) 4 ++ L.drop k
  | 0, _ => by simp [sortG, bkt]
  | 1, hk => by
    obtain ⟨x, L, rfl⟩ : ∃ x L', L = x :: L' := by
      cases L with
      | nil => simp at hk
      | cons x L => exact ⟨x, L, rfl⟩
    rw [sortG, List.take_succ_cons, List.take_zero, rising_bkt (List.pairwise_singleton ..) fun c hc => hd c (by rw [List.mem_singleton.1 hc]; exact List.mem_cons_self ..)]
    rfl
  | k + 2, hk => by
    show insG D (sortG D L (k + 1)) (k + 1) = _
    rw [sort_bkt hd (k + 1) (by omega), take_getD (k := k + 1) (by omega)]
    have hm : ∀ c ∈ L.take (k + 1), c ∈ L := fun c hc => List.mem_of_mem_take hc
    have e : L.drop (k + 1) = L.getD (k + 1) default :: L.drop (k + 1 + 1) := by
      rw [List.drop_eq_getElem_cons (by omega), List.getD, List.getElem?_eq_getElem (by omega)]; rfl
    rw [e]
    have h := ins_bkt (D := D) (M := L.take (k + 1)) (R := L.drop (k + 1 + 1)) (x := L.getD (k + 1) default) (fun c hc => by
      rcases List.mem_append.1 hc with hc | hc
      · exact hd c (hm c hc)
      · rw [List.mem_singleton.1 hc]; exact hd _ (getD_mem (by omega))) (k + 1) (bkt D (L.take (k + 1)) 4) [] (by rw [bkt_len fun c hc => hd c (hm c hc), List.length_take]; omega) (by simp) (fun _ h => by cases h)
    rw [← h]
    simp
theorem sort_all {D : Int → Int} {L : List Int} (hd : ∀ c ∈ L, 0 ≤ D c ∧ D c < 4) : sortG D L L.length = bkt D L 4 := by
  rw [sort_bkt hd _ (Nat.le_refl _), List.take_length, List.drop_length, List.append_nil]
end Go.Proofs.YtbgnnmlhpaaebaaDoor

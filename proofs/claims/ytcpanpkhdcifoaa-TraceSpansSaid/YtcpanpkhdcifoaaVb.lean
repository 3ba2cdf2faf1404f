/- Traces that may be, without any program: spans. No condition. -/
import Derived.Test.YtcpanpkhdcifoaaVa
namespace Go.Proofs.Ytcpanpkhdcifoaa
open Go Go.Sy
set_option maxRecDepth 100000
set_option linter.unusedSimpArgs false
set_option linter.unusedVariables false

/-- A span: the pCPU, from when on, up to when. -/
abbrev Spn := Int × Int × Int
def eN (s : Spn) : List SV := [I s.1, I s.2.1, I s.2.2]
def lastN (acc : List Spn) : Spn := acc.getD (acc.length - 1) default
/-- A time on a pCPU is put at the end. -/
def pushS (acc : List Spn) (c a u : Int) : List Spn :=
  if acc.length ≠ 0 ∧ (lastN acc).1 = c ∧ (lastN acc).2.2 = a then acc.set (acc.length - 1) ((lastN acc).1, (lastN acc).2.1, u) else acc ++ [(c, a, u)]
/-- The spans of a vCPU in the first frames. -/
def spansK (fs : List Fr) (en v : Int) : Nat → List Spn
  | 0 => []
  | k + 1 => if onP (pT fs k) v < 0 ∨ aT fs k = untilT fs en k then spansK fs en v k else pushS (spansK fs en v k) (onP (pT fs k) v) (aT fs k) (untilT fs en k)
def stepN (v a u : Int) (acc : List Spn) (p : Pt) : List Spn := if p.1 ≠ v ∨ a = u then acc else pushS acc p.2 a u
theorem foldN_none {v a u : Int} : ∀ {l : List Pt} {acc : List Spn}, (∀ p ∈ l, p.1 ≠ v) ∨ a = u → l.foldl (stepN v a u) acc = acc
  | [], _, _ => rfl
  | p :: l, acc, h => by
    have e : stepN v a u acc p = acc := by
      rw [stepN, if_pos]
      exact h.elim (fun h => .inl (h p (by simp))) .inr
    rw [List.foldl_cons, e]
    exact foldN_none (h.imp_left fun h q hq => h q (List.mem_cons_of_mem _ hq))
theorem onP_cons (p : Pt) (l : List Pt) (v : Int) : onP (p :: l) v = if p.1 = v then p.2 else onP l v := by
  rw [onP, List.find?_cons]
  by_cases e : p.1 = v
  · rw [if_pos e, decide_eq_true e]; rfl
  · rw [if_neg e, decide_eq_false e]; rfl
theorem onP_nil (v : Int) : onP [] v = -1 := rfl
theorem foldN {v a u : Int} : ∀ {l : List Pt} {acc : List Spn}, (∀ p ∈ l, 0 ≤ p.2) → l.Pairwise (fun p q => p.1 ≠ q.1) → l.foldl (stepN v a u) acc = if onP l v < 0 ∨ a = u then acc else pushS acc (onP l v) a u
  | [], acc, _, _ => by rw [if_pos (.inl (by rw [onP_nil]; decide))]; rfl
  | p :: l, acc, h, hp => by
    rw [List.pairwise_cons] at hp
    rw [onP_cons, List.foldl_cons]
    by_cases e : p.1 = v
    · rw [if_pos e]
      have hq : ∀ q ∈ l, q.1 ≠ v := fun q hq e2 => hp.1 q hq (e.trans e2.symm)
      rw [foldN_none (.inl hq), stepN]
      have := h p (by simp)
      by_cases e3 : a = u
      · rw [if_pos (.inr e3), if_pos (.inr e3)]
      · rw [if_neg (by rintro (h1 | h1) <;> omega), if_neg (by rintro (h1 | h1) <;> omega)]
    · rw [if_neg e, stepN, if_pos (.inl e)]
      exact foldN (fun q hq => h q (List.mem_cons_of_mem _ hq)) hp.2
theorem onP_mem {l : List Pt} {v : Int} : 0 ≤ onP l v → ∃ p ∈ l, p.1 = v ∧ p.2 = onP l v := by
  induction l with
  | nil => intro h; rw [onP_nil] at h; omega
  | cons p l ih =>
    intro h
    rw [onP_cons] at h ⊢
    by_cases e : p.1 = v
    · rw [if_pos e]; exact ⟨p, by simp, e, rfl⟩
    · rw [if_neg e] at h ⊢
      obtain ⟨q, h1, h2⟩ := ih h
      exact ⟨q, List.mem_cons_of_mem _ h1, h2⟩
theorem onP_of {l : List Pt} (hp : l.Pairwise fun p q => p.1 ≠ q.1) {p : Pt} (h : p ∈ l) : onP l p.1 = p.2 := by
  induction l with
  | nil => cases h
  | cons q l ih =>
    rw [List.pairwise_cons] at hp
    rw [onP_cons]
    rcases List.mem_cons.1 h with rfl | h
    · rw [if_pos rfl]
    · rw [if_neg (hp.1 p h), ih hp.2 h]
theorem onP_any {l : List Pt} {v : Int} (h : ∀ p ∈ l, 0 ≤ p.2) : decide (0 ≤ onP l v) = l.any fun p => decide (p.1 = v) := by
  induction l with
  | nil => rfl
  | cons p l ih =>
    rw [onP_cons, List.any_cons, ← ih fun q hq => h q (List.mem_cons_of_mem _ hq)]
    by_cases e : p.1 = v
    · rw [if_pos e, decide_eq_true e, Bool.true_or, decide_eq_true (h p (by simp))]
    · rw [if_neg e, decide_eq_false e, Bool.false_or]
theorem pushS_nil (c a u : Int) : pushS [] c a u = [(c, a, u)] := rfl
theorem pushS_snoc (S : List Spn) (s : Spn) (c a u : Int) : pushS (S ++ [s]) c a u = if s.1 = c ∧ s.2.2 = a then S ++ [(s.1, s.2.1, u)] else (S ++ [s]) ++ [(c, a, u)] := by
  have e : lastN (S ++ [s]) = s := by
    rw [lastN, List.getD, List.length_append, List.length_singleton, Nat.add_sub_cancel, List.getElem?_append_right (Nat.le_refl _)]; simp
  have e2 : (S ++ [s]).length ≠ 0 := by simp
  simp only [pushS, e]
  by_cases h : s.1 = c ∧ s.2.2 = a
  · rw [if_pos h, if_pos ⟨e2, h⟩, List.length_append, List.length_singleton, Nat.add_sub_cancel, List.set_append_right _ _ (Nat.le_refl _)]; simp
  · rw [if_neg h, if_neg fun h2 => h h2.2]
/-- What holds of spans. -/
structure SI (fs : List Fr) (en v : Int) (k : Nat) (S : List Spn) : Prop where
  lt : ∀ s ∈ S, s.2.1 < s.2.2
  bd : ∀ s ∈ S, ∀ j, j < fs.length → k ≤ j → s.2.2 ≤ aT fs j
  ord : S.Pairwise fun s t => s.2.2 ≤ t.2.1
  len : sumI (S.map fun s => s.2.2 - s.2.1) = longK fs en 0 1125899906842624 (fun p => decide (p.1 = v)) k
  cov : ∀ j, j < k → ∀ n, aT fs j ≤ n → n < untilT fs en j → 0 ≤ onP (pT fs j) v → ∃ s ∈ S, s.2.1 ≤ n ∧ n < s.2.2 ∧ s.1 = onP (pT fs j) v
theorem SI.of {fs : List Fr} {en : Int} (h : RT fs en) (v : Int) : ∀ k, k ≤ fs.length → SI fs en v k (spansK fs en v k)
  | 0, _ => ⟨fun s hs => (by cases hs), fun s hs => (by cases hs), .nil, rfl, fun j hj => (by omega)⟩
  | k + 1, hk => by
    have ih := SI.of h v k (by omega)
    have hu := h.until (k := k) (by omega)
    have ha := h.at0 k (by omega)
    have hM := h.en1
    have hop := OP.of (h.pic k (by omega))
    have hany := onP_any (v := v) hop.c0
    rw [spansK]
    generalize spansK fs en v k = S at ih ⊢
    by_cases e : onP (pT fs k) v < 0 ∨ aT fs k = untilT fs en k
    · rw [if_pos e]
      refine ⟨ih.lt, fun s hs j hj hkj => ih.bd s hs j hj (by omega), ih.ord, ?_, fun j hj n h1 h2 h3 => ?_⟩
      · rw [ih.len, longK, ← hany]
        rcases e with e | e
        · rw [decide_eq_false (by omega), if_neg (by simp)]; omega
        · split
          · rw [cutI]; split <;> omega
          · omega
      · by_cases ej : j = k
        · subst ej; omega
        · exact ih.cov j (by omega) n h1 h2 h3
    · rw [if_neg e]
      obtain ⟨e1, e2⟩ := not_or.1 e
      have hb : ∀ j, j < fs.length → k + 1 ≤ j → untilT fs en k ≤ aT fs j := fun j hj hkj => h.after hkj hj
      have hc : cutI (aT fs k) (untilT fs en k) 0 1125899906842624 = untilT fs en k - aT fs k := by rw [cutI, if_neg (by omega)]; omega
      have hl : longK fs en 0 1125899906842624 (fun p => decide (p.1 = v)) (k + 1) = longK fs en 0 1125899906842624 (fun p => decide (p.1 = v)) k + (untilT fs en k - aT fs k) := by
        rw [longK, ← hany, decide_eq_true (by omega), if_pos rfl, hc]
      rcases List.eq_nil_or_concat S with rfl | ⟨S', s, rfl⟩
      · rw [pushS_nil]
        refine ⟨fun s hs => ?_, fun s hs j hj hkj => ?_, by simp, ?_, fun j hj n h1 h2 h3 => ?_⟩
        · obtain rfl := List.mem_singleton.1 hs; dsimp only; omega
        · obtain rfl := List.mem_singleton.1 hs; exact hb j hj hkj
        · have := ih.len
          simp only [List.map_nil, sumI] at this
          rw [hl, ← this]; simp [sumI]
        · by_cases ej : j = k
          · subst ej; exact ⟨_, List.mem_singleton.2 rfl, h1, h2, rfl⟩
          · obtain ⟨s, hs, -⟩ := ih.cov j (by omega) n h1 h2 h3
            cases hs
      · rw [List.concat_eq_append] at ih ⊢
        rw [pushS_snoc]
        have hs1 := ih.lt s (by simp)
        have hs2 := ih.bd s (by simp) k (by omega) (Nat.le_refl _)
        have hord := List.pairwise_append.1 ih.ord
        have hlen := ih.len
        rw [List.map_append, List.map_cons, List.map_nil, sumI_snoc] at hlen
        split
        · rename_i es
          refine ⟨fun t ht => ?_, fun t ht j hj hkj => ?_, ?_, ?_, fun j hj n h1 h2 h3 => ?_⟩
          · rcases List.mem_append.1 ht with ht | ht
            · exact ih.lt t (List.mem_append_left _ ht)
            · obtain rfl := List.mem_singleton.1 ht; dsimp only; omega
          · rcases List.mem_append.1 ht with ht | ht
            · exact ih.bd t (List.mem_append_left _ ht) j hj (by omega)
            · obtain rfl := List.mem_singleton.1 ht; exact hb j hj hkj
          · rw [List.pairwise_append]
            refine ⟨hord.1, by simp, fun a ha' b hb' => ?_⟩
            obtain rfl := List.mem_singleton.1 hb'
            exact hord.2.2 a ha' s (by simp)
          · rw [List.map_append, List.map_cons, List.map_nil, sumI_snoc, hl]; dsimp only; omega
          · by_cases ej : j = k
            · subst ej; exact ⟨_, List.mem_append_right _ (List.mem_singleton.2 rfl), by dsimp only; omega, h2, es.1⟩
            · obtain ⟨t, ht, h4, h5, h6⟩ := ih.cov j (by omega) n h1 h2 h3
              rcases List.mem_append.1 ht with ht | ht
              · exact ⟨t, List.mem_append_left _ ht, h4, h5, h6⟩
              · obtain rfl := List.mem_singleton.1 ht
                exact ⟨_, List.mem_append_right _ (List.mem_singleton.2 rfl), h4, by dsimp only; omega, h6⟩
        · refine ⟨fun t ht => ?_, fun t ht j hj hkj => ?_, ?_, ?_, fun j hj n h1 h2 h3 => ?_⟩
          · rcases List.mem_append.1 ht with ht | ht
            · exact ih.lt t ht
            · obtain rfl := List.mem_singleton.1 ht; dsimp only; omega
          · rcases List.mem_append.1 ht with ht | ht
            · exact ih.bd t ht j hj (by omega)
            · obtain rfl := List.mem_singleton.1 ht; exact hb j hj hkj
          · rw [List.pairwise_append]
            refine ⟨ih.ord, by simp, fun a ha' b hb' => ?_⟩
            obtain rfl := List.mem_singleton.1 hb'
            exact ih.bd a ha' k (by omega) (Nat.le_refl _)
          · rw [List.map_append, List.map_append, List.map_cons, List.map_nil, List.map_cons, List.map_nil, sumI_snoc, sumI_snoc, hl]; dsimp only; omega
          · by_cases ej : j = k
            · subst ej; exact ⟨_, List.mem_append_right _ (List.mem_singleton.2 rfl), h1, h2, rfl⟩
            · obtain ⟨t, ht, h4⟩ := ih.cov j (by omega) n h1 h2 h3
              exact ⟨t, List.mem_append_left _ ht, h4⟩
theorem pushS_len (S : List Spn) (c a u : Int) : (pushS S c a u).length ≤ S.length + 1 := by
  unfold pushS; split <;> simp
theorem spansK_len (fs : List Fr) (en v : Int) : ∀ k, (spansK fs en v k).length ≤ k
  | 0 => Nat.le_refl _
  | k + 1 => by
    have := spansK_len fs en v k
    have := pushS_len (spansK fs en v k) (onP (pT fs k) v) (aT fs k) (untilT fs en k)
    rw [spansK]; split <;> omega
end Go.Proofs.Ytcpanpkhdcifoaa

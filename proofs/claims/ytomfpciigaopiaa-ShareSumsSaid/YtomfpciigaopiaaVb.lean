/- Shares together, plainly. No condition. -/
import Derived.Test.YtomfpciigaopiaaLd
namespace Go.Proofs.Ytomfpciigaopiaa
open Go Go.Sy
set_option maxRecDepth 100000
set_option linter.unusedSimpArgs false
set_option linter.unusedVariables false

theorem open_sum {L w : Int} : ∀ {l : List Pt} {b : List Bool}, b.length = l.length → (∀ k, k < l.length → b.getD k default = false → (l.getD k default).1 * L < (l.getD k default).2 * w) → L * sumZ zW l b + opens b ≤ w * (sumOf wC l - sumZ zC l b)
  | [], [], _, _ => by simp [sumZ, sumOf, opens]
  | p :: l, x :: b, hb, h => by
    have ih := open_sum (L := L) (w := w) (l := l) (b := b) (by simpa using hb) fun k hk => by
      have := h (k + 1) (by rw [List.length_cons]; omega)
      simpa using this
    have h0 := h 0 (by rw [List.length_cons]; omega)
    rw [List.getD_cons_zero, List.getD_cons_zero] at h0
    rw [sumZ_cons, sumZ_cons, sumOf, List.map_cons, List.sum_cons, ← sumOf, opens, List.countP_cons, ← opens]
    generalize sumZ zC l b = A at *
    generalize sumZ zW l b = B at *
    generalize sumOf wC l = C at *
    generalize opens b = o at *
    cases x
    · have h0 := h0 rfl
      show L * (p.1 + B) + ((o + 1 : Nat) : Int) ≤ w * (p.2 + C - (0 + A))
      have e1 : L * (p.1 + B) = p.1 * L + L * B := by grind
      have e2 : w * (p.2 + C - (0 + A)) = p.2 * w + w * (C - A) := by grind
      omega
    · show L * (0 + B) + ((o + 0 : Nat) : Int) ≤ w * (p.2 + C - (p.2 + A))
      have e1 : L * (0 + B) = L * B := by grind
      have e2 : w * (p.2 + C - (p.2 + A)) = w * (C - A) := by grind
      omega
theorem full_le : ∀ {l : List Pt} {b : List Bool}, b.length = l.length → (∀ p ∈ l, okP p = true) → sumZ zC l b + opens b ≤ sumOf wC l
  | [], [], _, _ => by simp [sumZ, sumOf, opens]
  | p :: l, x :: b, hb, h => by
    have ih := full_le (l := l) (b := b) (by simpa using hb) fun q hq => h q (List.mem_cons_of_mem _ hq)
    have h0 := (okP_iff p).1 (h p List.mem_cons_self)
    rw [sumZ_cons, sumOf, List.map_cons, List.sum_cons, ← sumOf, opens, List.countP_cons, ← opens]
    generalize sumZ zC l b = A at *
    generalize sumOf wC l = C at *
    generalize opens b = o at *
    cases x
    · show 0 + A + ((o + 1 : Nat) : Int) ≤ p.2 + C
      omega
    · show p.2 + A + ((o + 0 : Nat) : Int) ≤ p.2 + C
      omega
theorem open_none : ∀ {l : List Pt} {b : List Bool}, b.length = l.length → opens b = 0 → sumZ zC l b = sumOf wC l ∧ sumZ zW l b = 0
  | [], [], _, _ => by simp [sumZ, sumOf]
  | p :: l, x :: b, hb, h => by
    rw [opens, List.countP_cons, ← opens] at h
    cases x
    · simp at h
    · obtain ⟨h1, h2⟩ := open_none (l := l) (b := b) (by simpa using hb) (by simpa using h)
      rw [sumZ_cons, sumZ_cons, sumOf, List.map_cons, List.sum_cons, ← sumOf, h1, h2]
      exact ⟨rfl, rfl⟩
theorem wt_none : ∀ {l : List Pt} {b : List Bool}, b.length = l.length → (∀ p ∈ l, okP p = true) → sumZ zW l b = 0 → opens b = 0
  | [], [], _, _, _ => rfl
  | p :: l, x :: b, hb, hall, h => by
    have h0 := (okP_iff p).1 (hall p List.mem_cons_self)
    have h1 := (sumZ_bd (l := l) (b := b) (zW_bd fun q hq => hall q (List.mem_cons_of_mem _ hq)) (by decide)).1
    rw [sumZ_cons] at h
    rw [opens, List.countP_cons, ← opens]
    cases x
    · have h : p.1 + sumZ zW l b = 0 := h
      omega
    · have h : 0 + sumZ zW l b = 0 := h
      have := wt_none (l := l) (b := b) (by simpa using hb) (fun q hq => hall q (List.mem_cons_of_mem _ hq)) (by omega)
      simpa using this
/-- If there are no more vCPUs than pCPUs, all are full. -/
theorem few_full {l : List Pt} {m : Int} (hr : rightP l = true) (h : sumOf wC l ≤ m) : sumZ zC l (fullV l m) = sumOf wC l ∧ wtF l (fullV l m) = 0 := by
  obtain ⟨hn, hall, -⟩ := (rightP_iff l).1 hr
  have hV := fullV_len l m
  refine open_none hV ?_
  have h1 := full_le hV hall
  have hW := wtF_bd (b := fullV l m) hr
  by_cases h0 : opens (fullV l m) = 0
  · exact h0
  have hL : leftF l (fullV l m) m = m - sumZ zC l (fullV l m) := rfl
  have h2 := open_sum hV (full_open (l := l) (m := m) (by omega))
  have e : sumZ zW l (fullV l m) = wtF l (fullV l m) := rfl
  rw [e] at h2
  generalize wtF l (fullV l m) = w at *
  generalize leftF l (fullV l m) m = L at *
  generalize sumZ zC l (fullV l m) = A at *
  generalize sumOf wC l = C at *
  have h3 : w * (C - A) ≤ w * L := Int.mul_le_mul_of_nonneg_left (by omega) hW.1
  rw [Int.mul_comm L] at h2
  omega
/-- If there are more, somebody is open while something is left. -/
theorem more_open {l : List Pt} {m : Int} (hr : rightP l = true) (h : m < sumOf wC l) (h2 : sumZ zC l (fullV l m) < m) : 0 < wtF l (fullV l m) := by
  obtain ⟨hn, hall, -⟩ := (rightP_iff l).1 hr
  have hW := wtF_bd (b := fullV l m) hr
  have hV := fullV_len l m
  by_cases h0 : wtF l (fullV l m) = 0
  · have := (open_none hV (wt_none hV hall h0)).1
    omega
  · omega
theorem share_le {l : List Pt} {m : Int} {i : Nat} (hr : rightP l = true) (hi : i < l.length) : (shareV l m i).1 ≤ (l.getD i default).2 * (shareV l m i).2 := by
  obtain ⟨hn, hall, -⟩ := (rightP_iff l).1 hr
  have hp := (okP_iff _).1 (hall _ (getD_mem hi))
  have ho := fun h => full_open (l := l) (m := m) h i hi
  rw [shareV]
  by_cases h1 : (fullV l m).getD i default = true
  · rw [if_pos h1]; dsimp only; omega
  · rw [if_neg h1]
    by_cases h2 : leftF l (fullV l m) m ≤ 0
    · rw [if_pos h2]; dsimp only; omega
    · rw [if_neg h2]
      have := ho (by omega) (by simpa using h1)
      dsimp only; omega
theorem share_f {l : List Pt} {m : Int} {i : Nat} (h : (fullV l m).getD i default = true) : shareV l m i = ((l.getD i default).2, 1) := by rw [shareV, if_pos h]
theorem share_0 {l : List Pt} {m : Int} {i : Nat} (h : (fullV l m).getD i default = false) (h2 : leftF l (fullV l m) m ≤ 0) : shareV l m i = (0, 1) := by rw [shareV, if_neg (by rw [h]; decide), if_pos h2]
theorem share_w {l : List Pt} {m : Int} {i : Nat} (h : (fullV l m).getD i default = false) (h2 : ¬ leftF l (fullV l m) m ≤ 0) : shareV l m i = ((l.getD i default).1 * leftF l (fullV l m) m, wtF l (fullV l m)) := by rw [shareV, if_neg (by rw [h]; decide), if_neg h2]
theorem share_cross {l : List Pt} {m : Int} {i k : Nat} (hr : rightP l = true) (hi : i < l.length) (hk : k < l.length) (h1 : (fullV l m).getD i default = true) (h2 : (fullV l m).getD k default = false) (hp : 0 < (shareV l m k).1) :
    (shareV l m i).1 * (l.getD k default).1 * (shareV l m k).2 ≤ (shareV l m k).1 * (l.getD i default).1 * (shareV l m i).2 := by
  obtain ⟨hn, hall, -⟩ := (rightP_iff l).1 hr
  have hpk := (okP_iff _).1 (hall _ (getD_mem hk))
  have hf := full_rate (m := m) hall i hi h1
  rw [share_f h1]
  by_cases h3 : leftF l (fullV l m) m ≤ 0
  · rw [share_0 h2 h3] at hp; exact absurd hp (by decide)
  · rw [share_w h2 h3]
    dsimp only
    generalize leftF l (fullV l m) m = L at *
    generalize wtF l (fullV l m) = w at *
    generalize l.getD i default = p at *
    generalize l.getD k default = q at *
    have a1 : q.1 * (p.2 * w) ≤ q.1 * (p.1 * L) := Int.mul_le_mul_of_nonneg_left hf (by omega)
    have e1 : p.2 * q.1 * w = q.1 * (p.2 * w) := by grind
    have e2 : q.1 * L * p.1 * 1 = q.1 * (p.1 * L) := by grind
    omega
end Go.Proofs.Ytomfpciigaopiaa

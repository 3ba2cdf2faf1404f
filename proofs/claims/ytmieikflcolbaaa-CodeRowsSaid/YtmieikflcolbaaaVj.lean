/- Rows of events and their bytes, in plain Lean. No condition. -/
import Derived.Test.YtmieikflcolbaaaIb
namespace Go.Proofs.Ytmieikflcolbaaa
open Go Go.Sy
set_option maxRecDepth 100000
set_option linter.unusedSimpArgs false
set_option linter.unusedVariables false
abbrev okE (a : Evt) : Prop := wf a ∧ encE a = 0
theorem errOf0 {s : In} (h : errOf s = 0) : s.er = 0 ∧ s.bad = false := by
  unfold errOf at h
  cases hb : s.bad
  · rw [hb, if_neg (by decide)] at h; exact ⟨h, rfl⟩
  · rw [hb, if_pos rfl] at h; cases h
theorem many_ok {b : List Int} (hb : isY b) : ∀ (n : Nat) (s : In), s.wk ≤ b.length → errOf s = 0 → errOf (many b n s).2 = 0 →
    (many b n s).1.length = n ∧ b.drop s.wk = (many b n s).1.flatMap encB ++ b.drop (many b n s).2.wk ∧ (∀ a ∈ (many b n s).1, okE a) ∧ (many b n s).2.wk ≤ b.length
  | 0, s, hw, _, _ => ⟨rfl, rfl, (fun a ha => nomatch ha), hw⟩
  | n + 1, s, hw, hs, h => by
    obtain ⟨h0, h1⟩ := errOf0 hs
    have hsim := sim0 hb s ev0 h0 h1 hw
    have hm : many b (n + 1) s = if errOf (dEv b s ev0).1 ≠ 0 then ([], (dEv b s ev0).1) else ((dEv b s ev0).2 :: (many b n (dEv b s ev0).1).1, (many b n (dEv b s ev0).1).2) := by rw [many, if_neg (fun x => x hs)]
    rw [hm] at h ⊢
    by_cases he : errOf (dEv b s ev0).1 = 0
    · rw [if_neg (fun x => x he)] at h ⊢
      cases hp : pEv ev0 (b.drop s.wk) with
      | no e => rw [hp] at hsim; exact absurd he (by rw [hsim.2]; exact hsim.1)
      | ok a r =>
        rw [hp] at hsim
        obtain ⟨g0, g1, g2, g3, g4⟩ := hsim
        have hY : isY (b.drop s.wk) := fun x hx => hb x (List.mem_of_mem_drop hx)
        have hwa := wf_pEv wf_ev0 hY hp
        obtain ⟨q1, q2, q3⟩ := pEv_ok hY hp
        have ha : encE a = 0 := (encE_eq hwa).1 ⟨q1, q3⟩
        obtain ⟨i1, i2, i3, i4⟩ := many_ok hb n (dEv b s ev0).1 g2 he h
        dsimp only
        refine ⟨by rw [List.length_cons, i1], ?_, fun x hx => ?_, i4⟩
        · rw [List.flatMap_cons, List.append_assoc, ← i2, g4, g3, (encB_eq hwa ha).1]
          exact q2
        · rcases List.mem_cons.1 hx with rfl | hx
          · rw [g3]; exact ⟨hwa, ha⟩
          · exact i3 x hx
    · rw [if_pos he] at h
      exact absurd h he
theorem bytesF2 (n : Int) : bytesF n 2 = [n / 256 % 256, n % 256 % 256] := by
  simp only [bytesF, Int.pow_one, Int.pow_zero, Int.ediv_one]
theorem num2 {x y : Int} (hx : 0 ≤ x ∧ x < 256) (hy : 0 ≤ y ∧ y < 256) : num [x, y] = x * 256 + y := by
  simp only [num, List.foldl_cons, List.foldl_nil]
  omega
theorem bytesF2_Y (n : Int) : isY (bytesF n 2) := fun b hb => bytesF_bd 2 n b hb
theorem badAt_all {l : List Evt} (h : ∀ a ∈ l, encE a = 0) : badAt l = l.length := by
  have := badAt_drop l l.length (Nat.le_refl _) (fun a ha => h a (List.mem_of_mem_take ha))
  rw [List.drop_length, badAt, Nat.add_zero] at this
  exact this
theorem row_all {l : List Evt} (h : ∀ a ∈ l, okE a) (hl : l.length ≤ 2000) : rowE l = 0 ∧ rowAt l = 0 ∧ rowB l = bytesF l.length 2 ++ l.flatMap encB := by
  have hb := badAt_all fun a ha => (h a ha).2
  have h1 : rowE l = 0 := by rw [rowE, if_neg (by omega), hb, if_neg (Nat.lt_irrefl _)]
  refine ⟨h1, by rw [rowAt, if_neg (by omega), hb, if_neg (Nat.lt_irrefl _)], by rw [rowB, if_pos h1]⟩
theorem flat_Y : ∀ l : List Evt, isY (l.flatMap encB)
  | [] => fun b hb => by cases hb
  | a :: l => fun b hb => by
    rw [List.flatMap_cons, List.mem_append] at hb
    exact hb.elim (encB_Y a b) (flat_Y l b)
theorem of_events {b : List Int} (hb : isY b) (h : evE b = 0) : (∀ a ∈ evL b, okE a) ∧ (evL b).length ≤ 2000 ∧ evK b = (evL b).length ∧ rowB (evL b) = b := by
  have hn : ¬ 2000 < evN b := fun x => by rw [evE, if_pos x] at h; cases h
  have he : errOf (evM b).2 = 0 := by
    rw [evE, if_neg hn] at h
    by_cases he : errOf (evM b).2 = 0
    · exact he
    · rw [if_pos he] at h; exact absurd h he
  have hlt : ¬ (evM b).2.wk < b.length := fun x => by rw [evE, if_neg hn, he, if_neg (fun x => x rfl), if_pos x] at h; cases h
  have h1 : errOf (rdS b 2 s0) = 0 := by
    by_cases hx : errOf (rdS b 2 s0) = 0
    · exact hx
    · rw [evM, many_err _ hx] at he; exact absurd he hx
  have hlen : 2 ≤ b.length := by
    by_cases hx : 2 ≤ b.length
    · exact hx
    · have : erR b 0 0 2 = 7 := if_pos ⟨rfl, by omega⟩
      have h2 := (errOf0 h1).1
      have h3 : (rdS b 2 s0).er = erR b 0 0 2 := rfl
      rw [h3, this] at h2; cases h2
  have hwk : (rdS b 2 s0).wk = 2 := by
    show wkR b 0 0 2 = 2
    rw [wkR, if_pos ⟨rfl, by omega⟩]
  obtain ⟨g1, g2, g3, g4⟩ := many_ok hb (evN b) (rdS b 2 s0) (by rw [hwk]; exact hlen) h1 he
  have hL : evL b = (evM b).1 := by rw [evL, if_pos h]
  have hM : evM b = many b (evN b) (rdS b 2 s0) := rfl
  rw [← hM] at g1 g2 g3 g4
  rw [hwk, show b.drop (evM b).2.wk = [] from List.drop_eq_nil_iff.2 (by omega), List.append_nil] at g2
  rw [hL]
  refine ⟨g3, by rw [g1]; omega, by rw [evK, if_neg hn], ?_⟩
  rw [(row_all g3 (by rw [g1]; omega)).2.2, ← g2, g1]
  obtain ⟨x, y, r, rfl⟩ : ∃ x y r, b = x :: y :: r := by
    match b, hlen with
    | x :: y :: r, _ => exact ⟨x, y, r, rfl⟩
  have hx := hb x (by simp)
  have hy := hb y (by simp)
  have e1 : numR (x :: y :: r) 0 0 2 = x * 256 + y := by
    rw [numR, if_pos ⟨rfl, by omega⟩]
    exact num2 hx hy
  have e2 : ((evN (x :: y :: r) : Nat) : Int) = x * 256 + y := by rw [evN, e1]; omega
  rw [e2, bytesF2]
  have q1 : (x * 256 + y) / 256 % 256 = x := by omega
  have q2 : (x * 256 + y) % 256 % 256 = y := by omega
  rw [q1, q2]
  rfl
end Go.Proofs.Ytmieikflcolbaaa

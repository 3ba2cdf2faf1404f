/- Rows of events and their bytes, in plain Lean. No condition. -/
import Derived.Test.YtmieikflcolbaaaIb
namespace Go.Proofs.Ytmieikflcolbaaa
open Go Go.Sy
set_option maxRecDepth 100000
set_option linter.unusedSimpArgs false
set_option linter.unusedVariables false
abbrev okE (a : Evt) : Prop := wf a ∧ encE a = 0
theorem errOf0 {s : In} (h : errOf s = 0) : s.er = 0 ∧ s.bad = false := by
  unfold errOf at h
  cases hb : s.bad
  · rw [hb, if_neg (by decide)] at h; exact ⟨h, rfl⟩
  · rw [hb, if_pos rfl] at h; cases h
theorem errOf00 {s : In} (h1 : s.er = 0) (h2 : s.bad = false) : errOf s = 0 := by
  rw [errOf, h2, if_neg (by decide), h1]
theorem many_ok {b : List Int} (hb : isY b) : ∀ (n : Nat) (s : In), s.wk ≤ b.length → errOf s = 0 → errOf (many b n s).2 = 0 →
    (many b n s).1.length = n ∧ b.drop s.wk = (many b n s).1.flatMap encB ++ b.drop (many b n s).2.wk ∧ (∀ a ∈ (many b n s).1, okE a) ∧ (many b n s).2.wk ≤ b.length
  | 0, s, hw, _, _ => ⟨rfl, rfl, (fun a ha => nomatch ha), hw⟩
  | n + 1, s, hw, hs, h => by
    obtain ⟨h0, h1⟩ := errOf0 hs
    have hsim := sim0 hb s ev0 h0 h1 hw
    have hm : many b (n + 1) s = if errOf (dEv b s ev0).1 ≠ 0 then ([], (dEv b s ev0).1) else ((dEv b s ev0).2 :: (many b n (dEv b s ev0).1).1, (many b n (dEv b s ev0).1).2) := by rw [many, if_neg (fun x => x hs)]
    rw [hm] at h ⊢
    by_cases he : errOf (dEv b s ev0).1 = 0
    · rw [if_neg (fun x => x he)] at h ⊢
      cases hp : pEv ev0 (b.drop s.wk) with
      | no e => rw [hp] at hsim; exact absurd he (by rw [hsim.2]; exact hsim.1)
      | ok a r =>
        rw [hp] at hsim
        obtain ⟨g0, g1, g2, g3, g4⟩ := hsim
        have hY : isY (b.drop s.wk) := fun x hx => hb x (List.mem_of_mem_drop hx)
        have hwa := wf_pEv wf_ev0 hY hp
        obtain ⟨q1, q2, q3⟩ := pEv_ok hY hp
        have ha : encE a = 0 := (encE_eq hwa).1 ⟨q1, q3⟩
        obtain ⟨i1, i2, i3, i4⟩ := many_ok hb n (dEv b s ev0).1 g2 he h
        dsimp only
        refine ⟨by rw [List.length_cons, i1], ?_, fun x hx => ?_, i4⟩
        · rw [List.flatMap_cons, List.append_assoc, ← i2, g4, g3, (encB_eq hwa ha).1]
          exact q2
        · rcases List.mem_cons.1 hx with rfl | hx
          · rw [g3]; exact ⟨hwa, ha⟩
          · exact i3 x hx
    · rw [if_pos he] at h
      exact absurd h he
theorem many_of {b : List Int} (hb : isY b) : ∀ (l : List Evt) (s : In) (r : List Int), (∀ a ∈ l, okE a) → s.wk ≤ b.length → errOf s = 0 → b.drop s.wk = l.flatMap encB ++ r →
    (many b l.length s).1 = l ∧ errOf (many b l.length s).2 = 0 ∧ b.drop (many b l.length s).2.wk = r ∧ (many b l.length s).2.wk ≤ b.length
  | [], s, r, _, hw, hs, h => ⟨rfl, hs, h, hw⟩
  | a :: l, s, r, hl, hw, hs, h => by
    obtain ⟨h0, h1⟩ := errOf0 hs
    obtain ⟨hwa, ha⟩ := hl a (by simp)
    have hsim := sim0 hb s ev0 h0 h1 hw
    have hp : pEv ev0 (b.drop s.wk) = .ok a (l.flatMap encB ++ r) := by
      rw [h, List.flatMap_cons, List.append_assoc]
      exact pD_enc hwa ha _
    rw [hp] at hsim
    obtain ⟨g0, g1, g2, g3, g4⟩ := hsim
    have he := errOf00 g0 g1
    obtain ⟨i1, i2, i3, i4⟩ := many_of hb l (dEv b s ev0).1 r (fun x hx => hl x (by simp [hx])) g2 he g4
    have hm : many b (l.length + 1) s = ((dEv b s ev0).2 :: (many b l.length (dEv b s ev0).1).1, (many b l.length (dEv b s ev0).1).2) := by
      rw [many, if_neg (fun x => x hs), if_neg (fun x => x he)]
    rw [List.length_cons, hm]
    exact ⟨by rw [i1, g3], i2, i3, i4⟩
theorem bytesF2 (n : Int) : bytesF n 2 = [n / 256 % 256, n % 256 % 256] := by
  simp only [bytesF, Int.pow_one, Int.pow_zero, Int.ediv_one]
theorem num2 {x y : Int} (hx : 0 ≤ x ∧ x < 256) (hy : 0 ≤ y ∧ y < 256) : num [x, y] = x * 256 + y := by
  simp only [num, List.foldl_cons, List.foldl_nil]
  omega
theorem bytesF2_Y (n : Int) : isY (bytesF n 2) := fun b hb => bytesF_bd 2 n b hb
theorem badAt_all {l : List Evt} (h : ∀ a ∈ l, encE a = 0) : badAt l = l.length := by
  have := badAt_drop l l.length (Nat.le_refl _) (fun a ha => h a (List.mem_of_mem_take ha))
  rw [List.drop_length, badAt, Nat.add_zero] at this
  exact this
theorem row_all {l : List Evt} (h : ∀ a ∈ l, okE a) (hl : l.length ≤ 2000) : rowE l = 0 ∧ rowAt l = 0 ∧ rowB l = bytesF l.length 2 ++ l.flatMap encB := by
  have hb := badAt_all fun a ha => (h a ha).2
  have h1 : rowE l = 0 := by rw [rowE, if_neg (by omega), hb, if_neg (Nat.lt_irrefl _)]
  refine ⟨h1, by rw [rowAt, if_neg (by omega), hb, if_neg (Nat.lt_irrefl _)], by rw [rowB, if_pos h1]⟩
theorem flat_Y : ∀ l : List Evt, isY (l.flatMap encB)
  | [] => fun b hb => by cases hb
  | a :: l => fun b hb => by
    rw [List.flatMap_cons, List.mem_append] at hb
    exact hb.elim (encB_Y a b) (flat_Y l b)
theorem head2 {b : List Int} (hb : isY b) {n : Nat} {r : List Int} (h : b = bytesF n 2 ++ r) (hn : n < 65536) : evN b = n ∧ errOf (rdS b 2 s0) = 0 ∧ (rdS b 2 s0).wk = 2 := by
  have hl : 2 ≤ b.length := by rw [h, List.length_append, bytesF_length]; omega
  have e1 : numR b 0 0 2 = n := by
    rw [numR, if_pos ⟨rfl, by omega⟩, h, List.drop_zero, List.take_left' (bytesF_length _ _), bytesF2, num2 (by omega) (by omega)]
    omega
  have e2 : rdS b 2 s0 = ⟨2, 0, false⟩ := by
    simp only [rdS, s0, wkR, erR]
    rw [if_pos ⟨trivial, by omega⟩, if_neg (by omega)]
  rw [evN, e1, e2]
  exact ⟨by omega, by simp [errOf], rfl⟩
theorem events_of {l : List Evt} (h : ∀ a ∈ l, okE a) (hl : l.length ≤ 2000) : evE (rowB l) = 0 ∧ evL (rowB l) = l ∧ evK (rowB l) = l.length ∧ isY (rowB l) := by
  obtain ⟨-, -, h3⟩ := row_all h hl
  have hY : isY (rowB l) := by
    rw [h3]
    intro b hb
    rcases List.mem_append.1 hb with hb | hb
    · exact bytesF2_Y _ b hb
    · exact flat_Y l b hb
  obtain ⟨n1, n2, n3⟩ := head2 hY h3 (by omega)
  have hlen : 2 ≤ (rowB l).length := by rw [h3, List.length_append, bytesF_length]; omega
  have hd : (rowB l).drop (rdS (rowB l) 2 s0).wk = l.flatMap encB ++ [] := by
    rw [n3, h3, List.drop_left' (bytesF_length _ _), List.append_nil]
  obtain ⟨m1, m2, m3, m4⟩ := many_of hY l (rdS (rowB l) 2 s0) [] h (by rw [n3]; exact hlen) n2 hd
  have hM : evM (rowB l) = many (rowB l) l.length (rdS (rowB l) 2 s0) := by rw [evM, n1]
  have hE : evE (rowB l) = 0 := by
    rw [evE, n1, if_neg (by omega), hM, m2, if_neg (fun x => x rfl), if_neg]
    rw [List.drop_eq_nil_iff] at m3
    omega
  exact ⟨hE, by rw [evL, if_pos hE, hM, m1], by rw [evK, n1, if_neg (by omega), hM, m1], hY⟩
theorem of_events {b : List Int} (hb : isY b) (h : evE b = 0) : (∀ a ∈ evL b, okE a) ∧ (evL b).length ≤ 2000 ∧ evK b = (evL b).length ∧ rowB (evL b) = b := by
  have hn : ¬ 2000 < evN b := fun x => by rw [evE, if_pos x] at h; cases h
  have he : errOf (evM b).2 = 0 := by
    rw [evE, if_neg hn] at h
    by_cases he : errOf (evM b).2 = 0
    · exact he
    · rw [if_pos he] at h; exact absurd h he
  have hlt : ¬ (evM b).2.wk < b.length := fun x => by rw [evE, if_neg hn, he, if_neg (fun x => x rfl), if_pos x] at h; cases h
  have h1 : errOf (rdS b 2 s0) = 0 := by
    by_cases hx : errOf (rdS b 2 s0) = 0
    · exact hx
    · rw [evM, many_err _ hx] at he; exact absurd he hx
  have hlen : 2 ≤ b.length := by
    by_cases hx : 2 ≤ b.length
    · exact hx
    · have : erR b 0 0 2 = 7 := if_pos ⟨rfl, by omega⟩
      have h2 := (errOf0 h1).1
      have h3 : (rdS b 2 s0).er = erR b 0 0 2 := rfl
      rw [h3, this] at h2; cases h2
  have hwk : (rdS b 2 s0).wk = 2 := by
    show wkR b 0 0 2 = 2
    rw [wkR, if_pos ⟨rfl, by omega⟩]
  obtain ⟨g1, g2, g3, g4⟩ := many_ok hb (evN b) (rdS b 2 s0) (by rw [hwk]; exact hlen) h1 he
  have hL : evL b = (evM b).1 := by rw [evL, if_pos h]
  have hM : evM b = many b (evN b) (rdS b 2 s0) := rfl
  rw [← hM] at g1 g2 g3 g4
  rw [hwk, show b.drop (evM b).2.wk = [] from List.drop_eq_nil_iff.2 (by omega), List.append_nil] at g2
  rw [hL]
  refine ⟨g3, by rw [g1]; omega, by rw [evK, if_neg hn], ?_⟩
  rw [(row_all g3 (by rw [g1]; omega)).2.2, ← g2, g1]
  obtain ⟨x, y, r, rfl⟩ : ∃ x y r, b = x :: y :: r := by
    match b, hlen with
    | x :: y :: r, _ => exact ⟨x, y, r, rfl⟩
  have hx := hb x (by simp)
  have hy := hb y (by simp)
  have e1 : numR (x :: y :: r) 0 0 2 = x * 256 + y := by
    rw [numR, if_pos ⟨rfl, by omega⟩]
    exact num2 hx hy
  have e2 : ((evN (x :: y :: r) : Nat) : Int) = x * 256 + y := by rw [evN, e1]; omega
  rw [e2, bytesF2]
  have q1 : (x * 256 + y) / 256 % 256 = x := by omega
  have q2 : (x * 256 + y) % 256 % 256 = y := by omega
  rw [q1, q2]
  rfl
theorem evK_pos (b : List Int) : 0 ≤ evK b := by
  rw [evK]; split <;> omega
theorem evL_no {b : List Int} (h : evE b ≠ 0) : evL b = [] := if_neg h
end Go.Proofs.Ytmieikflcolbaaa

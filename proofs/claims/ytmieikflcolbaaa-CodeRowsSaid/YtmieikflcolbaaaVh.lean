/- Events and bytes lead to one another, in plain Lean. No condition. -/
import Derived.Test.YtmieikflcolbaaaHd
namespace Go.Proofs.Ytmieikflcolbaaa
open Go Go.Sy
set_option maxRecDepth 100000
set_option linter.unusedSimpArgs false
set_option linter.unusedVariables false
def part (a : Evt) (c : Nat) : Int × Int × List Int := if c = 109 then (a.1 13, a.1 14, []) else if c = 77 then (a.1 24, a.1 25, []) else if c = 110 then (0, 0, a.2.1) else if c = 78 then (0, 0, a.2.2) else (a.1 (cel c), 0, [])
theorem partD {a b : Evt} {c : Nat} (h : part a c = part b c) : bytC a c = bytC b c ∧ fitC a c = fitC b c ∧ ∀ x, putC x a c = putC x b c := by
  unfold part at h
  unfold bytC fitC putC
  by_cases c1 : c = 109
  · simp only [c1, if_true, Prod.mk.injEq, and_true] at h
    simp only [c1, if_true, true_or, h.1, h.2, implies_true, and_self]
  by_cases c2 : c = 77
  · simp only [c2, if_true, Nat.reduceEqDiff, if_false, Prod.mk.injEq, and_true] at h
    simp only [c2, if_true, Nat.reduceEqDiff, if_false, or_true, h.1, h.2, implies_true, and_self]
  by_cases c3 : c = 110
  · simp only [c3, if_true, Nat.reduceEqDiff, if_false, Prod.mk.injEq, true_and] at h
    simp only [c3, if_true, Nat.reduceEqDiff, if_false, or_self, h, implies_true, and_self]
  by_cases c4 : c = 78
  · simp only [c4, if_true, Nat.reduceEqDiff, if_false, Prod.mk.injEq, true_and] at h
    simp only [c4, if_true, Nat.reduceEqDiff, if_false, or_self, h, implies_true, and_self]
  simp only [c1, c2, c3, c4, if_false, Prod.mk.injEq, and_true] at h
  simp only [c1, c2, c3, c4, if_false, or_self, h, implies_true, and_self]
def U0 : List Nat := [100, 119, 99, 113, 118, 112, 111, 102, 97, 101, 116, 68, 87, 67, 80, 86, 71, 83, 73, 85, 109, 77, 110, 78]
theorem cel_inj : ∀ c ∈ U0, ∀ d ∈ U0, c ≠ d → c ≠ 109 → c ≠ 77 → c ≠ 110 → c ≠ 78 → d ≠ 109 → d ≠ 77 → d ≠ 110 → d ≠ 78 → cel c ≠ cel d := by decide
theorem part_other {x a : Evt} {c d : Nat} (hc : c ∈ U0) (hd : d ∈ U0) (h : c ≠ d) : part (putC x a d) c = part x c := by
  have hi := cel_inj c hc d hd h
  obtain ⟨-, r2, r3, r4, r5, r6, r7, -⟩ := cel_rng c
  obtain ⟨-, s2, s3, s4, s5, s6, s7, -⟩ := cel_rng d
  unfold part putC
  by_cases d1 : d = 109
  · subst d1
    simp only [h, if_true, if_false]
    simp only [upd, r4, r5, if_false, Nat.reduceEqDiff]
  by_cases d2 : d = 77
  · subst d2
    simp only [h, if_true, if_false, Nat.reduceEqDiff]
    simp only [upd, r6, r7, if_false, Nat.reduceEqDiff]
  by_cases d3 : d = 110
  · subst d3
    simp only [h, if_true, if_false, Nat.reduceEqDiff, setL]
  by_cases d4 : d = 78
  · subst d4
    simp only [h, if_true, if_false, Nat.reduceEqDiff, setM]
  simp only [d1, d2, d3, d4, if_false]
  by_cases c1 : c = 109
  · simp only [c1, if_true, upd, Ne.symm s4, Ne.symm s5, if_false]
  by_cases c2 : c = 77
  · simp only [c2, if_true, if_false, Nat.reduceEqDiff, upd, Ne.symm s6, Ne.symm s7]
  by_cases c3 : c = 110
  · simp only [c3, if_true, if_false, Nat.reduceEqDiff, upd]
  by_cases c4 : c = 78
  · simp only [c4, if_true, if_false, Nat.reduceEqDiff, upd]
  have hi := hi c1 c2 c3 c4 d1 d2 d3 d4
  simp only [c1, c2, c3, c4, if_false, upd, hi]
theorem put_kinds {x a : Evt} {c : Nat} {i : Nat} (hi : i = 0 ∨ i = 1 ∨ i = 15) : (putC x a c).1 i = x.1 i := by
  obtain ⟨-, -, -, -, -, -, -, r8, r9, r10⟩ := cel_rng c
  have hn : i ≠ 13 ∧ i ≠ 14 ∧ i ≠ 24 ∧ i ≠ 25 ∧ i ≠ cel c := by omega
  unfold putC
  repeat' split
  · simp only [upd, hn, if_false]
  · simp only [upd, hn, if_false]
  · rfl
  · rfl
  · simp only [upd, hn, if_false]
abbrev foldP (y x : Evt) (l : List Nat) : Evt := l.foldl (fun b c => putC b y c) x
theorem pLs_of {a : Evt} (ha : wf a) : ∀ (l : List Nat) (x : Evt) (r : List Int), l.all (fitC a) = true → pLs l x (l.flatMap (bytC a) ++ r) = .ok (foldP a x l) r
  | [], x, r, _ => rfl
  | c :: l, x, r, h => by
    rw [List.all_cons, Bool.and_eq_true] at h
    show (pC c x ((c :: l).flatMap (bytC a) ++ r)).bind (pLs l) = _
    rw [List.flatMap_cons, List.append_assoc, pC_of ha h.1]
    exact pLs_of ha l _ r h.2
theorem pLs_ok : ∀ (l : List Nat) (x y : Evt) (r r' : List Int), l.Nodup → (∀ c ∈ l, c ∈ U0) → isY r → pLs l x r = .ok y r' →
    l.all (fitC y) = true ∧ r = l.flatMap (bytC y) ++ r' ∧ y = foldP y x l ∧ (∀ c ∈ U0, c ∉ l → part y c = part x c) ∧ ∀ i, (i = 0 ∨ i = 1 ∨ i = 15) → y.1 i = x.1 i
  | [], x, y, r, r', _, _, _, h => by cases h; exact ⟨rfl, rfl, rfl, fun _ _ _ => rfl, fun _ _ => rfl⟩
  | c :: l, x, y, r, r', hn, hu, hr, h => by
    replace h : (pC c x r).bind (pLs l) = .ok y r' := h
    cases hp : pC c x r with
    | no e => rw [hp] at h; cases h
    | ok x1 r1 =>
      rw [hp] at h
      obtain ⟨hcl, hnl⟩ := List.nodup_cons.1 hn
      obtain ⟨h1, h2, h3⟩ := pC_ok hr hp
      obtain ⟨g1, g2, g3, g4, g5⟩ := pLs_ok l x1 y r1 r' hnl (fun d hd => hu d (by simp [hd])) ((pC_good c).suf hp hr) h
      have hc : c ∈ U0 := hu c (by simp)
      have hpt := g4 c hc hcl
      obtain ⟨p1, p2, p3⟩ := partD hpt
      refine ⟨by rw [List.all_cons, p2, h1, g1]; rfl, by rw [List.flatMap_cons, List.append_assoc, ← g2, p1]; exact h2, ?_, fun d hd hdl => ?_, fun i hi => ?_⟩
      · show y = foldP y (putC x y c) l
        rw [p3 x, ← h3]
        exact g3
      · rw [g4 d hd (fun h => hdl (by simp [h])), h3]
        exact part_other hd hc (fun e => hdl (by simp [e]))
      · rw [g5 i hi, h3, put_kinds hi]
theorem callL_U {s : Int} {l : List Nat} (h : callL s = some l) : l.Nodup ∧ ∀ c ∈ l, c ∈ U0 := by
  unfold callL at h
  repeat' split at h
  all_goals first | (cases h; decide) | cases h
theorem liveL_U {s : Int} {l : List Nat} (h : liveL s = some l) : l.Nodup ∧ ∀ c ∈ l, c ∈ U0 := by
  unfold liveL at h
  repeat' split at h
  all_goals first | (cases h; decide) | cases h
def begE (a : Evt) : Evt := if a.1 0 = 1 then upd (upd ev0 0 1) 1 (a.1 1) else if a.1 0 = 2 then upd (upd ev0 0 2) 15 (a.1 15) else upd ev0 0 3
def ownE (a : Evt) : Evt := match fld a with
  | some l => foldP a (begE a) l
  | none => a
theorem pByte {k : Int → Evt → Evt} {x : Evt} {n : Int} {r : List Int} (h : 0 ≤ n ∧ n < 256) : pN 1 k x (n :: r) = .ok (k n x) r := by
  have := pN_of (w := 1) (k := k) (x := x) (n := n) (r := r) h.1 (by rw [Int.pow_one]; exact h.2) (by decide)
  rw [dig1 h] at this
  exact this
theorem pEv_of {a : Evt} (ha : wf a) (h : fitE a = true) (r : List Int) : pEv ev0 (bytE a ++ r) = .ok (ownE a) r := by
  rw [fitE] at h
  rw [bytE, ownE, begE, pEv]
  unfold headB
  unfold fld at h ⊢
  by_cases k1 : a.1 0 = 1
  · simp only [if_pos k1] at h ⊢
    cases hc : callL (a.1 1) with
    | none => rw [hc] at h; cases h
    | some l =>
      rw [hc] at h
      have hr := callL_rng hc
      dsimp only [List.cons_append, List.nil_append]
      rw [pByte (by decide)]
      show pKind (upd' 0 1 ev0) _ = _
      rw [pKind, if_pos (show (upd' 0 1 ev0).1 0 = 1 from rfl), pSub, pByte (by omega)]
      simp only [Pr.bind]
      rw [show (upd' 1 (a.1 1) (upd' 0 1 ev0)).1 1 = a.1 1 from rfl, hc]
      exact pLs_of ha l _ r h
  by_cases k2 : a.1 0 = 2
  · simp only [if_neg k1, if_pos k2] at h ⊢
    cases hc : liveL (a.1 15) with
    | none => rw [hc] at h; cases h
    | some l =>
      rw [hc] at h
      have hr := liveL_rng hc
      dsimp only [List.cons_append, List.nil_append]
      rw [pByte (by decide)]
      show pKind (upd' 0 2 ev0) _ = _
      rw [pKind, if_neg (show ¬(upd' 0 2 ev0).1 0 = 1 by decide), if_pos (show (upd' 0 2 ev0).1 0 = 2 from rfl), pSub, pByte (by omega)]
      simp only [Pr.bind]
      rw [show (upd' 15 (a.1 15) (upd' 0 2 ev0)).1 15 = a.1 15 from rfl, hc]
      exact pLs_of ha l _ r h
  by_cases k3 : a.1 0 = 3
  · simp only [if_neg k1, if_neg k2, if_pos k3] at h ⊢
    rw [k3]
    dsimp only [List.cons_append, List.nil_append]
    rw [pByte (by decide)]
    show pKind (upd' 0 3 ev0) _ = _
    rw [pKind, if_neg (show ¬(upd' 0 3 ev0).1 0 = 1 by decide), if_neg (show ¬(upd' 0 3 ev0).1 0 = 2 by decide), if_pos (show (upd' 0 3 ev0).1 0 = 3 from rfl)]
    exact pLs_of ha [116] _ r h
  · simp only [if_neg k1, if_neg k2, if_neg k3] at h
    cases h
theorem pByte_ok {k : Int → Evt → Evt} {x y : Evt} {r r' : List Int} (hr : isY r) (h : pN 1 k x r = .ok y r') : ∃ n, 0 ≤ n ∧ n < 256 ∧ y = k n x ∧ r = n :: r' := by
  obtain ⟨n, n0, n1, h1, h2⟩ := pN_ok hr (by decide) h
  rw [Int.pow_one] at n1
  rw [dig1 ⟨n0, n1⟩] at h2
  exact ⟨n, n0, n1, h1, h2⟩
theorem pEv_ok {y : Evt} {r r' : List Int} (hr : isY r) (h : pEv ev0 r = .ok y r') : fitE y = true ∧ r = bytE y ++ r' ∧ ownE y = y := by
  rw [pEv] at h
  cases hp : pN 1 (upd' 0) ev0 r with
  | no e => rw [hp] at h; cases h
  | ok x1 r1 =>
    rw [hp] at h
    obtain ⟨n, n0, n1, rfl, rfl⟩ := pByte_ok hr hp
    have hr1 : isY r1 := fun b hb => hr b (by simp [hb])
    replace h : pKind (upd' 0 n ev0) r1 = .ok y r' := h
    rw [pKind, show (upd' 0 n ev0).1 0 = n from rfl] at h
    have key : ∀ (i : Nat) (fl : Int → Option (List Nat)), (i = 1 ∨ i = 15) → (∀ s l, fl s = some l → l.Nodup ∧ ∀ c ∈ l, c ∈ U0) → pSub i fl (upd' 0 n ev0) r1 = .ok y r' →
        ∃ m l, fl m = some l ∧ y.1 0 = n ∧ y.1 i = m ∧ l.all (fitC y) = true ∧ r1 = m :: (l.flatMap (bytC y) ++ r') ∧ y = foldP y (upd' i m (upd' 0 n ev0)) l := by
      intro i fl hi hfl hs
      rw [pSub] at hs
      cases hp2 : pN 1 (upd' i) (upd' 0 n ev0) r1 with
      | no e => rw [hp2] at hs; cases hs
      | ok x2 r2 =>
        rw [hp2] at hs
        obtain ⟨m, m0, m1, rfl, rfl⟩ := pByte_ok hr1 hp2
        replace hs : (match fl ((upd' i m (upd' 0 n ev0)).1 i) with
          | some l => pLs l (upd' i m (upd' 0 n ev0)) r2
          | none => .no 361) = .ok y r' := hs
        rw [show (upd' i m (upd' 0 n ev0)).1 i = m from upd_self _ _ _] at hs
        cases hf : fl m with
        | none => rw [hf] at hs; cases hs
        | some l =>
          rw [hf] at hs
          obtain ⟨u1, u2⟩ := hfl m l hf
          obtain ⟨g1, g2, g3, -, g5⟩ := pLs_ok l _ y r2 r' u1 u2 (fun b hb => hr1 b (by simp [hb])) hs
          refine ⟨m, l, hf, ?_, ?_, g1, by rw [← g2], g3⟩
          · rw [g5 0 (Or.inl rfl)]
            show (upd (upd' 0 n ev0) i m).1 0 = n
            rw [upd_other _ (by omega)]
            rfl
          · rw [g5 i (by omega)]
            exact upd_self _ _ _
    split at h
    · rename_i hk
      subst hk
      obtain ⟨m, l, h1, h2, h3, h4, h5, h6⟩ := key 1 callL (Or.inl rfl) (fun _ _ h => callL_U h) h
      have hfld : fld y = some l := by rw [fld, if_pos h2, h3]; exact h1
      refine ⟨by rw [fitE, hfld]; exact h4, ?_, ?_⟩
      · rw [bytE, hfld, headB, if_pos h2, h3, h5]; rfl
      · rw [ownE, hfld, begE, if_pos h2, h3]; exact h6.symm
    split at h
    · rename_i hk0 hk
      subst hk
      obtain ⟨m, l, h1, h2, h3, h4, h5, h6⟩ := key 15 liveL (Or.inr rfl) (fun _ _ h => liveL_U h) h
      have hne : ¬ y.1 0 = 1 := by rw [h2]; decide
      have hfld : fld y = some l := by rw [fld, if_neg hne, if_pos h2, h3]; exact h1
      refine ⟨by rw [fitE, hfld]; exact h4, ?_, ?_⟩
      · rw [bytE, hfld, headB, if_neg hne, if_pos h2, h3, h5]; rfl
      · rw [ownE, hfld, begE, if_neg hne, if_pos h2, h3]; exact h6.symm
    split at h
    · rename_i hk0 hk1 hk
      subst hk
      obtain ⟨g1, g2, g3, -, g5⟩ := pLs_ok [116] _ y r1 r' (by decide) (by decide) hr1 h
      have h2 : y.1 0 = 3 := by rw [g5 0 (Or.inl rfl)]; rfl
      have hn1 : ¬ y.1 0 = 1 := by rw [h2]; decide
      have hn2 : ¬ y.1 0 = 2 := by rw [h2]; decide
      have hfld : fld y = some [116] := by rw [fld, if_neg hn1, if_neg hn2, if_pos h2]
      refine ⟨by rw [fitE, hfld]; exact g1, ?_, ?_⟩
      · rw [bytE, hfld, headB, if_neg hn1, if_neg hn2, h2, g2]; rfl
      · rw [ownE, hfld, begE, if_neg hn1, if_neg hn2]; exact g3.symm
    · cases h
theorem same_iff {a b : Evt} (ha : wf a) (hb : wf b) : sameE a b = true ↔ a = b := by
  constructor
  · intro h
    simp only [sameE, flatB, liveB, Bool.and_eq_true, decide_eq_true_eq] at h
    have h5 : a.1 5 = b.1 5 := by
      have h5 : decide (a.1 5 = 1) = decide (b.1 5 = 1) := by
        have := h
        simp only [beq_iff_eq] at this
        obtain ⟨⟨⟨⟨⟨⟨⟨⟨⟨⟨⟨⟨-, -⟩, -⟩, -⟩, -⟩, -⟩, x⟩, -⟩, -⟩, -⟩, -⟩, -⟩, -⟩ := this.1
        exact x
      have h5 := decide_eq_decide.1 h5
      have := ha.f
      have := hb.f
      omega
    have hf : a.1 = b.1 := by
      funext i
      by_cases hi : i = 6 ∨ i = 27 ∨ 29 ≤ i
      · rw [ha.z i hi, hb.z i hi]
      · have : i = 0 ∨ i = 1 ∨ i = 2 ∨ i = 3 ∨ i = 4 ∨ i = 5 ∨ i = 7 ∨ i = 8 ∨ i = 9 ∨ i = 10 ∨ i = 11 ∨ i = 12 ∨ i = 13 ∨ i = 14 ∨ i = 15 ∨ i = 16 ∨ i = 17 ∨ i = 18 ∨ i = 19 ∨ i = 20 ∨ i = 21 ∨ i = 22 ∨ i = 23 ∨ i = 24 ∨ i = 25 ∨ i = 26 ∨ i = 28 := by omega
        rcases this with rfl | rfl | rfl | rfl | rfl | rfl | rfl | rfl | rfl | rfl | rfl | rfl | rfl | rfl | rfl | rfl | rfl | rfl | rfl | rfl | rfl | rfl | rfl | rfl | rfl | rfl | rfl
        all_goals first | exact h5 | simp only [h]
    exact Prod.ext hf (Prod.ext (by simp only [h]) (by simp only [h]))
  · rintro rfl
    simp [sameE, flatB, liveB]
theorem decY {b : List Int} {a : Evt} {r : List Int} (h : pD b = .ok a r) (hb : isY b) : wf a := wf_pEv wf_ev0 hb h
theorem bytE_Y {a : Evt} (ha : wf a) (h : fitE a = true) : isY (bytE a) := by
  rw [← (encP_spec a ha).2 h]
  exact encP_Y a
theorem encE_eq {a : Evt} (ha : wf a) : (fitE a = true ∧ ownE a = a → encE a = 0) ∧ (¬(fitE a = true ∧ ownE a = a) → encE a = 360) := by
  obtain ⟨h1, h2⟩ := encP_spec a ha
  rw [encE, h1]
  cases hf : fitE a
  · exact ⟨fun h => absurd h.1 (by decide), fun _ => by simp⟩
  · rw [hf] at h2
    have h2 := h2 rfl
    have hp : pD (bytE a) = .ok (ownE a) [] := by
      have := pEv_of ha hf []
      rw [List.append_nil] at this
      exact this
    have hY := bytE_Y ha hf
    obtain ⟨d1, d2⟩ := decE_eq hY
    rw [hp] at d1 d2
    rw [h2, d1, d2, resE, if_pos rfl, resA, if_pos rfl]
    have hw := decY hp hY
    simp only [Bool.not_true, Bool.false_eq_true, if_false, ne_eq, not_true_eq_false, true_and]
    exact ⟨fun ho => if_pos ((same_iff hw ha).2 ho), fun ho => if_neg (fun h => ho ((same_iff hw ha).1 h))⟩
theorem encE_or {a : Evt} (ha : wf a) : encE a = 0 ∨ encE a = 360 := by
  by_cases h : fitE a = true ∧ ownE a = a
  · exact Or.inl ((encE_eq ha).1 h)
  · exact Or.inr ((encE_eq ha).2 h)
theorem encB_eq {a : Evt} (ha : wf a) (h : encE a = 0) : encB a = bytE a ∧ fitE a = true ∧ ownE a = a := by
  have h3 : fitE a = true ∧ ownE a = a := by
    by_cases h3 : fitE a = true ∧ ownE a = a
    · exact h3
    · have := (encE_eq ha).2 h3; rw [h] at this; cases this
  exact ⟨by rw [encB, if_pos h, (encP_spec a ha).2 h3.1], h3.1, h3.2⟩
theorem encB_Y (a : Evt) : isY (encB a) := by
  rw [encB]
  split
  · exact encP_Y a
  · intro b hb; cases hb
end Go.Proofs.Ytmieikflcolbaaa

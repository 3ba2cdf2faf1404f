/- The document's reading of bytes is the parser's. No condition. -/
import Derived.Test.YtmieikflcolbaaaRe
namespace Go.Proofs.Ytmieikflcolbaaa
open Go Go.Sy
set_option maxRecDepth 100000
set_option linter.unusedSimpArgs false
set_option linter.unusedVariables false
def SimT (q : Evt × List Int × Int) (x : Pr) : Prop := match x with
  | .ok a r => q = (a, r, 0)
  | .no e => e ≠ 0 ∧ q.2.2 = e
theorem tE_err {r : List Int} {e : Int} {w : Nat} (h : e ≠ 0) : tE r e w = e := if_neg fun x => h x.1
theorem simTN (r : List Int) (a : Evt) (w : Nat) (k : Int → Evt → Evt) (hw : 0 < w) : SimT (k (tN r 0 w) a, tR r 0 w, tE r 0 w) (pN w k a r) := by
  rw [pN]
  by_cases h : w ≤ r.length
  · rw [if_pos h]
    have h1 : tN r 0 w = num (r.take w) := if_pos ⟨rfl, h⟩
    have h2 : tR r 0 w = r.drop w := if_pos ⟨rfl, h⟩
    have h3 : tE r 0 w = 0 := if_neg fun x => by omega
    rw [h1, h2, h3]
    rfl
  · rw [if_neg h]
    exact ⟨by decide, if_pos ⟨rfl, by omega⟩⟩
theorem SimT.then {q : Evt × List Int × Int} {x : Pr} (h : SimT q x) (g : Evt × List Int × Int → Evt × List Int × Int) (f : Evt → List Int → Pr) (he : ∀ q, q.2.2 ≠ 0 → (g q).2.2 = q.2.2)
    (hs : ∀ a r, isY r → SimT (g (a, r, 0)) (f a r)) (hy : isY q.2.1) : SimT (g q) (x.bind f) := by
  cases x with
  | no e => exact ⟨h.1, by rw [he _ (by rw [h.2]; exact h.1)]; exact h.2⟩
  | ok a r =>
    obtain rfl : q = (a, r, 0) := h
    exact hs a r hy
theorem tL_ok : ∀ (n : Nat) (r : List Int), isY r → n ≤ r.length → tL n r 0 = (r.take n, r.drop n, 0)
  | 0, r, _, _ => rfl
  | n + 1, [], _, h => absurd h (by simp)
  | n + 1, c :: r, hy, h => by
    have h1 : tN (c :: r) 0 1 = c := by
      obtain ⟨c0, c1⟩ := hy c (by simp)
      rw [tN, if_pos ⟨rfl, by simp⟩]
      show (0 * 256 + c) % 18446744073709551616 = c
      omega
    have h2 : tR (c :: r) 0 1 = r := if_pos ⟨rfl, by simp⟩
    have h3 : tE (c :: r) 0 1 = 0 := if_neg fun x => by simp at x
    rw [tL, if_pos rfl, h1, h2, h3, tL_ok n r (fun b hb => hy b (by simp [hb])) (by simpa using h)]
    rfl
theorem tL_short : ∀ (n : Nat) (r : List Int), isY r → r.length < n → (tL n r 0).2.2 = 7
  | 0, r, _, h => absurd h (by simp)
  | n + 1, [], _, _ => by
    have h2 : tR [] 0 1 = [] := if_neg fun x => by simp at x
    have h3 : tE [] 0 1 = 7 := if_pos ⟨rfl, by simp⟩
    rw [tL, if_pos rfl, h2, h3]
    cases n with
    | zero => rfl
    | succ n => rw [tL, if_neg (by decide)]
  | n + 1, c :: r, hy, h => by
    have h2 : tR (c :: r) 0 1 = r := if_pos ⟨rfl, by simp⟩
    have h3 : tE (c :: r) 0 1 = 0 := if_neg fun x => by simp at x
    rw [tL, if_pos rfl, h2, h3]
    exact tL_short n r (fun b hb => hy b (by simp [hb])) (by simpa using h)
theorem tL_stop : ∀ (n : Nat) (r : List Int) (e : Int), e ≠ 0 → (tL n r e).2.2 = e
  | 0, _, _, _ => rfl
  | n + 1, r, e, h => by rw [tL, if_neg h]
theorem simTL (r : List Int) (hy : isY r) (a : Evt) (k : List Int → Evt → Evt) : SimT (k (tLs r).1 a, (tLs r).2) (pL k a r) := by
  cases r with
  | nil => exact ⟨by decide, show (tLs []).2.2 = 7 by decide⟩
  | cons c r =>
    obtain ⟨c0, c1⟩ := hy c (by simp)
    have hr : isY r := fun b hb => hy b (by simp [hb])
    have h1 : tN (c :: r) 0 1 = c := by
      rw [tN, if_pos ⟨rfl, by simp⟩]
      show (0 * 256 + c) % 18446744073709551616 = c
      omega
    have h2 : tR (c :: r) 0 1 = r := if_pos ⟨rfl, by simp⟩
    have h3 : tE (c :: r) 0 1 = 0 := if_neg fun x => by simp at x
    rw [tLs, h1, h2, h3, pL]
    by_cases h : 32 < c
    · rw [if_pos h, if_pos h]
      exact ⟨by decide, tL_stop _ _ _ (by decide)⟩
    · rw [if_neg h, if_neg h]
      by_cases hl : c.toNat ≤ r.length
      · rw [if_pos hl, tL_ok _ _ hr hl]
        rfl
      · rw [if_neg hl]
        exact ⟨by decide, tL_short _ _ hr (by omega)⟩
theorem tC_Y {q : Evt × List Int × Int} (c : Nat) (h : isY q.2.1) : isY (tC q c).2.1 := by
  unfold tC
  repeat' split
  · exact tR_Y (tR_Y h)
  · exact tR_Y (tR_Y h)
  · exact tLs_Y h
  · exact tLs_Y h
  · exact tR_Y h
  · exact tR_Y h
theorem wid_pos' {c : Nat} (h1 : ¬ c = 109) (h2 : ¬ c = 77) (h3 : ¬ c = 110) (h4 : ¬ c = 78) : 0 < wid c := by
  unfold wid
  repeat' split
  all_goals first | decide | omega
theorem simTC (c : Nat) (a : Evt) (r : List Int) (hy : isY r) : SimT (tC (a, r, 0) c) (pC c a r) := by
  have two : ∀ i j : Nat, SimT (upd (upd a i (tN r 0 4)) j (tN (tR r 0 4) (tE r 0 4) 4), tR (tR r 0 4) (tE r 0 4) 4, tE (tR r 0 4) (tE r 0 4) 4) ((pN 4 (upd' i) a r).bind (pN 4 (upd' j))) := fun i j =>
    (simTN r a 4 (upd' i) (by decide)).then (fun q => (upd' j (tN q.2.1 q.2.2 4) q.1, tR q.2.1 q.2.2 4, tE q.2.1 q.2.2 4)) _ (fun q h => tE_err h) (fun a r _ => simTN r a 4 (upd' j) (by decide)) (tR_Y hy)
  unfold tC pC
  dsimp only
  by_cases h1 : c = 109
  · rw [if_pos h1, if_pos h1]; exact two 13 14
  rw [if_neg h1, if_neg h1]
  by_cases h2 : c = 77
  · rw [if_pos h2, if_pos h2]; exact two 24 25
  rw [if_neg h2, if_neg h2]
  by_cases h3 : c = 110
  · rw [if_pos h3, if_pos h3]; exact simTL r hy a fun l a => setL a l
  rw [if_neg h3, if_neg h3]
  by_cases h4 : c = 78
  · rw [if_pos h4, if_pos h4]; exact simTL r hy a fun l a => setM a l
  rw [if_neg h4, if_neg h4]
  have bd := tN_bd (r := r) (e := 0) (wid c) hy
  by_cases h5 : c = 102
  · subst h5
    rw [if_pos rfl, pT]
    have hw : wid 102 = 1 := rfl
    have hc : cel 102 = 5 := rfl
    rw [hw, Int.pow_one] at bd
    rw [hw, hc, wrap_i64 (by omega) (by omega)]
    have h := simTN r a 1 (upd' 5) (by decide)
    cases hp : pN 1 (upd' 5) a r with
    | no e =>
      rw [hp] at h
      obtain ⟨g1, g2⟩ := h
      dsimp only at g2
      refine ⟨g1, ?_⟩
      dsimp only
      have h0 : tN r 0 1 = 0 := by
        rw [pN] at hp
        split at hp
        · cases hp
        · rename_i hl; exact if_neg fun x => hl x.2
      rw [if_neg (by rw [h0]; omega)]
      exact g2
    | ok a' r' =>
      rw [hp] at h
      have h' : (upd' 5 (tN r 0 1) a, tR r 0 1, tE r 0 1) = (a', r', 0) := h
      simp only [Prod.mk.injEq] at h'
      clear h hp
      obtain ⟨rfl, rfl, h⟩ := h'
      have e : (upd' 5 (tN r 0 1) a).1 5 = tN r 0 1 := rfl
      simp only [Pr.bind, e, decide_eq_true_eq, h]
      by_cases hx : tN r 0 1 ≤ 1
      · have hx2 : ¬ (True ∧ 1 < tN r 0 1) := fun h => by omega
        rw [if_pos hx, if_neg hx2]; rfl
      · have hx2 : True ∧ 1 < tN r 0 1 := ⟨trivial, by omega⟩
        rw [if_neg hx, if_pos hx2]
        exact ⟨by decide, rfl⟩
  rw [if_neg h5, if_neg (fun h => h5 h.1)]
  have hp := wid_pos' h1 h2 h3 h4
  by_cases h6 : c = 97 ∨ c = 101 ∨ c = 116
  · rw [if_pos h6]
    have hw : wid c = 8 := by rcases h6 with rfl | rfl | rfl <;> rfl
    rw [hw]
    exact simTN r a 8 (fun x => upd' (cel c) (IntKind.i64.wrap x)) (by decide)
  · rw [if_neg h6]
    have hw : wid c = 1 ∨ wid c = 2 ∨ wid c = 4 := by
      unfold wid at hp ⊢
      repeat' split
      all_goals first | (simp; done) | omega
    have hb : (256 : Int) ^ wid c ≤ 4294967296 := by rcases hw with h | h | h <;> rw [h] <;> decide
    rw [wrap_i64 (by omega) (by omega)]
    exact simTN r a (wid c) (upd' (cel c)) hp
theorem simTCs : ∀ (l : List Nat) (a : Evt) (r : List Int), isY r → SimT (tCs l (a, r, 0)) (pLs l a r)
  | [], a, r, _ => rfl
  | c :: l, a, r, hy => by
    rw [tCs, if_pos rfl]
    exact (simTC c a r hy).then (fun q => tCs l q) (pLs l) (fun q h => by rw [tCs_err l h]) (fun a r h => simTCs l a r h) (tC_Y c hy)
theorem evt_ext {a b : Evt} (h1 : ∀ i, a.1 i = b.1 i) (h2 : a.2 = b.2) : a = b := Prod.ext (funext h1) h2
theorem simTA (r : List Int) (hy : isY r) : SimT (tA r) (pEv ev0 r) := by
  cases r with
  | nil => exact ⟨by decide, by decide⟩
  | cons n r =>
    obtain ⟨n0, n1⟩ := hy n (by simp)
    have hr : isY r := fun b hb => hy b (by simp [hb])
    have one : ∀ (c : Int) (r : List Int), 0 ≤ c → c < 256 → num ((c :: r).take 1) = c := fun c r h0 h1 => by
      show (0 * 256 + c) % 18446744073709551616 = c
      omega
    have h1 : tN (n :: r) 0 1 = n := by rw [tN, if_pos ⟨rfl, by simp⟩]; exact one n r n0 n1
    have h2 : tR (n :: r) 0 1 = r := if_pos ⟨rfl, by simp⟩
    have h3 : tE (n :: r) 0 1 = 0 := if_neg fun x => by simp at x
    have hp : pEv ev0 (n :: r) = pKind (upd ev0 0 n) r := by
      rw [pEv, pN, if_pos (by simp), one n r n0 n1]; rfl
    rw [hp, tA, h1, pKind, show (upd ev0 0 n).1 0 = n from rfl]
    have hk1 : k1 (n :: r) = if n < 1 ∨ 3 < n then 361 else 0 := by
      rw [k1, h1, h3]; simp
    have hk2 : k2 (n :: r) = if n = 3 then (0, r, k1 (n :: r)) else (tN r (k1 (n :: r)) 1, tR r (k1 (n :: r)) 1, tE r (k1 (n :: r)) 1) := by rw [k2, h1, h2]
    have sub : ∀ (i : Nat) (fl : Int → Option (List Nat)), (∀ s, fldR n s = fl s) → fl 0 = none → n < 3 → 1 ≤ n → (∀ s, begR n s = upd (upd ev0 0 n) i s) →
        SimT (tCs ((fldR n (k2 (n :: r)).1).getD []) (begR n (k2 (n :: r)).1, (k2 (n :: r)).2.1, if (k2 (n :: r)).2.2 = 0 ∧ (fldR n (k2 (n :: r)).1).isSome = false then 361 else (k2 (n :: r)).2.2)) (pSub i fl (upd ev0 0 n) r) := by
      intro i fl hf f0 n3 n1' hb
      rw [if_neg (by omega)] at hk1
      rw [hk2, if_neg (by omega), hk1, pSub]
      simp only [hf, hb]
      cases r with
      | nil =>
        have e1 : tN [] 0 1 = 0 := rfl
        have e2 : tE [] 0 1 = 7 := rfl
        rw [e1, e2, f0]
        exact ⟨by decide, by simp [tCs]⟩
      | cons s r =>
        obtain ⟨s0, s1⟩ := hr s (by simp)
        have e1 : tN (s :: r) 0 1 = s := by rw [tN, if_pos ⟨rfl, by simp⟩]; exact one s r s0 s1
        have e2 : tR (s :: r) 0 1 = r := if_pos ⟨rfl, by simp⟩
        have e3 : tE (s :: r) 0 1 = 0 := if_neg fun x => by simp at x
        have ep : pN 1 (upd' i) (upd ev0 0 n) (s :: r) = .ok (upd (upd ev0 0 n) i s) r := by
          rw [pN, if_pos (by simp), one s r s0 s1]; rfl
        rw [e1, e2, e3, ep]
        simp only [Pr.bind, show (upd (upd ev0 0 n) i s).1 i = s by simp [upd]]
        cases hfs : fl s with
        | none => exact ⟨by decide, by simp [tCs]⟩
        | some l =>
          simp only [Option.getD_some, Option.isSome_some, Bool.true_eq_false, and_false, if_false]
          exact simTCs l _ r fun b hb => hr b (by simp [hb])
    by_cases c1 : n = 1
    · rw [if_pos c1]
      subst c1
      exact sub 1 callL (fun s => rfl) callL0 (by decide) (by decide) fun s => evt_ext (fun i => by
        show (if i = 0 then (1 : Int) else if i = 1 then s else if i = 15 then 0 else 0) = if i = 1 then s else if i = 0 then 1 else 0
        repeat' split
        all_goals first | rfl | omega) rfl
    rw [if_neg c1]
    by_cases c2 : n = 2
    · rw [if_pos c2]
      subst c2
      exact sub 15 liveL (fun s => rfl) liveL0 (by decide) (by decide) fun s => evt_ext (fun i => by
        show (if i = 0 then (2 : Int) else if i = 1 then 0 else if i = 15 then s else 0) = if i = 15 then s else if i = 0 then 2 else 0
        repeat' split
        all_goals first | rfl | omega) rfl
    rw [if_neg c2]
    by_cases c3 : n = 3
    · rw [if_pos c3]
      subst c3
      rw [if_neg (by decide)] at hk1
      rw [hk2, if_pos rfl, hk1]
      have e : fldR 3 0 = some [116] := rfl
      have eb : begR 3 0 = upd ev0 0 3 := evt_ext (fun i => by
        show (if i = 0 then (3 : Int) else if i = 1 then 0 else if i = 15 then 0 else 0) = if i = 0 then 3 else 0
        repeat' split
        all_goals first | rfl | omega) rfl
      dsimp only
      rw [e, eb]
      exact simTCs [116] _ r hr
    · rw [if_neg c3, hk2, if_neg c3]
      rw [if_pos (by omega)] at hk1
      rw [hk1]
      have e1 : tN r 361 1 = 0 := if_neg fun x => absurd x.1 (by decide)
      have e2 : tE r 361 1 = 361 := if_neg fun x => absurd x.1 (by decide)
      have ef : fldR n 0 = none := by rw [fldR, if_neg c1, if_neg c2, if_neg (fun h => c3 h.1)]
      dsimp only
      rw [e1, e2, ef]
      exact ⟨by decide, by simp [tCs]⟩
end Go.Proofs.Ytmieikflcolbaaa

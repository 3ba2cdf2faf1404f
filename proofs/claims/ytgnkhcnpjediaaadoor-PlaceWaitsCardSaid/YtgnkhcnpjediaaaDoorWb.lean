/- Who waits and who is placed, in plain words. No condition. -/
import Derived.Test.YtgnkhcnpjediaaaDoorFa
namespace Go.Proofs.YtgnkhcnpjediaaaDoor
open Go Go.Sy
set_option maxRecDepth 100000
set_option linter.unusedSimpArgs false
set_option linter.unusedVariables false

theorem runP_none {f : Nat} {w : Wi} {l : List Wi} (h : takesW w f = none) : (runP f (w :: l)).puts = (runP f l).puts ∧ (runP f (w :: l)).free = (runP f l).free := by
  have : runP f (w :: l) = l.foldl stepP (stepP ⟨f, [], [], 0⟩ w) := rfl
  rw [this, foldP]
  simp [stepP, h]
theorem runP_some {f : Nat} {w : Wi} {l : List Wi} {c : Int} (h : takesW w f = some c) : (runP f (w :: l)).puts = (w.v, c) :: (runP (dif f (2 ^ c.toNat)) l).puts ∧ (runP f (w :: l)).free = (runP (dif f (2 ^ c.toNat)) l).free := by
  have : runP f (w :: l) = l.foldl stepP (stepP ⟨f, [], [], 0⟩ w) := rfl
  rw [this, foldP]
  simp [stepP, h]
/-- All of one are in the other. -/
abbrev inS (a b : Nat) : Prop := ∀ i, a.testBit i = true → b.testBit i = true
theorem dif_in (a b : Nat) : inS (dif a b) a := fun i h => by rw [dif_bit] at h; simp only [Bool.and_eq_true] at h; exact h.1
theorem hasB_in {a b : Nat} (h : inS a b) {c : Int} (hc : hasB a c = true) : hasB b c = true := by
  simp only [hasB, Bool.and_eq_true] at hc ⊢
  exact ⟨hc.1, h _ hc.2⟩
theorem alw_bit {m : Msk} {s : Nat} (hm : okM m = true) (hs : s < 256) (i : Nat) : (alw m s).testBit i = (m.1.testBit i && s.testBit i) := by
  rw [alw, if_pos ⟨hm, hs⟩, Nat.testBit_and]
theorem alw_in (m : Msk) (s : Nat) : inS (alw m s) s := fun i h => by
  unfold alw at h
  split at h
  · rw [Nat.testBit_and] at h; simp only [Bool.and_eq_true] at h; exact h.2
  · simp at h
theorem takes_in {w : Wi} {f : Nat} {c : Int} (h : takesW w f = some c) : hasB f c = true := hasB_in (alw_in _ _) (best_has h)
theorem run_in : ∀ (l : List Wi) (f : Nat), inS (runP f l).free f
  | [], _ => fun _ h => h
  | w :: l, f => by
    cases h : takesW w f with
    | none => rw [(runP_none h).2]; exact run_in l f
    | some c => rw [(runP_some h).2]; exact fun i hi => dif_in _ _ i (run_in l _ i hi)
theorem run_put : ∀ (l : List Wi) (f : Nat), ∀ p ∈ (runP f l).puts, hasB f p.2 = true ∧ hasB (runP f l).free p.2 = false ∧ ∃ w ∈ l, w.v = p.1
  | [], _, p, h => by simp [runP] at h
  | w :: l, f, p, h => by
    cases ht : takesW w f with
    | none =>
      rw [(runP_none ht).1] at h
      rw [(runP_none ht).2]
      obtain ⟨h1, h2, u, h3, h4⟩ := run_put l f p h
      exact ⟨h1, h2, u, by simp [h3], h4⟩
    | some c =>
      rw [(runP_some ht).1] at h
      rw [(runP_some ht).2]
      rcases List.mem_cons.1 h with rfl | h
      · refine ⟨takes_in ht, ?_, w, by simp, rfl⟩
        cases hb : hasB (runP (dif f (2 ^ c.toNat)) l).free c
        · rfl
        · have h2 := hasB_in (run_in l _) hb
          simp [hasB, dif_bit, testBit_pow] at h2
      · obtain ⟨h1, h2, u, h3, h4⟩ := run_put l _ p h
        exact ⟨hasB_in (dif_in _ _) h1, h2, u, by simp [h3], h4⟩
abbrev vsOk (l : List Wi) : Prop := l.Pairwise fun u w => ¬ u.v = w.v
theorem okWs_pre : ∀ (l pre : List Wi), okWs pre l = true → ∀ x ∈ pre, ∀ u ∈ l, ¬ x.v = u.v
  | [], _, _, _, _, u, hu => by simp at hu
  | w :: l, pre, h, x, hx, u, hu => by
    simp only [okWs, Bool.and_eq_true] at h
    rcases List.mem_cons.1 hu with rfl | hu
    · have h2 := h.1
      simp only [okB, Bool.and_eq_true, Bool.not_eq_true', List.any_eq_false] at h2
      have := h2.1.2 x hx
      simpa using this
    · exact okWs_pre l _ h.2 x (by simp [hx]) u hu
theorem okWs_vs : ∀ (l pre : List Wi), okWs pre l = true → vsOk l
  | [], _, _ => List.Pairwise.nil
  | w :: l, pre, h => by
    have h2 := h
    simp only [okWs, Bool.and_eq_true] at h2
    exact List.Pairwise.cons (fun u hu => okWs_pre l _ h2.2 w (by simp) u hu) (okWs_vs l _ h2.2)
theorem run_pw : ∀ (l : List Wi) (f : Nat), vsOk l → (runP f l).puts.Pairwise fun p q => ¬ p.1 = q.1
  | [], _, _ => List.Pairwise.nil
  | w :: l, f, h => by
    obtain ⟨h1, h2⟩ := List.pairwise_cons.1 h
    cases ht : takesW w f with
    | none => rw [(runP_none ht).1]; exact run_pw l f h2
    | some c =>
      rw [(runP_some ht).1]
      refine List.Pairwise.cons (fun q hq => ?_) (run_pw l _ h2)
      obtain ⟨-, -, u, hu, e⟩ := run_put l _ q hq
      intro e2
      exact h1 u hu (e2.trans e.symm)
/-- Where a vCPU is, by placements. -/
def onM (ps : List (Int × Int)) (ns : List Int) : Option SV := ps.foldl (fun r p => if ns = [p.1] then some (I p.2) else r) none
theorem onM_snoc (l : List (Int × Int)) (p : Int × Int) (ns : List Int) : onM (l ++ [p]) ns = if ns = [p.1] then some (I p.2) else onM l ns := by
  rw [onM, List.foldl_append]; rfl
theorem onM_go {v : Int} : ∀ (ps : List (Int × Int)) (r : Option SV), (∀ p ∈ ps, ¬ p.1 = v) → ps.foldl (fun r p => if [v] = [p.1] then some (I p.2) else r) r = r
  | [], _, _ => rfl
  | p :: ps, r, h => by
    rw [List.foldl_cons, if_neg (by have := h p (by simp); simpa using fun e => this e.symm)]
    exact onM_go ps r (fun q hq => h q (by simp [hq]))
theorem onM_new {ps : List (Int × Int)} (h : ps.Pairwise fun p q => ¬ p.1 = q.1) {k : Nat} (hk : k < ps.length) : onM (ps.take k) [(ps.getD k default).1] = none := by
  refine onM_go _ _ fun p hp => ?_
  obtain ⟨i, hi, rfl⟩ := List.mem_take_iff_getElem.1 hp
  have := List.pairwise_iff_getElem.1 h i k (by omega) hk (by omega)
  rwa [List.getD, List.getElem?_eq_getElem hk, Option.getD_some]
theorem onM_run : ∀ (l : List Wi) (f k : Nat), vsOk l → k < l.length → onM (runP f l).puts [(l.getD k default).v] = (takesW (l.getD k default) (runP f (l.take k)).free).map I
  | [], _, _, _, h => by simp at h
  | w :: l, f, 0, h, _ => by
    obtain ⟨h1, h2⟩ := List.pairwise_cons.1 h
    have hg : ∀ g, ∀ p ∈ (runP g l).puts, ¬ p.1 = w.v := fun g p hp e => by
      obtain ⟨-, -, u, hu, e2⟩ := run_put l g p hp
      exact h1 u hu (e.symm.trans e2.symm)
    simp only [List.getD_cons_zero, List.take_zero]
    show _ = (takesW w f).map I
    cases ht : takesW w f with
    | none => rw [(runP_none ht).1, onM, onM_go _ _ (hg f)]; rfl
    | some c => rw [(runP_some ht).1, onM, List.foldl_cons, if_pos rfl, onM_go _ _ (hg _)]; rfl
  | w :: l, f, k + 1, h, hk => by
    obtain ⟨h1, h2⟩ := List.pairwise_cons.1 h
    have hk : k < l.length := by simpa using hk
    have hm : l.getD k default ∈ l := by
      rw [List.getD, List.getElem?_eq_getElem hk]; exact List.getElem_mem _
    simp only [List.getD_cons_succ, List.take_succ_cons]
    cases ht : takesW w f with
    | none => rw [(runP_none ht).1, (runP_none ht).2]; exact onM_run l f k h2 hk
    | some c =>
      rw [(runP_some ht).1, (runP_some ht).2, onM, List.foldl_cons, if_neg (by have := h1 _ hm; simpa using fun e => this e.symm)]
      exact onM_run l _ k h2 hk
theorem next_some {s : Nat} (h0 : s ≠ 0) (h : s < 256) : ∃ c, nextB s (-1) = some c := by
  obtain ⟨h1, -, h3⟩ := bits_step s h h0
  rw [nextB, h1]
  exact ⟨_, List.find?_cons_of_pos (by simp; omega)⟩
theorem none_alw {w : Wi} {f : Nat} (h : takesW w f = none) : alw w.m f = 0 := by
  unfold takesW bestB at h
  split at h
  · cases h
  · by_cases h0 : lik w.m f = 0
    · unfold lik at h0
      split at h0
      · contradiction
      · exact h0
    · obtain ⟨c, hc⟩ := next_some h0 (lik_lt _ _)
      rw [hc] at h; cases h
theorem none_in {w : Wi} {f free : Nat} (h : takesW w f = none) (hm : okM w.m = true) (hf : f < 256) (hr : free < 256) : dif (alw w.m free) (dif free f) = 0 := by
  rw [dif_zero]
  intro i hi
  rw [alw_bit hm hr, Bool.and_eq_true] at hi
  have h0 := congrArg (fun n => n.testBit i) (none_alw h)
  simp only [alw_bit hm hf, hi.1, Bool.true_and, Nat.zero_testBit] at h0
  rw [dif_bit, hi.2, h0]; rfl
theorem dif_ahead {f free : Nat} {c : Int} (hs : inS f free) (hc : hasB f c = true) : dif free f ||| 2 ^ c.toNat = dif free (dif f (2 ^ c.toNat)) := by
  apply Nat.eq_of_testBit_eq; intro i
  rw [or_bit, dif_bit, dif_bit, dif_bit, testBit_pow]
  simp only [hasB, Bool.and_eq_true] at hc
  by_cases e : c.toNat = i
  · subst e
    rw [hc.2, hs _ hc.2]; simp
  · simp [e]
theorem dif_back {f free : Nat} (hs : inS f free) : dif free f ||| f = free := by
  apply Nat.eq_of_testBit_eq; intro i
  rw [Nat.testBit_or, dif_bit]
  have := hs i
  revert this
  cases f.testBit i <;> cases free.testBit i <;> simp
theorem dif_self (a : Nat) : dif a a = 0 := dif_zero.2 fun _ h => h
theorem some_has {w : Wi} {f free : Nat} {c : Int} (h : takesW w f = some c) (hs : inS f free) (hm : okM w.m = true) (hf : f < 256) (hr : free < 256) : hasB (alw w.m free) c = true ∧ hasB (dif free f) c = false := by
  constructor
  · have h2 := best_has h
    simp only [hasB, Bool.and_eq_true, alw_bit hm hf, alw_bit hm hr] at h2 ⊢
    exact ⟨h2.1, h2.2.1, hs _ h2.2.2⟩
  · have h2 := takes_in h
    simp only [hasB, Bool.and_eq_true, dif_bit] at h2 ⊢
    rw [h2.2]; simp
theorem some_at {w : Wi} {f free : Nat} {c : Int} (h : takesW w f = some c) (hm : okM w.m = true) (hf : f < 256) (hr : free < 256) (h1 : hasB (alw w.m free) w.a = true) (h2 : hasB (dif free f) w.a = false) : c = w.a := by
  have h3 : hasB (alw w.m f) w.a = true := by
    simp only [hasB, Bool.and_eq_true, alw_bit hm hf, alw_bit hm hr, dif_bit, Bool.and_eq_false_iff] at h1 h2 ⊢
    refine ⟨h1.1, h1.2.1, ?_⟩
    rcases h2 with h2 | h2 | h2
    · rw [h1.1] at h2; cases h2
    · rw [h1.2.2] at h2; cases h2
    · simpa using h2
  unfold takesW bestB at h
  rw [if_pos h3] at h
  exact (Option.some.inj h).symm
theorem fair_run : ∀ (l : List Wi) (f free : Nat), f < 256 → free < 256 → inS f free → (∀ w ∈ l, okM w.m = true) → vsOk l → fairG free (dif free f) l (runP f l).puts = true
  | [], f, free, _, _, _, _, _ => rfl
  | w :: l, f, free, hf, hr, hs, hm, hv => by
    obtain ⟨h1, h2⟩ := List.pairwise_cons.1 hv
    have hmw := hm w (by simp)
    cases ht : takesW w f with
    | none =>
      rw [(runP_none ht).1]
      have ih := fair_run l f free hf hr hs (fun u hu => hm u (by simp [hu])) h2
      have h0 := none_in ht hmw hf hr
      have hput := run_put l f
      generalize (runP f l).puts = ps at ih hput ⊢
      cases ps with
      | nil => rw [fairG, decide_eq_true h0, Bool.true_and]; exact ih
      | cons p ps =>
        obtain ⟨-, -, u, hu, e⟩ := hput p (by simp)
        rw [fairG, if_neg (fun e2 => h1 u hu (e2.symm.trans e.symm)), decide_eq_true h0, Bool.true_and]
        exact ih
    | some c =>
      rw [(runP_some ht).1]
      have ih := fair_run l (dif f (2 ^ c.toNat)) free (Nat.lt_of_le_of_lt (dif_le _ _) hf) hr (fun i hi => hs i (dif_in _ _ i hi)) (fun u hu => hm u (by simp [hu])) h2
      obtain ⟨g1, g2⟩ := some_has ht hs hmw hf hr
      have h3 := takes_bd ht
      have g3 : (dif free f).testBit c.toNat = false := by
        simp only [hasB, Bool.and_eq_false_iff, decide_eq_false_iff_not] at g2
        rcases g2 with g2 | g2
        · exact absurd h3 g2
        · exact g2
      rw [fairG, if_pos rfl, g1]
      simp only [g3, Bool.not_false, Bool.true_and]
      rw [dif_ahead hs (takes_in ht)]
      exact ih
end Go.Proofs.YtgnkhcnpjediaaaDoor

/- Traces that may be, without any program: frames, how long, sums over vCPUs and pCPUs. No condition. -/
import Derived.Test.YtcpanpkhdcifoaaTi
namespace Go.Proofs.Ytcpanpkhdcifoaa
open Go Go.Sy
set_option maxRecDepth 100000
set_option linter.unusedSimpArgs false
set_option linter.unusedVariables false

abbrev aT (fs : List Fr) (k : Nat) : Int := (fs.getD k default).1
abbrev pT (fs : List Fr) (k : Nat) : List Pt := (fs.getD k default).2
/-- A trace that may be. -/
structure RT (fs : List Fr) (en : Int) : Prop where
  len : fs.length ≤ 4000
  en0 : 0 ≤ en
  en1 : en ≤ 1125899906842624
  at0 : ∀ k, k < fs.length → 0 ≤ aT fs k
  atE : ∀ k, k < fs.length → aT fs k ≤ en
  pic : ∀ k, k < fs.length → okPic (pT fs k) = true
  inc : ∀ k, k + 1 < fs.length → aT fs k < aT fs (k + 1)
  ne : ∀ k, k + 1 < fs.length → pT fs k ≠ pT fs (k + 1)
theorem timeB_iff (t : Int) : timeB t = true ↔ 0 ≤ t ∧ t ≤ 1125899906842624 := by
  simp only [timeB, Bool.and_eq_true, decide_eq_true_eq]
theorem RT.iff (fs : List Fr) (en : Int) : rightT fs en = true ↔ RT fs en := by
  constructor
  · intro h
    simp only [rightT, Bool.and_eq_true, decide_eq_true_eq, timeB_iff, List.all_eq_true, List.mem_range] at h
    obtain ⟨⟨h1, h2, h3⟩, h4⟩ := h
    have h5 := fun k hk => by
      have := h4 k hk
      simpa only [frB, Bool.and_eq_true, Bool.or_eq_true, decide_eq_true_eq, timeB_iff, Bool.not_eq_true', decide_eq_false_iff_not] using this
    refine ⟨h1, h2, h3, fun k hk => (h5 k hk).1.1.1.1, fun k hk => (h5 k hk).1.1.2, fun k hk => (h5 k hk).1.2, fun k hk => ?_, fun k hk => ?_⟩
    · have := (h5 (k + 1) hk).2
      simp only [Nat.add_sub_cancel] at this
      exact (this.resolve_left (by omega)).1
    · have := (h5 (k + 1) hk).2
      simp only [Nat.add_sub_cancel] at this
      exact (this.resolve_left (by omega)).2
  · intro h
    refine rightT_yes h.len ((timeB_iff _).2 ⟨h.en0, h.en1⟩) fun k hk => ?_
    refine frB_suc ((timeB_iff _).2 ⟨h.at0 k hk, Int.le_trans (h.atE k hk) h.en1⟩) (h.atE k hk) (h.pic k hk) ?_
    rcases k with _ | k
    · exact .inl rfl
    · exact .inr ⟨h.inc k hk, h.ne k hk⟩
theorem RT.mono {fs : List Fr} {en : Int} (h : RT fs en) {i j : Nat} (hij : i < j) (hj : j < fs.length) : aT fs i < aT fs j := by
  induction j with
  | zero => omega
  | succ j ih =>
    have := h.inc j hj
    by_cases e : i = j
    · rw [e]; exact this
    · have := ih (by omega) (by omega); omega
theorem untilT_in {fs : List Fr} {en : Int} {k : Nat} (h : k + 1 < fs.length) : untilT fs en k = aT fs (k + 1) := by rw [untilT, if_pos h]
theorem untilT_end {fs : List Fr} {en : Int} {k : Nat} (h : ¬ k + 1 < fs.length) : untilT fs en k = en := by rw [untilT, if_neg h]
theorem RT.until {fs : List Fr} {en : Int} (h : RT fs en) {k : Nat} (hk : k < fs.length) : aT fs k ≤ untilT fs en k ∧ untilT fs en k ≤ en := by
  by_cases e : k + 1 < fs.length
  · rw [untilT_in e]
    have := h.inc k e
    have := h.atE (k + 1) e
    omega
  · rw [untilT_end e]
    exact ⟨h.atE k hk, Int.le_refl _⟩
theorem RT.after {fs : List Fr} {en : Int} (h : RT fs en) {i j : Nat} (hij : i < j) (hj : j < fs.length) : untilT fs en i ≤ aT fs j := by
  rw [untilT_in (by omega)]
  by_cases e : i + 1 = j
  · rw [e]; exact Int.le_refl _
  · exact Int.le_of_lt (h.mono (by omega) hj)

/- pictures -/
structure OP (l : List Pt) : Prop where
  v1 : ∀ p ∈ l, 1 ≤ p.1
  v2 : ∀ p ∈ l, p.1 ≤ 16
  c0 : ∀ p ∈ l, 0 ≤ p.2
  c7 : ∀ p ∈ l, p.2 ≤ 7
  vs : l.Pairwise fun p q => p.1 ≠ q.1
  cs : l.Pairwise fun p q => p.2 < q.2
theorem getD_get {α : Type} [Inhabited α] {l : List α} {k : Nat} (h : k < l.length) : l.getD k default = l[k] := by
  rw [List.getD, List.getElem?_eq_getElem h]; rfl
theorem OP.of {l : List Pt} (h : okPic l = true) : OP l := by
  have h1 : ∀ k, k < l.length → picB l k = true := fun k hk => by
    rw [okPic, List.all_eq_true] at h
    exact h k (List.mem_range.2 hk)
  have h2 := fun k hk => by
    have := h1 k hk
    simpa only [picB, Bool.and_eq_true, Bool.or_eq_true, decide_eq_true_eq, Bool.not_eq_true', List.any_eq_false] using this
  have hm : ∀ p ∈ l, ∃ k, k < l.length ∧ l.getD k default = p := fun p hp => by
    obtain ⟨k, hk, e⟩ := List.mem_iff_getElem.1 hp
    exact ⟨k, hk, by rw [getD_get hk, e]⟩
  have hinc : ∀ j i, i < j → j < l.length → (l.getD i default).2 < (l.getD j default).2 := by
    intro j
    induction j with
    | zero => intro i hi; omega
    | succ j ih =>
      intro i hi hj
      have := (h2 (j + 1) hj).2.resolve_left (by omega)
      simp only [Nat.add_sub_cancel] at this
      by_cases e : i = j
      · rw [e]; exact this
      · have := ih i (by omega) (by omega); omega
  refine ⟨fun p hp => ?_, fun p hp => ?_, fun p hp => ?_, fun p hp => ?_, ?_, ?_⟩
  · obtain ⟨k, hk, rfl⟩ := hm p hp
    exact (h2 k hk).1.1.1.1.1
  · obtain ⟨k, hk, rfl⟩ := hm p hp
    exact (h2 k hk).1.1.1.1.2
  · obtain ⟨k, hk, rfl⟩ := hm p hp
    exact (h2 k hk).1.1.1.2
  · obtain ⟨k, hk, rfl⟩ := hm p hp
    exact (h2 k hk).1.1.2
  · rw [List.pairwise_iff_getElem]
    intro i j hi hj hij
    have := (h2 j hj).1.2 l[i] (by
      rw [List.mem_iff_getElem]
      exact ⟨i, by simp; omega, by rw [List.getElem_take]⟩)
    rw [getD_get hj] at this
    exact this
  · rw [List.pairwise_iff_getElem]
    intro i j hi hj hij
    have := hinc j i hij hj
    rwa [getD_get hi, getD_get hj] at this

/- sums -/
def sumI : List Int → Int
  | [] => 0
  | a :: l => a + sumI l
theorem sumI_add {α : Type} (f g : α → Int) : ∀ l : List α, sumI (l.map fun a => f a + g a) = sumI (l.map f) + sumI (l.map g)
  | [] => rfl
  | a :: l => by simp only [List.map_cons, sumI, sumI_add f g l]; omega
theorem sumI_snoc (a : Int) : ∀ l : List Int, sumI (l ++ [a]) = sumI l + a
  | [] => by simp [sumI]
  | b :: l => by simp only [List.cons_append, sumI, sumI_snoc a l]; omega
theorem sumI_zero {α : Type} : ∀ l : List α, sumI (l.map fun _ => 0) = 0
  | [] => rfl
  | a :: l => by simp only [List.map_cons, sumI, sumI_zero l]; rfl
/-- One of the keys alone. -/
theorem sumI_one (x d : Int) : ∀ V : List Int, V.Nodup → x ∈ V → sumI (V.map fun v => if x = v then d else 0) = d
  | [], _, h => by cases h
  | v :: V, hn, h => by
    rw [List.nodup_cons] at hn
    simp only [List.map_cons, sumI]
    by_cases e : x = v
    · subst e
      rw [if_pos rfl]
      have : V.map (fun v => if x = v then d else 0) = V.map fun _ => (0 : Int) := List.map_congr_left fun v hv => if_neg (by rintro rfl; exact hn.1 hv)
      rw [this, sumI_zero]; omega
    · rw [if_neg e, sumI_one x d V hn.2 ((List.mem_cons.1 h).resolve_left e)]; omega
/-- Each of a row has a key of its own: the keys found are as many. -/
theorem sumI_keys (g : Pt → Int) (d : Int) (V : List Int) (hV : V.Nodup) : ∀ l : List Pt, (∀ p ∈ l, g p ∈ V) → l.Pairwise (fun p q => g p ≠ g q) → sumI (V.map fun v => if l.any (fun p => decide (g p = v)) = true then d else 0) = d * l.length
  | [], _, _ => by simp [sumI_zero]
  | p :: l, h, hp => by
    rw [List.pairwise_cons] at hp
    have ih := sumI_keys g d V hV l (fun q hq => h q (List.mem_cons_of_mem _ hq)) hp.2
    have e : V.map (fun v => if (p :: l).any (fun p => decide (g p = v)) = true then d else 0) = V.map fun v => (if g p = v then d else 0) + (if l.any (fun p => decide (g p = v)) = true then d else 0) := by
      refine List.map_congr_left fun v _ => ?_
      simp only [List.any_cons, Bool.or_eq_true, decide_eq_true_eq]
      by_cases e1 : g p = v
      · have e2 : ¬ (l.any fun p => decide (g p = v)) = true := by
          rw [List.any_eq_true]
          rintro ⟨q, hq, h2⟩
          exact hp.1 q hq (e1.trans (of_decide_eq_true h2).symm)
        rw [if_pos (.inl e1), if_pos e1, if_neg e2]; omega
      · simp only [e1, false_or, if_false]; omega
    rw [e, sumI_add, ih, sumI_one _ _ V hV (h p (by simp)), List.length_cons]
    rw [Int.natCast_add, Int.mul_add]; simp; omega

/- how long -/
/-- How much of one time lies in another one. -/
def cutI (a u from' to : Int) : Int := if min u to - max a from' < 0 then 0 else min u to - max a from'
def longK (fs : List Fr) (en from' to : Int) (q : Pt → Bool) : Nat → Int
  | 0 => 0
  | k + 1 => longK fs en from' to q k + if (pT fs k).any q = true then cutI (aT fs k) (untilT fs en k) from' to else 0
def longT (fs : List Fr) (en from' to : Int) (q : Pt → Bool) : Int := longK fs en from' to q fs.length
theorem cutI_bd {a u from' to : Int} (h1 : 0 ≤ a) (h2 : u ≤ 1125899906842624) : 0 ≤ cutI a u from' to ∧ cutI a u from' to ≤ 1125899906842624 := by
  unfold cutI; split <;> omega
theorem longK_bd {fs : List Fr} {en : Int} (h : RT fs en) (from' to : Int) (q : Pt → Bool) : ∀ k, k ≤ fs.length → 0 ≤ longK fs en from' to q k ∧ longK fs en from' to q k ≤ k * 1125899906842624
  | 0, _ => by simp [longK]
  | k + 1, hk => by
    have ih := longK_bd h from' to q k (by omega)
    have := h.until (k := k) (by omega)
    have h1 := cutI_bd (from' := from') (to := to) (h.at0 k (by omega)) (show untilT fs en k ≤ 1125899906842624 by have := h.en1; omega)
    rw [longK]
    split <;> omega
/-- Up to a time, and from it on. -/
theorem longK_split {fs : List Fr} {en now : Int} (h : RT fs en) (q : Pt → Bool) (h0 : 0 ≤ now) (h1 : now ≤ 1125899906842624) : ∀ k, k ≤ fs.length → longK fs en 0 now q k + longK fs en now 1125899906842624 q k = longK fs en 0 1125899906842624 q k
  | 0, _ => by simp [longK]
  | k + 1, hk => by
    have ih := longK_split h q h0 h1 k (by omega)
    have h2 := h.until (k := k) (by omega)
    have h3 := h.at0 k (by omega)
    have h4 := h.en1
    have e : cutI (aT fs k) (untilT fs en k) 0 now + cutI (aT fs k) (untilT fs en k) now 1125899906842624 = cutI (aT fs k) (untilT fs en k) 0 1125899906842624 := by
      unfold cutI; generalize aT fs k = a at *; generalize untilT fs en k = u at *
      split <;> split <;> split <;> omega
    simp only [longK]
    split <;> omega
/-- The sums over all keys. -/
theorem longK_keys {fs : List Fr} {en from' to : Int} (g : Pt → Int) (V : List Int) (hV : V.Nodup) (hk : ∀ k, k < fs.length → (∀ p ∈ pT fs k, g p ∈ V) ∧ (pT fs k).Pairwise fun p q => g p ≠ g q) : ∀ k, k ≤ fs.length →
    sumI (V.map fun v => longK fs en from' to (fun p => decide (g p = v)) k) = sumI ((List.range k).map fun j => cutI (aT fs j) (untilT fs en j) from' to * (pT fs j).length)
  | 0, _ => by simp only [longK, sumI_zero, List.range_zero, List.map_nil, sumI]
  | k + 1, h => by
    have ih := longK_keys (en := en) (from' := from') (to := to) g V hV hk k (by omega)
    obtain ⟨h1, h2⟩ := hk k (by omega)
    simp only [longK]
    rw [sumI_add, ih, sumI_keys g _ V hV _ h1 h2, List.range_succ, List.map_append, List.map_cons, List.map_nil, sumI_snoc]
theorem vcpus_in {l : List Pt} (h : OP l) : (∀ p ∈ l, p.1 ∈ [(1 : Int), 2, 3, 4, 5, 6, 7, 8, 9, 10, 11, 12, 13, 14, 15, 16]) ∧ l.Pairwise fun p q => p.1 ≠ q.1 := by
  refine ⟨fun p hp => ?_, h.vs⟩
  have := h.v1 p hp
  have := h.v2 p hp
  simp only [List.mem_cons, List.not_mem_nil, or_false]
  omega
theorem cpus_in {l : List Pt} (h : OP l) : (∀ p ∈ l, p.2 ∈ [(0 : Int), 1, 2, 3, 4, 5, 6, 7]) ∧ l.Pairwise fun p q => p.2 ≠ q.2 := by
  refine ⟨fun p hp => ?_, h.cs.imp fun h => by omega⟩
  have := h.c0 p hp
  have := h.c7 p hp
  simp only [List.mem_cons, List.not_mem_nil, or_false]
  omega
/-- What all vCPUs ran is what all pCPUs were busy. -/
theorem long_all {fs : List Fr} {en : Int} (h : RT fs en) (from' to : Int) : sumI ([(1 : Int), 2, 3, 4, 5, 6, 7, 8, 9, 10, 11, 12, 13, 14, 15, 16].map fun v => longT fs en from' to fun p => decide (p.1 = v)) = sumI ([(0 : Int), 1, 2, 3, 4, 5, 6, 7].map fun c => longT fs en from' to fun p => decide (p.2 = c)) := by
  simp only [longT]
  rw [longK_keys (fun p => p.1) _ (by decide) (fun k hk => vcpus_in (OP.of (h.pic k hk))) _ (Nat.le_refl _), longK_keys (fun p => p.2) _ (by decide) (fun k hk => cpus_in (OP.of (h.pic k hk))) _ (Nat.le_refl _)]
end Go.Proofs.Ytcpanpkhdcifoaa

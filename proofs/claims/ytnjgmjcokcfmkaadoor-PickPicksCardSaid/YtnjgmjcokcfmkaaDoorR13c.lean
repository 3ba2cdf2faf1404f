/- Walks of the reference's Place, Puts, SamePuts. No condition. -/
import Derived.Test.YtnjgmjcokcfmkaaDoorR13b
namespace Go.Proofs.YtnjgmjcokcfmkaaDoor
open Go Go.Sy
set_option maxRecDepth 100000
set_option linter.unusedSimpArgs false
set_option linter.unusedVariables false

/-- Where each goes; -1: it waits. -/
def atP (free : Nat) (l : List Wi) : List Int := (l.foldl (fun (p : Run × List Int) w => (stepP p.1 w, p.2 ++ [(takesW w p.1.free).getD (-1)])) (⟨free, [], [], 0⟩, [])).2
theorem atP_run (free : Nat) (l : List Wi) : (l.foldl (fun (p : Run × List Int) w => (stepP p.1 w, p.2 ++ [(takesW w p.1.free).getD (-1)])) (⟨free, [], [], 0⟩, [])).1 = runP free l := by
  suffices H : ∀ (l : List Wi) (st : Run) (q : List Int), (l.foldl (fun (p : Run × List Int) w => (stepP p.1 w, p.2 ++ [(takesW w p.1.free).getD (-1)])) (st, q)).1 = l.foldl stepP st from H l _ _
  intro l
  induction l with
  | nil => intros; rfl
  | cons w l ih => intro st q; exact ih _ _
theorem atP_snoc (free : Nat) (l : List Wi) (w : Wi) : atP free (l ++ [w]) = atP free l ++ [(takesW w (runP free l).free).getD (-1)] := by
  rw [← atP_run free l]
  simp only [atP, List.foldl_append, List.foldl_cons, List.foldl_nil]
theorem atP_take {free : Nat} {l : List Wi} {k : Nat} (h : k < l.length) : atP free (l.take (k + 1)) = atP free (l.take k) ++ [(takesW (l.getD k default) (runP free (l.take k)).free).getD (-1)] := by
  rw [List.take_succ_eq_append_getElem h, atP_snoc]; simp [List.getD, h]
theorem atP_len (free : Nat) : ∀ (n : Nat) (l : List Wi), l.length = n → (atP free l).length = n := by
  intro n
  induction n with
  | zero => intro l h; rw [List.eq_nil_of_length_eq_zero h]; rfl
  | succ n ih =>
    intro l h
    rcases List.eq_nil_or_concat l with rfl | ⟨l', w, rfl⟩
    · simp at h
    · rw [List.concat_eq_append] at h ⊢
      rw [atP_snoc, List.length_append, ih l' (by simpa using h)]; rfl
theorem atP_get {free : Nat} {l : List Wi} {k : Nat} (h : k < l.length) : (atP free l).getD k default = (takesW (l.getD k default) (runP free (l.take k)).free).getD (-1) := by
  have H : ∀ j, k + 1 + j ≤ l.length → (atP free (l.take (k + 1 + j))).getD k default = (takesW (l.getD k default) (runP free (l.take k)).free).getD (-1) := by
    intro j
    induction j with
    | zero =>
      intro _
      have e := atP_len free k (l.take k) (by simp; omega)
      rw [Nat.add_zero, atP_take h]
      simp only [List.getD]
      rw [List.getElem?_append_right (by omega), e, Nat.sub_self]; rfl
    | succ j ih =>
      intro hj
      have e := atP_len free (k + 1 + j) (l.take (k + 1 + j)) (by simp; omega)
      rw [← Nat.add_assoc, atP_take (by omega)]
      simp only [List.getD] at ih ⊢
      rw [List.getElem?_append_left (by omega)]
      exact ih (by omega)
  have := H (l.length - (k + 1)) (by omega)
  rwa [show k + 1 + (l.length - (k + 1)) = l.length by omega, List.take_length] at this

theorem samePuts_ok (us bs : List (Int × Int)) (hn : us.length < 2 ^ 62) : Con Tryd.prog gl0 (fnv 18) [Ps us, Ps bs] 0 [] (Ret (Bo (decide (us = bs)))) := by
  refine Con.of Tryd.ok18 (nt := 26) (res := [.tmp 4]) Tryd.mixed Tryd.func18 rfl rfl rfl rfl fun κ xc hκ => hκ.run 300 ?_
  simp (disch := omega) only [push_cast, simprocAttr, eP]
  refine OutOK_fork (fun h => ?_) (fun h => ?_) <;> try simp only [Bool.not_true, Bool.not_false, decide_eq_true_eq, decide_eq_false_iff_not, Bool.not_eq_true', Bool.not_eq_false', Bool.and_eq_true, Bool.or_eq_false_iff, Bool.or_eq_true, Bool.and_eq_false_iff] at h
  · simp (disch := omega) only [push_cast, simprocAttr, eP]
    refine hκ.ret _ _ _ _ _ _ trivial rfl ?_
    have : ¬ us = bs := by rintro rfl; exact h rfl
    simp only [this, decide_false]
    exact .ret trivial
  · simp (disch := omega) only [push_cast, simprocAttr, eP]
    have hlen : us.length = bs.length := by omega
    refine Sat.less (Sat.loop (γ := Nat) (fun k => ([(5, I k), (0, Ps us), (1, Ps bs)], [], 0)) (fun k => us.length - k)
      (fun k => k ≤ us.length ∧ us.take k = bs.take k) ?round 0 ⟨by omega, by simp⟩) (by repeat' (first | exact EnvSub.nil _ | exact HeapSub.nil _ | refine EnvSub.cons rfl ?_ | refine HeapSub.cons rfl ?_ | (refine EnvSub.cons (by simp [Env.get]; done) ?_) | (refine HeapSub.cons (by simp [Heap.get]; done) ?_))) (by repeat' (first | exact EnvSub.nil _ | exact HeapSub.nil _ | refine EnvSub.cons rfl ?_ | refine HeapSub.cons rfl ?_ | (refine EnvSub.cons (by simp [Env.get]; done) ?_) | (refine HeapSub.cons (by simp [Heap.get]; done) ?_)))
    case round =>
      rintro k ⟨hk, hl⟩ ih
      refine hκ.run 300 ?_
      simp (disch := omega) only [push_cast, simprocAttr, eP]
      refine OutOK_fork (fun h => ?_) (fun h => ?_) <;> try simp only [Bool.not_true, Bool.not_false, decide_eq_true_eq, decide_eq_false_iff_not, Bool.not_eq_true', Bool.not_eq_false', Bool.and_eq_true, Bool.or_eq_false_iff, Bool.or_eq_true, Bool.and_eq_false_iff] at h
      · simp (disch := omega) only [push_cast, simprocAttr, eP]
        (repeat (refine ⟨by first | omega | (refine ⟨?_, ?_⟩ <;> omega) | trivial | (simp; done) | decide +kernel, fun _ => ?_⟩))
        have hee : (decide ((us.getD k default).1 = (bs.getD k default).1) && (decide ((us.getD k default).2 = (bs.getD k default).2) && true)) = decide (us.getD k default = bs.getD k default) := by
          rw [Bool.and_true, ← Bool.decide_and]; exact decide_eq_decide.2 (Prod.ext_iff.symm)
        by_cases e : us.getD k default = bs.getD k default
        · rw [e]
          simp (disch := omega) only [push_cast, simprocAttr, eP]
          exact (ih (k + 1) ⟨by omega, take_eq_succ' (by omega) (by omega) hl e⟩ (by omega)).less (by repeat' (first | exact EnvSub.nil _ | exact HeapSub.nil _ | refine EnvSub.cons rfl ?_ | refine HeapSub.cons rfl ?_ | (refine EnvSub.cons (by simp [Env.get]; done) ?_) | (refine HeapSub.cons (by simp [Heap.get]; done) ?_))) (by repeat' (first | exact EnvSub.nil _ | exact HeapSub.nil _ | refine EnvSub.cons rfl ?_ | refine HeapSub.cons rfl ?_ | (refine EnvSub.cons (by simp [Env.get]; done) ?_) | (refine HeapSub.cons (by simp [Heap.get]; done) ?_)))
        · rw [Bool.and_true] at hee
          rw [hee, decide_eq_false e]
          simp (disch := omega) only [push_cast, simprocAttr, eP]
          refine hκ.ret _ _ _ _ _ _ trivial rfl ?_
          have : ¬ us = bs := by rintro rfl; exact e rfl
          simp only [this, decide_false]
          exact .ret trivial
      · simp (disch := omega) only [push_cast, simprocAttr, eP]
        obtain rfl : k = us.length := by omega
        refine hκ.ret _ _ _ _ _ _ trivial rfl ?_
        have : us = bs := by
          rw [List.take_length] at hl
          rw [hl, List.take_of_length_le (by omega)]
        simp only [this, decide_true]
        exact .ret trivial
end Go.Proofs.YtnjgmjcokcfmkaaDoor

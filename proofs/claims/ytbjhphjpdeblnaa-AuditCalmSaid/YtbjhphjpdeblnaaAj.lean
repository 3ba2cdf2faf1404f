/- Watches: how long a vCPU was somewhere, as the document says it. No condition. -/
import Derived.Test.YtbjhphjpdeblnaaAi
namespace Go.Proofs.Ytbjhphjpdeblnaa
open Go Go.Sy
set_option maxRecDepth 100000
set_option linter.unusedSimpArgs false
set_option linter.unusedVariables false

/-- The place of who is seen. -/
def idxX : List Se → Int → Nat
  | [], _ => 0
  | x :: l, v => if x.v = v then 0 else idxX l v + 1
theorem idx_find (v : Int) : ∀ l, (findX l v = none ∧ idxX l v = l.length) ∨ (idxX l v < l.length ∧ findX l v = some (l.getD (idxX l v) default))
  | [] => .inl ⟨rfl, rfl⟩
  | x :: l => by
    by_cases e : x.v = v
    · right
      rw [idxX, if_pos e, findX, List.find?_cons, decide_eq_true e]
      exact ⟨by simp, by simp⟩
    · rw [idxX, if_neg e, show findX (x :: l) v = findX l v by rw [findX, List.find?_cons, decide_eq_false e]; rfl]
      rcases idx_find v l with h | h
      · left; exact ⟨h.1, by simp [h.2]⟩
      · right; exact ⟨by simp [h.1], by simpa using h.2⟩
def seenI (l : List Se) (v : Int) : Int := if idxX l v < l.length then idxX l v else -1
theorem rfind_ok (m : Mo) (v : Int) (hm : inM m) (hv : i64 v) : Con Try.prog gl0 (fnv 31) [.agg (eM m), I v] 0 [] (Ret (I (seenI m.2 v))) := by
  obtain ⟨t, l⟩ := m
  obtain ⟨hm1, hm2, hm3⟩ := hm
  dsimp only at hm1 hm2 hm3 ⊢
  refine Con.of Try.ok31 (nt := 22) (res := [.tmp 4]) Try.mixed Try.func31 rfl rfl rfl rfl fun κ xc hκ => hκ.run 300 ?_
  simp (disch := omega) only [exec_succ, runR_next, runR_stop, stepS, runOp, toSR, sop, rOf, rNew, sBox, isArr, ev, Env.get, cellsS, envOf, OutOK_stop, Bool.false_eq_true, List.size_toArray, List.length_cons, List.length_nil, List.range, List.range.loop, List.getElem?_toArray, List.getElem?_cons_succ, List.getElem?_cons_zero, ↓reduceIte, Nat.reduceAdd, Nat.reduceLT, Nat.zero_add, Int.reduceNeg, gl0, eM]
  refine Sat.less (Sat.loop (γ := Nat) (fun k => ([(5, I k), (2, .ptr 0 0 0 0), (1, I v)], [(0, .own [I t, Xs l] 27)], 1)) (fun k => l.length - k) (fun k => k ≤ l.length ∧ k + idxX (l.drop k) v = idxX l v) ?round 0 ⟨Nat.zero_le _, by simp⟩) (by repeat' (first | exact EnvSub.nil _ | exact HeapSub.nil _ | refine EnvSub.cons rfl ?_ | refine HeapSub.cons rfl ?_ | (refine EnvSub.cons (by simp [Env.get]; done) ?_) | (refine HeapSub.cons (by simp [Heap.get]; done) ?_))) (by repeat' (first | exact EnvSub.nil _ | exact HeapSub.nil _ | refine EnvSub.cons rfl ?_ | refine HeapSub.cons rfl ?_ | (refine EnvSub.cons (by simp [Env.get]; done) ?_) | (refine HeapSub.cons (by simp [Heap.get]; done) ?_)))
  case round =>
    rintro k ⟨hk, hj⟩ ih
    dsimp only at hk hj ih ⊢
    refine hκ.run 300 ?_
    simp (disch := omega) only [sBuiltin, exec_succ, runR_next, stepS, runOp, condS, toSR, sop, rOf, sLoadIn, sLoad, sInt, sBin, sFieldAddr, sLen, ev, Env.get, Heap.get, takeN, cut, aggOf, List.size_toArray, List.length_cons, List.length_nil, List.length_map, List.range, List.range.loop, List.getElem?_toArray, List.getElem?_cons_succ, List.getElem?_cons_zero, ↓reduceIte, Nat.reduceAdd, Nat.reduceLT, Nat.reduceEqDiff, Nat.zero_add, Nat.add_one_ne_zero, Int.reduceNeg, gl0, Try.underlying25, Try.sz25, Try.ag25, Try.fd27f1]
    refine OutOK_fork (fun h => ?_) (fun h => ?_) <;> try simp only [Bool.not_true, Bool.not_false, decide_eq_true_eq, decide_eq_false_iff_not, Bool.not_eq_true', Bool.not_eq_false', Bool.and_eq_true, Bool.or_eq_false_iff, Bool.or_eq_true, Bool.and_eq_false_iff] at h
    · have hx := hm2 _ (getD_mem (show k < l.length by omega))
      rw [drop_getD (by omega), idxX] at hj
      simp (disch := omega) only [exec_succ, runR_next, runR_need, stepS, runOp, condS, toSR, sop, rOf, sLoadIn, sLoad, sInt, sBin, sFieldAddr, sIndexAddr, elemT, obind, ev, Env.get, Heap.get, takeN, cut, aggOf, OutOK_need, List.size_toArray, List.length_cons, List.length_nil, List.length_map, List.range, List.range.loop, List.getElem?_toArray, List.getElem?_cons_succ, List.getElem?_cons_zero, ↓reduceIte, Nat.reduceAdd, Nat.reduceLT, Nat.reduceEqDiff, Nat.zero_add, Nat.add_zero, Nat.add_one_ne_zero, Int.reduceNeg, Int.toNat_natCast, getD_map, Try.sz3, Try.ag3, Try.underlying25, Try.sz25, Try.ag25, Try.fd27f1, Try.sz65, Try.fd65f0, eX]
      (repeat (refine ⟨by first | omega | (refine ⟨?_, ?_⟩ <;> omega) | trivial | (simp; done) | decide +kernel, fun _ => ?_⟩))
      by_cases e1 : (l.getD k default).v = v
      · rw [if_pos e1] at hj
        have et : ((l.getD k default).v = v) = True := by first | (simp only [eq_iff_iff, iff_true]; first | assumption | omega) | (simp; omega)
        simp (disch := omega) only [exec_succ, runR_next, runR_fork_true, runR_stop, stepS, runOp, toSR, sop, rOf, ev, Env.get, OutOK_stop, List.size_toArray, List.length_cons, List.length_nil, List.range, List.range.loop, List.getElem?_toArray, List.getElem?_cons_succ, List.getElem?_cons_zero, ↓reduceIte, Nat.reduceAdd, Nat.reduceLT, Nat.reduceEqDiff, Nat.zero_add, Int.reduceNeg, decide_true, et]
        refine hκ.ret _ _ _ _ _ _ trivial rfl ?_
        rw [seenI, ← hj, if_pos (by omega), Nat.add_zero]
        exact .ret trivial
      · rw [if_neg e1] at hj
        have hz := ih (k + 1) ⟨by omega, by omega⟩ (by omega)
        simp (disch := omega) only [exec_succ, runR_next, runR_fork_false, runR_stop, stepS, runOp, toSR, sop, rOf, sInt, sBin, ev, Env.get, OutOK_stop, List.size_toArray, List.length_cons, List.length_nil, List.range, List.range.loop, List.getElem?_toArray, List.getElem?_cons_succ, List.getElem?_cons_zero, ↓reduceIte, Nat.reduceAdd, Nat.reduceLT, Nat.reduceEqDiff, Nat.zero_add, Int.reduceNeg, decide_false, wrap_i64, e1]
        exact hz.less (by repeat' (first | exact EnvSub.nil _ | exact HeapSub.nil _ | refine EnvSub.cons rfl ?_ | refine HeapSub.cons rfl ?_ | (refine EnvSub.cons (by simp [Env.get]; done) ?_) | (refine HeapSub.cons (by simp [Heap.get]; done) ?_))) (by repeat' (first | exact EnvSub.nil _ | exact HeapSub.nil _ | refine EnvSub.cons rfl ?_ | refine HeapSub.cons rfl ?_ | (refine EnvSub.cons (by simp [Env.get]; done) ?_) | (refine HeapSub.cons (by simp [Heap.get]; done) ?_)))
    · simp (disch := omega) only [exec_succ, runR_next, runR_stop, stepS, runOp, goS, toSR, sop, rOf, ev, exitTo, OutOK_stop, List.size_toArray, List.length_cons, List.length_nil, List.range, List.range.loop, List.getElem?_toArray, List.getElem?_cons_zero, ↓reduceIte, Nat.reduceLT, Nat.zero_add, Int.reduceNeg, beq_self_eq_true]
      obtain rfl : k = l.length := by omega
      rw [List.drop_length] at hj
      refine hκ.run 300 ?_
      simp (disch := omega) only [exec_succ, runR_stop, stepS, OutOK_stop, Int.reduceNeg, gl0]
      refine hκ.ret _ _ _ _ _ _ trivial rfl ?_
      rw [seenI, ← hj, if_neg (by simp [idxX])]
      exact .ret trivial
theorem seenB_of {ms : List Mo} {en : Int} (h : WT ms en) {k : Nat} (hk : k < ms.length) : ∀ x ∈ (ms.getD k default).2, seenB x = true := fun x hx => by
  have hm := h.mom k hk
  rw [rightM, Bool.and_eq_true, List.all_eq_true] at hm
  obtain ⟨i, hi, rfl⟩ := List.mem_iff_getElem.1 hx
  have := hm.1 i (List.mem_range.2 hi)
  rw [momB, Bool.and_eq_true, getD_get hi] at this
  exact this.1
end Go.Proofs.Ytbjhphjpdeblnaa

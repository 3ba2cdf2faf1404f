/- Walks of the reference's words on wishes: who goes where. No condition. -/
import Derived.Test.YtgnkhcnpjediaaaDoorR13
namespace Go.Proofs.YtgnkhcnpjediaaaDoor
open Go Go.Sy
set_option maxRecDepth 100000
set_option linter.unusedSimpArgs false
set_option linter.unusedVariables false

theorem rtakes_ok (w : Wi) (s : Nat) (hw : inW w) (hm : okM w.m = true) (hs : s < 256) : Con Tryd.prog gl0 (fnv 32) [.agg (eW w), S s] 0 [] (Ret (I ((takesW w s).getD (-1)))) := by
  refine Con.of Tryd.ok32 (nt := 27) (res := [.tmp 4]) Tryd.mixed Tryd.func32 rfl rfl rfl rfl fun κ xc hκ => hκ.run 300 ?_
  simp (disch := omega) only [allQuiet, quietOp, drawS, exec_succ, runR_next, runR_stop, stepS, runOp, toSR, sop, rOf, rNew, sBox, isArr, ev, Env.get, cellsS, envOf, OutOK_stop, Option.isNone_none, Bool.and_true, Bool.and_false, Bool.false_eq_true, List.size_toArray, List.length_cons, List.length_nil, List.range, List.range.loop, List.getElem?_toArray, List.getElem?_cons_succ, List.getElem?_cons_zero, ↓reduceIte, Nat.reduceAdd, Nat.reduceLT, Nat.zero_add, Int.reduceNeg, gl0, eW]
  refine hκ.draw (.q 0 (.q 1 (.q 2 (.q 4 (.q 5 (.l 3 [5] (.l 6 [1] (.fin)))))))) [0, 1, 2, 4, 5] (by kernel_rfl) (by kernel_rfl) rfl ?_
  simp (disch := omega) only [sop, rOf, sLoadIn, sLoad, sFieldAddr, ev, evs, Env.get, Heap.get, takeN, cut, aggOf, setO, drawP_q, drawP_l, dq, dqn, dl, guardP, R1Q, dstOK, loudP, List.getElem?_toArray, List.getElem?_cons_succ, List.getElem?_cons_zero, ↓reduceIte, Nat.reduceLT, Nat.reduceEqDiff, Nat.zero_add, Nat.add_one_ne_zero, Int.reduceNeg, true_and, reduceCtorEq, gl0, Tryd.sz3, Tryd.ag3, Tryd.sz34, Tryd.ag34, Tryd.fd36f1, Tryd.fd36f2]
  refine DCall.of (Does.ret hκ.hP hκ.hgl (rallows_ok w.m s hm hs) ⟨trivial, by simp [SV.bnd, SV.bndL], by first | (simp [SV.bnd, SV.bndL]; done) | assumption⟩ ?_)
  simp (disch := omega) only [sop, rOf, sLoadIn, sLoad, ev, evs, Env.get, Heap.get, takeN, cut, aggOf, setO, drawP_l, dnext, dl, slotR, ag, guardP, dstOK, loudP, again, again1, slotIs, R1OK, List.getElem?_toArray, List.getElem?_cons_succ, List.getElem?_cons_zero, ↓reduceIte, Nat.reduceLT, Nat.reduceEqDiff, Int.reduceNeg, true_and, and_self, Tryd.sz3, Tryd.ag3]
  refine DCall.of (Does.ret hκ.hP hκ.hgl (rhas_ok (alw w.m s) w.a) ⟨trivial, by simp [SV.bnd, SV.bndL], by first | (simp [SV.bnd, SV.bndL]; done) | assumption⟩ ?_)
  cases hb : hasB (alw w.m s) w.a
  · simp (disch := omega) only [sop, rOf, sLoadIn, sLoad, ev, Env.get, Heap.get, takeN, cut, aggOf, setO, drawP_fin, dnext, slotR, ag, guardP, again, again1, slotIs, R1OK, List.getElem?_toArray, List.getElem?_cons_succ, List.getElem?_cons_zero, ↓reduceIte, Nat.reduceEqDiff, Int.reduceNeg, true_and, and_self, Tryd.sz34, Tryd.ag34]
    refine hκ.run 300 ?_
    simp (disch := omega) only [exec_succ, runR_next, runR_fork_false, runR_call, stepS, runOp, condS, toSR, sop, rOf, sLoadIn, sLoad, sFieldAddr, ev, evs, Env.get, Heap.get, takeN, cut, aggOf, OutOK_call, List.size_toArray, List.length_cons, List.length_nil, List.range, List.range.loop, List.getElem?_toArray, List.getElem?_cons_succ, List.getElem?_cons_zero, ↓reduceIte, Nat.reduceAdd, Nat.reduceLT, Nat.reduceEqDiff, Nat.zero_add, Nat.add_one_ne_zero, Int.reduceNeg, reduceCtorEq, gl0, Tryd.sz34, Tryd.ag34, Tryd.fd36f2]
    refine Does.ret hκ.hP hκ.hgl (rlikes_ok w.m s hm hs) ⟨trivial, by simp [SV.bnd, SV.bndL], by first | (simp [SV.bnd, SV.bndL]; done) | assumption⟩ ?_
    refine hκ.run 300 ?_
    simp (disch := omega) only [exec_succ, runR_call, stepS, runOp, ev, evs, Env.get, setO, OutOK_call, List.getElem?_toArray, List.getElem?_cons_succ, List.getElem?_cons_zero, ↓reduceIte, Nat.reduceLT, Int.reduceNeg, gl0]
    refine Does.ret hκ.hP hκ.hgl (rnext_ok (lik w.m s) (-1)) ⟨trivial, by simp [SV.bnd, SV.bndL], by first | (simp [SV.bnd, SV.bndL]; done) | assumption⟩ ?_
    have e : takesW w s = nextB (lik w.m s) (-1) := by simp only [takesW, bestB, hb, Bool.false_eq_true, if_false]
    rw [e] at hκ
    cases hn : nextB (lik w.m s) (-1) with
    | none =>
      rw [hn] at hκ
      simp only [Option.isSome_none, Option.getD_none]
      refine hκ.run 300 ?_
      simp (disch := omega) only [exec_succ, runR_next, runR_fork_true, runR_stop, stepS, runOp, condS, toSR, sop, rOf, sUn, sExtract, ev, Env.get, setO, OutOK_stop, List.size_toArray, List.length_cons, List.length_nil, List.range, List.range.loop, List.getElem?_toArray, List.getElem?_cons_succ, List.getElem?_cons_zero, ↓reduceIte, Nat.reduceAdd, Nat.reduceLT, Nat.reduceEqDiff, Nat.zero_add, Int.reduceNeg, Bool.not_false, gl0]
      refine hκ.ret _ _ _ _ _ _ trivial rfl ?_
      exact .ret trivial
    | some c =>
      rw [hn] at hκ
      simp only [Option.isSome_some, Option.getD_some]
      refine hκ.run 300 ?_
      simp (disch := omega) only [exec_succ, runR_next, runR_fork_false, runR_stop, stepS, runOp, condS, toSR, sop, rOf, sUn, sExtract, ev, Env.get, setO, OutOK_stop, List.size_toArray, List.length_cons, List.length_nil, List.range, List.range.loop, List.getElem?_toArray, List.getElem?_cons_succ, List.getElem?_cons_zero, ↓reduceIte, Nat.reduceAdd, Nat.reduceLT, Nat.reduceEqDiff, Nat.zero_add, Int.reduceNeg, Bool.not_true, gl0]
      refine hκ.ret _ _ _ _ _ _ trivial rfl ?_
      exact .ret trivial
  · simp (disch := omega) only [sop, rOf, sLoadIn, sLoad, ev, Env.get, Heap.get, takeN, cut, aggOf, setO, drawP_fin, dnext, slotR, ag, guardP, again, again1, slotIs, R1OK, List.getElem?_toArray, List.getElem?_cons_succ, List.getElem?_cons_zero, ↓reduceIte, Nat.reduceEqDiff, Int.reduceNeg, true_and, and_self, Tryd.sz34, Tryd.ag34]
    refine hκ.run 300 ?_
    simp (disch := omega) only [exec_succ, runR_next, runR_fork_true, runR_stop, stepS, runOp, condS, toSR, sop, rOf, sLoadIn, sLoad, sFieldAddr, ev, Env.get, Heap.get, takeN, cut, aggOf, OutOK_stop, List.size_toArray, List.length_cons, List.length_nil, List.range, List.range.loop, List.getElem?_toArray, List.getElem?_cons_succ, List.getElem?_cons_zero, ↓reduceIte, Nat.reduceAdd, Nat.reduceLT, Nat.reduceEqDiff, Nat.zero_add, Nat.add_one_ne_zero, Int.reduceNeg, gl0, Tryd.sz3, Tryd.ag3, Tryd.fd36f1]
    refine hκ.ret _ _ _ _ _ _ trivial rfl ?_
    simp only [takesW, bestB, hb, if_true]
    exact .ret trivial
/-- The sum of the bits of those but one. -/
def sumB (c : Int) (l : List Int) : Nat := l.foldl (fun n d => if d ≠ c then n + 2 ^ d.toNat else n) 0
theorem sumB_snoc (c : Int) (l : List Int) (d : Int) : sumB c (l ++ [d]) = if d ≠ c then sumB c l + 2 ^ d.toNat else sumB c l := by simp [sumB, List.foldl_append]
theorem sumB_dif : ∀ s, s < 256 → ∀ c : Nat, c < 8 → sumB c (bits s) = dif s (2 ^ c) := by decide +kernel
theorem sumB_le (c : Int) (l : List Int) (h : ∀ d ∈ l, 0 ≤ d ∧ d < 8) : sumB c l ≤ 256 * l.length := by
  rcases List.eq_nil_or_concat l with rfl | ⟨l', d, rfl⟩
  · simp [sumB]
  · rw [List.concat_eq_append] at h ⊢
    have hd := h d (by simp)
    have ih := sumB_le c l' (fun x hx => h x (by simp [hx]))
    have hp := pow_lt_256 (c := d.toNat) (by omega)
    rw [sumB_snoc, List.length_append, List.length_singleton]
    split <;> omega
termination_by l.length
decreasing_by subst_vars; simp
theorem without_ok (s : Nat) (c : Int) (hs : s < 256) (hc : 0 ≤ c ∧ c < 8) : Con Tryd.prog gl0 (fnv 33) [S s, I c] 0 [] (Ret (S (dif s (2 ^ c.toNat)))) := by
  have hlen := bits_len s
  refine Con.of Tryd.ok33 (nt := 38) (res := [.tmp 4]) Tryd.mixed Tryd.func33 rfl rfl rfl rfl fun κ xc hκ => hκ.run 300 ?_
  simp (disch := omega) only [exec_succ, runR_next, runR_call, stepS, runOp, toSR, sop, rOf, ev, evs, Env.get, envOf, OutOK_call, List.size_toArray, List.length_cons, List.length_nil, List.range, List.range.loop, List.getElem?_toArray, List.getElem?_cons_succ, List.getElem?_cons_zero, ↓reduceIte, Nat.reduceAdd, Nat.reduceLT, Nat.zero_add, Nat.add_one_ne_zero, gl0]
  refine Does.ret hκ.hP hκ.hgl ((rlist_ok s).toRd) ⟨trivial, by simp [SV.bnd, SV.bndL], by first | (simp [SV.bnd, SV.bndL]; done) | assumption⟩ ?_
  refine hκ.run 300 ?_
  simp (disch := omega) only [exec_succ, runR_next, runR_stop, stepS, runOp, toSR, sop, rOf, ev, Env.get, setO, OutOK_stop, List.size_toArray, List.length_cons, List.length_nil, List.range, List.range.loop, List.getElem?_toArray, List.getElem?_cons_succ, List.getElem?_cons_zero, ↓reduceIte, Nat.reduceLT, Nat.zero_add, gl0]
  refine Sat.less (Sat.loop (γ := Nat) (fun k => ([(7, I k), (6, Is (bits s)), (5, S (sumB c ((bits s).take k))), (1, I c)], [], 0)) (fun k => (bits s).length - k) (fun k => k ≤ (bits s).length) ?round 0 (Nat.zero_le _)) (by repeat' (first | exact EnvSub.nil _ | exact HeapSub.nil _ | refine EnvSub.cons rfl ?_ | refine HeapSub.cons rfl ?_ | (refine EnvSub.cons (by simp [Env.get]; done) ?_) | (refine HeapSub.cons (by simp [Heap.get]; done) ?_))) (by repeat' (first | exact EnvSub.nil _ | exact HeapSub.nil _ | refine EnvSub.cons rfl ?_ | refine HeapSub.cons rfl ?_ | (refine EnvSub.cons (by simp [Env.get]; done) ?_) | (refine HeapSub.cons (by simp [Heap.get]; done) ?_)))
  case round =>
    intro k hk ih
    dsimp only at ih ⊢
    refine hκ.run 300 ?_
    simp (disch := omega) only [sBuiltin, exec_succ, runR_next, stepS, runOp, condS, toSR, sop, rOf, sInt, sBin, sLen, ev, Env.get, List.size_toArray, List.length_cons, List.length_nil, List.length_map, List.range, List.range.loop, List.getElem?_toArray, List.getElem?_cons_succ, List.getElem?_cons_zero, ↓reduceIte, Nat.reduceAdd, Nat.reduceLT, Nat.reduceEqDiff, Nat.zero_add, gl0, Tryd.underlying39]
    refine OutOK_fork (fun h => ?_) (fun h => ?_) <;> try simp only [Bool.not_true, Bool.not_false, decide_eq_true_eq, decide_eq_false_iff_not, Bool.not_eq_true', Bool.not_eq_false', Bool.and_eq_true, Bool.or_eq_false_iff, Bool.or_eq_true, Bool.and_eq_false_iff] at h
    · simp (disch := omega) only [exec_succ, runR_next, runR_need, stepS, runOp, condS, toSR, sop, rOf, sLoad, sInt, sBin, sIndexAddr, elemT, obind, ev, Env.get, takeN, cut, aggOf, OutOK_need, List.size_toArray, List.length_cons, List.length_nil, List.length_map, List.range, List.range.loop, List.getElem?_toArray, List.getElem?_cons_succ, List.getElem?_cons_zero, ↓reduceIte, Nat.reduceAdd, Nat.reduceLT, Nat.reduceEqDiff, Nat.zero_add, Int.toNat_natCast, getD_map, eI, Tryd.sz3, Tryd.ag3, Tryd.underlying39]
      (repeat (refine ⟨by first | omega | (refine ⟨?_, ?_⟩ <;> omega) | trivial | (simp; done) | decide +kernel, fun _ => ?_⟩))
      have ht : (bits s).take (k + 1) = (bits s).take k ++ [(bits s).getD k default] := by
        rw [List.take_succ_eq_append_getElem (by omega), List.getD, List.getElem?_eq_getElem (by omega)]; rfl
      have hd : 0 ≤ (bits s).getD k default ∧ (bits s).getD k default < 8 := by
        rw [List.getD, List.getElem?_eq_getElem (by omega)]; exact bits_bd (List.getElem_mem _)
      have hsum := sumB_le c ((bits s).take k) (fun d hd => bits_bd (List.mem_of_mem_take hd))
      have hl2 : ((bits s).take k).length ≤ 8 := by simp; omega
      have hz := ih (k + 1) (by omega) (by omega)
      rw [ht, sumB_snoc] at hz
      generalize sumB c ((bits s).take k) = n at hsum hz ⊢
      obtain ⟨d, hdd⟩ := Int.eq_ofNat_of_zero_le hd.1
      rw [hdd] at hd hz ⊢
      have hp := pow_lt_256 (c := d) (by omega)
      refine OutOK_fork (fun h => ?_) (fun h => ?_) <;> try simp only [Bool.not_true, Bool.not_false, decide_eq_true_eq, decide_eq_false_iff_not, Bool.not_eq_true', Bool.not_eq_false', Bool.and_eq_true, Bool.or_eq_false_iff, Bool.or_eq_true, Bool.and_eq_false_iff] at h
      · simp (disch := omega) only [exec_succ, runR_next, runR_stop, stepS, runOp, toSR, sop, rOf, ev, OutOK_stop, List.size_toArray, List.length_cons, List.length_nil, List.range, List.range.loop, List.getElem?_toArray, List.getElem?_cons_zero, ↓reduceIte, Nat.reduceLT, Nat.zero_add]
        refine Sat.less (Sat.loop (γ := Nat) (fun j => ([(9, I j), (8, S (2 ^ j)), (7, I k), (6, Is (bits s)), (5, S n), (1, I c)], [], 0)) (fun j => d - j) (fun j => j ≤ d) ?round2 0 (Nat.zero_le _)) (by repeat' (first | exact EnvSub.nil _ | exact HeapSub.nil _ | refine EnvSub.cons rfl ?_ | refine HeapSub.cons rfl ?_ | (refine EnvSub.cons (by simp [Env.get]; done) ?_) | (refine HeapSub.cons (by simp [Heap.get]; done) ?_))) (by repeat' (first | exact EnvSub.nil _ | exact HeapSub.nil _ | refine EnvSub.cons rfl ?_ | refine HeapSub.cons rfl ?_ | (refine EnvSub.cons (by simp [Env.get]; done) ?_) | (refine HeapSub.cons (by simp [Heap.get]; done) ?_)))
        case round2 =>
          intro j hj ih2
          dsimp only at ih2 ⊢
          have hp2 := pow_lt_256 (c := j) (by omega)
          have hz2 := ih2 (j + 1)
          rw [Nat.pow_succ] at hz2
          generalize hpj : 2 ^ j = p at hp2 hz2 ⊢
          have hne : ¬ (d : Int) = c := h
          refine hκ.run 300 ?_
          simp (disch := omega) only [exec_succ, runR_next, runR_need, stepS, runOp, condS, toSR, sop, rOf, sLoad, sInt, sBin, sIndexAddr, elemT, obind, ev, Env.get, takeN, cut, aggOf, OutOK_need, List.size_toArray, List.length_cons, List.length_nil, List.length_map, List.range, List.range.loop, List.getElem?_toArray, List.getElem?_cons_succ, List.getElem?_cons_zero, ↓reduceIte, Nat.reduceAdd, Nat.reduceLT, Nat.reduceEqDiff, Nat.zero_add, Int.toNat_natCast, getD_map, eI, gl0, Tryd.sz3, Tryd.ag3, Tryd.underlying39]
          (repeat (refine ⟨by first | omega | (refine ⟨?_, ?_⟩ <;> omega) | trivial | (simp; done) | decide +kernel, fun _ => ?_⟩))
          rw [hdd]
          refine OutOK_fork (fun h => ?_) (fun h => ?_) <;> try simp only [Bool.not_true, Bool.not_false, decide_eq_true_eq, decide_eq_false_iff_not, Bool.not_eq_true', Bool.not_eq_false', Bool.and_eq_true, Bool.or_eq_false_iff, Bool.or_eq_true, Bool.and_eq_false_iff] at h
          · have hp3 : p * 2 < 256 := by
              have := pow_lt_256 (c := j + 1) (by omega)
              rw [Nat.pow_succ, hpj] at this; exact this
            simp (disch := omega) only [exec_succ, runR_next, runR_stop, stepS, runOp, toSR, sop, rOf, sInt, sBin, ev, Env.get, OutOK_stop, List.size_toArray, List.length_cons, List.length_nil, List.range, List.range.loop, List.getElem?_toArray, List.getElem?_cons_succ, List.getElem?_cons_zero, ↓reduceIte, Nat.reduceAdd, Nat.reduceLT, Nat.reduceEqDiff, Nat.zero_add, wrap_i64, wrap_u32]
            exact (hz2 (by omega) (by omega)).less (by repeat' (first | exact EnvSub.nil _ | exact HeapSub.nil _ | refine EnvSub.cons rfl ?_ | refine HeapSub.cons rfl ?_ | (refine EnvSub.cons (by simp [Env.get]; done) ?_) | (refine HeapSub.cons (by simp [Heap.get]; done) ?_))) (by repeat' (first | exact EnvSub.nil _ | exact HeapSub.nil _ | refine EnvSub.cons rfl ?_ | refine HeapSub.cons rfl ?_ | (refine EnvSub.cons (by simp [Env.get]; done) ?_) | (refine HeapSub.cons (by simp [Heap.get]; done) ?_)))
          · obtain rfl : j = d := by omega
            rw [if_pos hne, Int.toNat_natCast, hpj] at hz
            simp (disch := omega) only [exec_succ, runR_next, runR_stop, stepS, runOp, goS, toSR, sop, rOf, sInt, sBin, ev, Env.get, exitTo, OutOK_stop, List.size_toArray, List.length_cons, List.length_nil, List.range, List.range.loop, List.getElem?_toArray, List.getElem?_cons_succ, List.getElem?_cons_zero, ↓reduceIte, Nat.reduceAdd, Nat.reduceLT, Nat.reduceEqDiff, Nat.zero_add, beq_self_eq_true, wrap_i64, wrap_u32]
            exact hz.less (by repeat' (first | exact EnvSub.nil _ | exact HeapSub.nil _ | refine EnvSub.cons rfl ?_ | refine HeapSub.cons rfl ?_ | (refine EnvSub.cons (by simp [Env.get]; done) ?_) | (refine HeapSub.cons (by simp [Heap.get]; done) ?_))) (by repeat' (first | exact EnvSub.nil _ | exact HeapSub.nil _ | refine EnvSub.cons rfl ?_ | refine HeapSub.cons rfl ?_ | (refine EnvSub.cons (by simp [Env.get]; done) ?_) | (refine HeapSub.cons (by simp [Heap.get]; done) ?_)))
      · simp (disch := omega) only [exec_succ, runR_next, runR_stop, stepS, runOp, toSR, sop, rOf, sInt, sBin, ev, Env.get, OutOK_stop, List.size_toArray, List.length_cons, List.length_nil, List.range, List.range.loop, List.getElem?_toArray, List.getElem?_cons_succ, List.getElem?_cons_zero, ↓reduceIte, Nat.reduceAdd, Nat.reduceLT, Nat.reduceEqDiff, Nat.zero_add, wrap_i64]
        rw [if_neg (by simpa using h)] at hz
        exact hz.less (by repeat' (first | exact EnvSub.nil _ | exact HeapSub.nil _ | refine EnvSub.cons rfl ?_ | refine HeapSub.cons rfl ?_ | (refine EnvSub.cons (by simp [Env.get]; done) ?_) | (refine HeapSub.cons (by simp [Heap.get]; done) ?_))) (by repeat' (first | exact EnvSub.nil _ | exact HeapSub.nil _ | refine EnvSub.cons rfl ?_ | refine HeapSub.cons rfl ?_ | (refine EnvSub.cons (by simp [Env.get]; done) ?_) | (refine HeapSub.cons (by simp [Heap.get]; done) ?_)))
    · simp (disch := omega) only [exec_succ, runR_next, runR_stop, stepS, runOp, goS, toSR, sop, rOf, ev, Env.get, exitTo, OutOK_stop, List.size_toArray, List.length_cons, List.length_nil, List.range, List.range.loop, List.getElem?_toArray, List.getElem?_cons_succ, List.getElem?_cons_zero, ↓reduceIte, Nat.reduceAdd, Nat.reduceLT, Nat.reduceEqDiff, Nat.zero_add, beq_self_eq_true]
      obtain rfl : k = (bits s).length := by omega
      refine hκ.ret _ _ _ _ _ _ trivial rfl ?_
      rw [List.take_length]
      obtain ⟨c, rfl⟩ := Int.eq_ofNat_of_zero_le hc.1
      rw [sumB_dif s hs c (by omega), Int.toNat_natCast]
      exact .ret trivial
end Go.Proofs.YtgnkhcnpjediaaaDoor

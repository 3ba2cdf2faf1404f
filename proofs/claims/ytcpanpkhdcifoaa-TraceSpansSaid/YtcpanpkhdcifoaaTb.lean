/- Traces: pictures that may be. No condition. -/
import Derived.Test.YtcpanpkhdcifoaaTa
namespace Go.Proofs.Ytcpanpkhdcifoaa
open Go Go.Sy
set_option maxRecDepth 100000
set_option linter.unusedSimpArgs false
set_option linter.unusedVariables false

theorem samePuts_ok (us bs : List Pt) (hn : us.length < 2 ^ 62) : Con Try.prog gl0 (fnv 25) [Ps us, Ps bs] 0 [] (Ret (Bo (decide (us = bs)))) := by
  refine Con.of Try.ok25 (nt := 26) (res := [.tmp 4]) Try.mixed Try.func25 rfl rfl rfl rfl fun κ xc hκ => hκ.run 300 ?_
  simp (disch := omega) only [sBuiltin, exec_succ, runR_next, stepS, runOp, condS, toSR, sop, rOf, sInt, sBin, sLen, ev, Env.get, envOf, List.size_toArray, List.length_cons, List.length_nil, List.length_map, List.range, List.range.loop, List.getElem?_toArray, List.getElem?_cons_succ, List.getElem?_cons_zero, ↓reduceIte, Nat.reduceAdd, Nat.reduceLT, Nat.reduceEqDiff, Nat.zero_add, Nat.add_one_ne_zero, reduceCtorEq, gl0, Try.underlying25]
  refine OutOK_fork (fun h => ?_) (fun h => ?_) <;> try simp only [Bool.not_true, Bool.not_false, decide_eq_true_eq, decide_eq_false_iff_not, Bool.not_eq_true', Bool.not_eq_false', Bool.and_eq_true, Bool.or_eq_false_iff, Bool.or_eq_true, Bool.and_eq_false_iff] at h
  · simp (disch := omega) only [exec_succ, runR_next, runR_stop, stepS, runOp, toSR, sop, rOf, ev, OutOK_stop, List.size_toArray, List.length_cons, List.length_nil, List.range, List.range.loop, List.getElem?_toArray, List.getElem?_cons_zero, ↓reduceIte, Nat.reduceLT, Nat.zero_add]
    refine hκ.ret _ _ _ _ _ _ trivial rfl ?_
    have : ¬ us = bs := by rintro rfl; exact h rfl
    simp only [this, decide_false]
    exact .ret trivial
  · simp (disch := omega) only [exec_succ, runR_next, runR_stop, stepS, runOp, toSR, sop, rOf, ev, OutOK_stop, List.size_toArray, List.length_cons, List.length_nil, List.range, List.range.loop, List.getElem?_toArray, List.getElem?_cons_zero, ↓reduceIte, Nat.reduceLT, Nat.zero_add]
    have hlen : us.length = bs.length := by omega
    refine Sat.less (Sat.loop (γ := Nat) (fun k => ([(5, I k), (0, Ps us), (1, Ps bs)], [], 0)) (fun k => us.length - k)
      (fun k => k ≤ us.length ∧ us.take k = bs.take k) ?round 0 ⟨by omega, by simp⟩) (by repeat' (first | exact EnvSub.nil _ | exact HeapSub.nil _ | refine EnvSub.cons rfl ?_ | refine HeapSub.cons rfl ?_ | (refine EnvSub.cons (by simp [Env.get]; done) ?_) | (refine HeapSub.cons (by simp [Heap.get]; done) ?_))) (by repeat' (first | exact EnvSub.nil _ | exact HeapSub.nil _ | refine EnvSub.cons rfl ?_ | refine HeapSub.cons rfl ?_ | (refine EnvSub.cons (by simp [Env.get]; done) ?_) | (refine HeapSub.cons (by simp [Heap.get]; done) ?_)))
    case round =>
      rintro k ⟨hk, hl⟩ ih
      refine hκ.run 300 ?_
      simp (disch := omega) only [sBuiltin, exec_succ, runR_next, stepS, runOp, condS, toSR, sop, rOf, sInt, sBin, sLen, ev, Env.get, List.size_toArray, List.length_cons, List.length_nil, List.length_map, List.range, List.range.loop, List.getElem?_toArray, List.getElem?_cons_succ, List.getElem?_cons_zero, ↓reduceIte, Nat.reduceAdd, Nat.reduceLT, Nat.reduceEqDiff, Nat.zero_add, Nat.add_one_ne_zero, gl0, Try.underlying25]
      refine OutOK_fork (fun h => ?_) (fun h => ?_) <;> try simp only [Bool.not_true, Bool.not_false, decide_eq_true_eq, decide_eq_false_iff_not, Bool.not_eq_true', Bool.not_eq_false', Bool.and_eq_true, Bool.or_eq_false_iff, Bool.or_eq_true, Bool.and_eq_false_iff] at h
      · simp (disch := omega) only [allQuiet, quietOp, drawS, drawGo, drawN, drawFin, exec_succ, runR_next, runR_need, stepS, condS, sop, rOf, sLoadIn, sLoad, sInt, sEq, sEqR, sEqAgg, aggS, eqCells, sBin, sIndexAddr, elemT, obind, ev, svs, Env.get, Heap.get, takeN, cut, aggOf, OutOK_need, Option.isNone_none, Bool.and_true, List.length_map, Option.map_some, ↓reduceIte, Nat.reduceLT, Nat.reduceEqDiff, Nat.add_one_ne_zero, Int.toNat_natCast, reduceCtorEq, getD_map, Try.underlying25, Try.underlying51, Try.sz51, Try.ag51, Try.eq51, eP]
        (repeat (refine ⟨by first | omega | (refine ⟨?_, ?_⟩ <;> omega) | trivial | (simp; done) | decide +kernel, fun _ => ?_⟩))
        have hee : (decide ((us.getD k default).1 = (bs.getD k default).1) && (decide ((us.getD k default).2 = (bs.getD k default).2) && true)) = decide (us.getD k default = bs.getD k default) := by
          rw [Bool.and_true, ← Bool.decide_and]; exact decide_eq_decide.2 (Prod.ext_iff.symm)
        by_cases e : us.getD k default = bs.getD k default
        · rw [e]
          simp (disch := omega) only [exec_succ, runR_next, runR_fork_false, runR_stop, stepS, runOp, toSR, sop, rOf, sInt, sBin, ev, Env.get, OutOK_stop, Bool.and_true, List.size_toArray, List.length_cons, List.length_nil, List.range, List.range.loop, List.getElem?_toArray, List.getElem?_cons_succ, List.getElem?_cons_zero, ↓reduceIte, Nat.reduceAdd, Nat.reduceLT, Nat.reduceEqDiff, Nat.zero_add, Bool.not_true, decide_true, wrap_i64]
          exact (ih (k + 1) ⟨by omega, by rw [take_getD (by omega), take_getD (by omega), hl, e]⟩ (by omega)).less (by repeat' (first | exact EnvSub.nil _ | exact HeapSub.nil _ | refine EnvSub.cons rfl ?_ | refine HeapSub.cons rfl ?_ | (refine EnvSub.cons (by simp [Env.get]; done) ?_) | (refine HeapSub.cons (by simp [Heap.get]; done) ?_))) (by repeat' (first | exact EnvSub.nil _ | exact HeapSub.nil _ | refine EnvSub.cons rfl ?_ | refine HeapSub.cons rfl ?_ | (refine EnvSub.cons (by simp [Env.get]; done) ?_) | (refine HeapSub.cons (by simp [Heap.get]; done) ?_)))
        · rw [Bool.and_true] at hee
          rw [hee, decide_eq_false e]
          simp (disch := omega) only [exec_succ, runR_next, runR_fork_true, runR_stop, stepS, runOp, toSR, sop, rOf, ev, OutOK_stop, List.size_toArray, List.length_cons, List.length_nil, List.range, List.range.loop, List.getElem?_toArray, List.getElem?_cons_zero, ↓reduceIte, Nat.reduceLT, Nat.zero_add, Bool.not_false]
          refine hκ.ret _ _ _ _ _ _ trivial rfl ?_
          have : ¬ us = bs := by rintro rfl; exact e rfl
          simp only [this, decide_false]
          exact .ret trivial
      · simp (disch := omega) only [exec_succ, runR_next, runR_stop, stepS, runOp, goS, toSR, sop, rOf, ev, exitTo, OutOK_stop, List.size_toArray, List.length_cons, List.length_nil, List.range, List.range.loop, List.getElem?_toArray, List.getElem?_cons_zero, ↓reduceIte, Nat.reduceLT, Nat.zero_add, beq_self_eq_true]
        obtain rfl : k = us.length := by omega
        refine hκ.ret _ _ _ _ _ _ trivial rfl ?_
        have : us = bs := by
          rw [List.take_length] at hl
          rw [hl, List.take_of_length_le (by omega)]
        simp only [this, decide_true]
        exact .ret trivial
theorem alike_ok (us bs : List Pt) (hn : us.length < 2 ^ 62) : Con Try.prog gl0 (fnv 36) [Ps us, Ps bs] 0 [] (Ret (Bo (decide (us = bs)))) := by
  refine Con.of Try.ok36 (nt := 8) (res := [.tmp 4]) Try.mixed Try.func36 rfl rfl rfl rfl fun κ xc hκ => hκ.run 300 ?_
  simp (disch := omega) only [exec_succ, runR_next, runR_call, stepS, runOp, toSR, sop, rOf, ev, evs, Env.get, envOf, OutOK_call, List.size_toArray, List.length_cons, List.length_nil, List.range, List.range.loop, List.getElem?_toArray, List.getElem?_cons_succ, List.getElem?_cons_zero, ↓reduceIte, Nat.reduceAdd, Nat.reduceLT, Nat.reduceEqDiff, Nat.zero_add, Nat.add_one_ne_zero, reduceCtorEq, gl0]
  refine Does.ret hκ.hP hκ.hgl (pequal_ok us bs hn) ⟨trivial, by simp [SV.bnd, SV.bndL], by first | (simp [SV.bnd, SV.bndL]; done) | assumption⟩ ?_
  refine hκ.run 300 ?_
  simp (disch := omega) only [exec_succ, runR_next, runR_stop, stepS, runOp, toSR, sop, rOf, ev, Env.get, setO, OutOK_stop, List.getElem?_toArray, List.getElem?_cons_succ, List.getElem?_cons_zero, ↓reduceIte, Nat.reduceLT, gl0]
  refine hκ.ret _ _ _ _ _ _ trivial rfl ?_
  exact .ret trivial

/-- May the placement at a place stand there? -/
def picB (l : List Pt) (k : Nat) : Bool :=
  decide (1 ≤ (l.getD k default).1) && decide ((l.getD k default).1 ≤ 16) && decide (0 ≤ (l.getD k default).2) && decide ((l.getD k default).2 ≤ 7) && !(l.take k).any (fun p => decide (p.1 = (l.getD k default).1)) && (decide (k = 0) || decide ((l.getD (k - 1) default).2 < (l.getD k default).2))
def okPic (l : List Pt) : Bool := (List.range l.length).all (picB l)
theorem okPic_no {l : List Pt} {k : Nat} (hk : k < l.length) (h : picB l k = false) : okPic l = false := by
  rw [okPic, List.all_eq_false]
  exact ⟨k, List.mem_range.2 hk, by simp [h]⟩
theorem okPic_yes {l : List Pt} (h : ∀ k, k < l.length → picB l k = true) : okPic l = true := by
  rw [okPic, List.all_eq_true]
  exact fun k hk => h k (List.mem_range.1 hk)
/-- Who was met. -/
def metM (l : List Pt) (ns : List Int) : Option SV := if l.any (fun p => decide (ns = [p.1])) then some (Bo true) else none
theorem metM_snoc (l : List Pt) (p : Pt) : metM (l ++ [p]) = fun ns => if ns = [p.1] then some (Bo true) else metM l ns := by
  funext ns
  rw [metM, metM, List.any_append]
  by_cases h : ns = [p.1]
  · simp only [h, List.any_cons, List.any_nil, decide_true, Bool.or_false, Bool.or_true, if_true]
  · simp only [h, List.any_cons, List.any_nil, decide_false, Bool.or_false, if_false]
theorem metM_at (l : List Pt) (v : Int) : metM l [v] = if l.any (fun p => decide (p.1 = v)) then some (Bo true) else none := by
  simp only [metM, List.cons.injEq, and_true, eq_comm]
theorem picB_suc {l : List Pt} {k : Nat} (h1 : 1 ≤ (l.getD k default).1) (h2 : (l.getD k default).1 ≤ 16) (h3 : 0 ≤ (l.getD k default).2) (h4 : (l.getD k default).2 ≤ 7) (h5 : (l.take k).any (fun p => decide (p.1 = (l.getD k default).1)) = false) (h6 : k = 0 ∨ (l.getD (k - 1) default).2 < (l.getD k default).2) : picB l k = true := by
  simp only [picB, h1, h2, h3, h4, h5, decide_true, Bool.not_false, Bool.and_self, Bool.true_and]
  rcases h6 with h6 | h6
  · rw [decide_eq_true h6, Bool.true_or]
  · rw [decide_eq_true h6, Bool.or_true]
theorem picture_ok (l : List Pt) (hl : ∀ p ∈ l, inPt p) (hn : l.length < 2 ^ 46) : Con Try.prog gl0 (fnv 32) [Ps l] 0 [] (Ret (Bo (okPic l))) := by
  refine Con.of Try.ok32 (nt := 57) (res := [.tmp 2]) Try.mixed Try.func32 rfl rfl rfl rfl fun κ xc hκ => hκ.run 300 ?_
  simp (disch := omega) only [sBuiltin, sMakeMap, exec_succ, runR_next, runR_stop, stepS, runOp, toSR, sop, rOf, rNew, sLen, ev, Env.get, envOf, OutOK_stop, List.size_toArray, List.length_cons, List.length_nil, List.length_map, List.range, List.range.loop, List.getElem?_toArray, List.getElem?_cons_succ, List.getElem?_cons_zero, ↓reduceIte, Nat.reduceAdd, Nat.reduceLT, Nat.zero_add, Nat.add_one_ne_zero, gl0, Try.underlying25, Try.mp63]
  rw [show (fun _ : List Int => (none : Option SV)) = metM (l.take 0) from rfl]
  refine Sat.less (Sat.loop (γ := Nat) (fun k => ([(9, I k), (8, I l.length), (7, Ps l), (3, .mp 0), (0, Ps l)], [(0, .map false [.i64] (metM (l.take k)))], 1)) (fun k => l.length - k) (fun k => k ≤ l.length ∧ ∀ j, j < k → picB l j = true) ?round 0 ⟨Nat.zero_le _, fun j hj => by omega⟩) (by repeat' (first | exact EnvSub.nil _ | exact HeapSub.nil _ | refine EnvSub.cons rfl ?_ | refine HeapSub.cons rfl ?_ | (refine EnvSub.cons (by simp [Env.get]; done) ?_) | (refine HeapSub.cons (by simp [Heap.get]; done) ?_))) (by repeat' (first | exact EnvSub.nil _ | exact HeapSub.nil _ | refine EnvSub.cons rfl ?_ | refine HeapSub.cons rfl ?_ | (refine EnvSub.cons (by simp [Env.get]; done) ?_) | (refine HeapSub.cons (by simp [Heap.get]; done) ?_)))
  case round =>
    rintro k ⟨hk, hj⟩ ih
    dsimp only at hk hj ih ⊢
    refine hκ.run 9 ?_
    simp (disch := omega) only [exec_succ, runR_next, stepS, runOp, condS, toSR, sop, sInt, sBin, ev, Env.get, List.size_toArray, List.length_cons, List.length_nil, List.range, List.range.loop, List.getElem?_toArray, List.getElem?_cons_zero, ↓reduceIte, Nat.reduceLT, Nat.reduceEqDiff, Nat.zero_add, gl0]
    refine OutOK_fork (fun h => ?_) (fun h => ?_) <;> try simp only [Bool.not_true, Bool.not_false, decide_eq_true_eq, decide_eq_false_iff_not, Bool.not_eq_true', Bool.not_eq_false', Bool.and_eq_true, Bool.or_eq_false_iff, Bool.or_eq_true, Bool.and_eq_false_iff] at h
    · obtain ⟨⟨v1, v2⟩, ⟨a1, a2⟩⟩ := hl _ (getD_mem (show k < l.length by omega))
      have bad : picB l k = false → okPic l = false := okPic_no (by omega)
      have hz := fun h => ih (k + 1) ⟨by omega, h⟩ (by omega)
      rw [take_getD (by omega), metM_snoc] at hz
      have hy : picB l k = true → ∀ j, j < k + 1 → picB l j = true := fun h j hj2 => by
        by_cases e : j = k
        · rw [e]; exact h
        · exact hj j (by omega)
      have hmt := metM_at (l.take k) (l.getD k default).1
      have hkk : 0 < k → ((k : Int) - 1).toNat = k - 1 := by omega
      have hke : ((0 : Int) < k) = (0 < k) := by simp
      refine hκ.run 300 ?_
      simp (disch := omega) only [allQuiet, quietOp, drawS, exec_succ, runR_next, runR_need, runR_stop, stepS, runOp, toSR, sop, rOf, rNew, sAlloc, sAlloc0, sLoad, sStoreIn, sStore, sIndexAddr, elemT, obind, ev, svs, Env.get, Heap.get, Heap.set, takeN, cut, over, paste, aggOf, cellsS, one, ones, Value.oneCell', OutOK_need, OutOK_stop, Option.isNone_none, Option.isNone_some, undefS, undef, Bool.and_true, Bool.and_false, List.size_toArray, List.length_cons, List.length_nil, List.length_map, List.range, List.range.loop, List.getElem?_toArray, List.getElem?_cons_succ, List.getElem?_cons_zero, List.map_cons, List.map_nil, ↓reduceIte, Nat.reduceAdd, Nat.reduceLT, Nat.reduceEqDiff, Nat.zero_add, Int.toNat_natCast, true_and, and_self, forall_const, getD_map, gl0, Try.underlying25, Try.sz51, Try.ag51, Try.ze51, Try.ar51, eP]
      (repeat (refine ⟨by first | omega | (refine ⟨?_, ?_⟩ <;> omega) | trivial | (simp; done) | decide +kernel, fun _ => ?_⟩))
      generalize hp : l.getD k default = p at v1 v2 a1 a2 hz hmt ⊢
      have no : ∀ {b : Bool}, b = picB l k → b = false → okPic l = false := fun h e => bad (h ▸ e)
      by_cases e1 : p.1 < 1
      · refine hκ.draw (.q 0 (.q 1 (.q 2 (.q 3 (.q 4 (.q 5 (.q 6 (.q 7 (.q 8 (.q 9 (.q 10 (.q 11 (.q 12 (.q 13 (.q 14 (.q 15 (.q 16 (.q 17 (.q 18 (.q 19 (.q 20 (.q 21 (.q 22 (.q 23 (.q 24 (.q 25 (.q 26 (.q 27 (.q 28 (.q 29 (.q 30 (.q 31 (.q 32 (.q 33 (.q 34 (.q 35 (.q 36 (.q 37 (.q 38 (.fin)))))))))))))))))))))))))))))))))))))))) [0, 1, 2, 3, 4, 5, 6, 7, 8, 9, 10, 11, 12, 13, 14, 15, 16, 17, 18, 19, 20, 21, 22, 23, 24, 25, 26, 27, 28, 29, 30, 31, 32, 33, 34, 35, 36, 37, 38] (by kernel_rfl) (by kernel_rfl) rfl ?_
        simp (disch := omega) only [sop, rOf, sPick, sLoadIn, sLoad, sInt, sBin, sFieldAddr, ev, Env.get, Heap.get, takeN, cut, aggOf, setO, drawP_fin, drawP_q, dq, dqn, GF.tf, guardP, R1Q, dstOK, undefS, undef, List.getElem?_toArray, List.getElem?_cons_succ, List.getElem?_cons_zero, Option.bind_some, ↓reduceIte, Nat.reduceLT, Nat.reduceEqDiff, Nat.add_zero, Nat.add_one_ne_zero, decide_true, true_and, gl0, Try.sz3, Try.ag3, Try.fd51f0, e1]
        refine hκ.run 300 ?_
        simp (disch := omega) only [exec_succ, runR_next, runR_fork_true, runR_stop, stepS, runOp, condS, toSR, sop, rOf, ev, Env.get, OutOK_stop, List.size_toArray, List.length_cons, List.length_nil, List.range, List.range.loop, List.getElem?_toArray, List.getElem?_cons_zero, ↓reduceIte, Nat.reduceLT, Nat.zero_add, gl0]
        refine hκ.ret _ _ _ _ _ _ trivial rfl ?_
        rw [bad (by simp only [picB, hp]; rw [decide_eq_false (show ¬ 1 ≤ p.1 by omega)]; rfl)]
        exact .ret trivial
      by_cases e2 : 16 < p.1
      · refine hκ.draw (.q 0 (.q 1 (.q 2 (.q 3 (.q 4 (.q 5 (.q 6 (.q 7 (.q 8 (.q 9 (.q 10 (.q 11 (.q 12 (.q 13 (.q 14 (.q 15 (.q 16 (.q 17 (.q 18 (.q 19 (.q 20 (.q 21 (.q 22 (.q 23 (.q 24 (.q 25 (.q 26 (.q 27 (.q 28 (.q 29 (.q 30 (.q 31 (.q 32 (.q 33 (.q 34 (.q 35 (.q 36 (.q 37 (.q 38 (.fin)))))))))))))))))))))))))))))))))))))))) [0, 1, 2, 3, 4, 5, 6, 7, 8, 9, 10, 11, 12, 13, 14, 15, 16, 17, 18, 19, 20, 21, 22, 23, 24, 25, 26, 27, 28, 29, 30, 31, 32, 33, 34, 35, 36, 37, 38] (by kernel_rfl) (by kernel_rfl) rfl ?_
        simp (disch := omega) only [sop, rOf, sPick, sLoadIn, sLoad, sInt, sBin, sFieldAddr, ev, Env.get, Heap.get, takeN, cut, aggOf, setO, drawP_fin, drawP_q, dq, dqn, GF.ff, GF.tf, guardP, R1Q, dstOK, undefS, undef, List.getElem?_toArray, List.getElem?_cons_succ, List.getElem?_cons_zero, Option.bind_some, ↓reduceIte, Nat.reduceLT, Nat.reduceEqDiff, Nat.add_zero, Nat.add_one_ne_zero, decide_true, decide_false, true_and, gl0, Try.sz3, Try.ag3, Try.fd51f0, e1, e2]
        refine hκ.run 300 ?_
        simp (disch := omega) only [exec_succ, runR_next, runR_fork_true, runR_stop, stepS, runOp, condS, toSR, sop, rOf, ev, Env.get, OutOK_stop, List.size_toArray, List.length_cons, List.length_nil, List.range, List.range.loop, List.getElem?_toArray, List.getElem?_cons_zero, ↓reduceIte, Nat.reduceLT, Nat.zero_add, gl0]
        refine hκ.ret _ _ _ _ _ _ trivial rfl ?_
        rw [bad (by simp only [picB, hp]; rw [decide_eq_false (show ¬ p.1 ≤ 16 by omega), Bool.and_false]; rfl)]
        exact .ret trivial
      cases hm : (l.take k).any (fun q => decide (q.1 = p.1)) with
      | true =>
        rw [hm, if_pos rfl] at hmt
        refine hκ.draw (.q 0 (.q 1 (.q 2 (.q 3 (.q 4 (.q 5 (.q 6 (.q 7 (.q 8 (.q 9 (.q 10 (.q 11 (.q 12 (.q 13 (.q 14 (.q 15 (.q 16 (.q 17 (.q 18 (.q 19 (.q 20 (.q 21 (.q 22 (.q 23 (.q 24 (.q 25 (.q 26 (.q 27 (.q 28 (.q 29 (.q 30 (.q 31 (.q 32 (.q 33 (.q 34 (.q 35 (.q 36 (.q 37 (.q 38 (.fin)))))))))))))))))))))))))))))))))))))))) [0, 1, 2, 3, 4, 5, 6, 7, 8, 9, 10, 11, 12, 13, 14, 15, 16, 17, 18, 19, 20, 21, 22, 23, 24, 25, 26, 27, 28, 29, 30, 31, 32, 33, 34, 35, 36, 37, 38] (by kernel_rfl) (by kernel_rfl) rfl ?_
        simp (disch := omega) only [sLookup, sLookupIn, keyS, sop, rOf, sPick, sLoadIn, sLoad, sInt, sBin, sFieldAddr, ev, Env.get, Heap.get, takeN, cut, aggOf, setO, drawP_fin, drawP_q, dq, dqn, GF.ff, GF.tf, guardP, R1Q, dstOK, undefS, undef, Bool.false_eq_true, List.getElem?_toArray, List.getElem?_cons_succ, List.getElem?_cons_zero, Option.bind_some, Option.getD_some, ↓reduceIte, Nat.reduceLT, Nat.reduceEqDiff, Nat.add_zero, Nat.add_one_ne_zero, decide_false, true_and, and_self, gl0, Try.sz3, Try.ag3, Try.fd51f0, Try.mp63, e1, e2, hmt]
        refine hκ.run 300 ?_
        simp (disch := omega) only [exec_succ, runR_next, runR_fork_true, runR_stop, stepS, runOp, condS, toSR, sop, rOf, ev, Env.get, OutOK_stop, List.size_toArray, List.length_cons, List.length_nil, List.range, List.range.loop, List.getElem?_toArray, List.getElem?_cons_zero, ↓reduceIte, Nat.reduceLT, Nat.zero_add, gl0]
        refine hκ.ret _ _ _ _ _ _ trivial rfl ?_
        rw [bad (by simp only [picB, hp, hm, Bool.not_true, Bool.and_false, Bool.false_and])]
        exact .ret trivial
      | false =>
      rw [hm, if_neg (by simp)] at hmt
      have hmt2 := hmt
      by_cases e3 : p.2 < 0
      · refine hκ.draw (.q 0 (.q 1 (.q 2 (.q 3 (.q 4 (.q 5 (.q 6 (.q 7 (.q 8 (.q 9 (.q 10 (.q 11 (.q 12 (.q 13 (.q 14 (.q 15 (.q 16 (.q 17 (.q 18 (.q 19 (.q 20 (.q 21 (.q 22 (.q 23 (.q 24 (.q 25 (.q 26 (.q 27 (.q 28 (.q 29 (.q 30 (.q 31 (.q 32 (.q 33 (.q 34 (.q 35 (.q 36 (.q 37 (.q 38 (.fin)))))))))))))))))))))))))))))))))))))))) [0, 1, 2, 3, 4, 5, 6, 7, 8, 9, 10, 11, 12, 13, 14, 15, 16, 17, 18, 19, 20, 21, 22, 23, 24, 25, 26, 27, 28, 29, 30, 31, 32, 33, 34, 35, 36, 37, 38] (by kernel_rfl) (by kernel_rfl) rfl ?_
        simp (disch := omega) only [sLookup, sLookupIn, keyS, sop, rOf, sPick, sLoadIn, sLoad, sInt, sBin, sFieldAddr, ev, Env.get, Heap.get, takeN, cut, aggOf, setO, drawP_fin, drawP_q, dq, dqn, GF.ff, GF.tf, guardP, R1Q, dstOK, undefS, undef, Bool.false_eq_true, List.getElem?_toArray, List.getElem?_cons_succ, List.getElem?_cons_zero, Option.bind_some, Option.getD_none, ↓reduceIte, Nat.reduceLT, Nat.reduceEqDiff, Nat.zero_add, Nat.add_zero, Nat.add_one_ne_zero, decide_true, decide_false, true_and, and_self, gl0, Try.sz3, Try.ag3, Try.fd51f0, Try.fd51f1, Try.mp63, hmt, e1, e2, e3]
        refine hκ.run 300 ?_
        simp (disch := omega) only [exec_succ, runR_next, runR_fork_true, runR_stop, stepS, runOp, condS, toSR, sop, rOf, ev, Env.get, OutOK_stop, List.size_toArray, List.length_cons, List.length_nil, List.range, List.range.loop, List.getElem?_toArray, List.getElem?_cons_zero, ↓reduceIte, Nat.reduceLT, Nat.zero_add, gl0]
        refine hκ.ret _ _ _ _ _ _ trivial rfl ?_
        rw [bad (by simp only [picB, hp]; rw [decide_eq_false (show ¬ 0 ≤ p.2 by omega), Bool.and_false]; rfl)]
        exact .ret trivial
      by_cases e4 : 8 ≤ p.2
      · refine hκ.draw (.q 0 (.q 1 (.q 2 (.q 3 (.q 4 (.q 5 (.q 6 (.q 7 (.q 8 (.q 9 (.q 10 (.q 11 (.q 12 (.q 13 (.q 14 (.q 15 (.q 16 (.q 17 (.q 18 (.q 19 (.q 20 (.q 21 (.q 22 (.q 23 (.q 24 (.q 25 (.q 26 (.q 27 (.q 28 (.q 29 (.q 30 (.q 31 (.q 32 (.q 33 (.q 34 (.q 35 (.q 36 (.q 37 (.q 38 (.fin)))))))))))))))))))))))))))))))))))))))) [0, 1, 2, 3, 4, 5, 6, 7, 8, 9, 10, 11, 12, 13, 14, 15, 16, 17, 18, 19, 20, 21, 22, 23, 24, 25, 26, 27, 28, 29, 30, 31, 32, 33, 34, 35, 36, 37, 38] (by kernel_rfl) (by kernel_rfl) rfl ?_
        simp (disch := omega) only [sLookup, sLookupIn, keyS, sop, rOf, sPick, sLoadIn, sLoad, sInt, sBin, sFieldAddr, ev, Env.get, Heap.get, takeN, cut, aggOf, setO, drawP_fin, drawP_q, dq, dqn, GF.ff, GF.tf, guardP, R1Q, dstOK, undefS, undef, Bool.false_eq_true, List.getElem?_toArray, List.getElem?_cons_succ, List.getElem?_cons_zero, Option.bind_some, Option.getD_none, ↓reduceIte, Nat.reduceLT, Nat.reduceEqDiff, Nat.zero_add, Nat.add_zero, Nat.add_one_ne_zero, decide_true, decide_false, true_and, and_self, gl0, Try.sz3, Try.ag3, Try.fd51f0, Try.fd51f1, Try.mp63, hmt, e1, e2, e3, e4]
        refine hκ.run 300 ?_
        simp (disch := omega) only [exec_succ, runR_next, runR_fork_true, runR_stop, stepS, runOp, condS, toSR, sop, rOf, ev, Env.get, OutOK_stop, List.size_toArray, List.length_cons, List.length_nil, List.range, List.range.loop, List.getElem?_toArray, List.getElem?_cons_zero, ↓reduceIte, Nat.reduceLT, Nat.zero_add, gl0]
        refine hκ.ret _ _ _ _ _ _ trivial rfl ?_
        rw [bad (by simp only [picB, hp]; rw [decide_eq_false (show ¬ p.2 ≤ 7 by omega), Bool.and_false]; rfl)]
        exact .ret trivial
      by_cases e5 : (0 : Int) < k
      · have h5 := hkk (by omega)
        have hq := hl _ (getD_mem (show k - 1 < l.length by omega))
        by_cases e6 : p.2 ≤ (l.getD (k - 1) default).2
        · refine hκ.draw (.q 0 (.q 1 (.q 2 (.q 3 (.q 4 (.q 5 (.q 6 (.q 7 (.q 8 (.q 9 (.q 10 (.q 11 (.q 12 (.q 13 (.q 14 (.q 15 (.q 16 (.q 17 (.q 18 (.q 19 (.q 20 (.q 21 (.q 22 (.q 23 (.q 24 (.q 25 (.q 26 (.q 27 (.q 28 (.q 29 (.q 30 (.q 31 (.q 32 (.q 33 (.q 34 (.q 35 (.q 36 (.q 37 (.q 38 (.fin)))))))))))))))))))))))))))))))))))))))) [0, 1, 2, 3, 4, 5, 6, 7, 8, 9, 10, 11, 12, 13, 14, 15, 16, 17, 18, 19, 20, 21, 22, 23, 24, 25, 26, 27, 28, 29, 30, 31, 32, 33, 34, 35, 36, 37, 38] (by kernel_rfl) (by kernel_rfl) rfl ?_
          simp (disch := omega) only [sLookup, sLookupIn, keyS, sop, rOf, sPick, sLoadIn, sLoad, sInt, sBin, sFieldAddr, sIndexAddr, elemT, obind, ev, Env.get, Heap.get, takeN, cut, aggOf, setO, drawP_fin, drawP_q, dq, dqn, GF.tt, GF.ff, guardP, R1Q, dstOK, Bool.false_eq_true, List.length_map, List.getElem?_toArray, List.getElem?_cons_succ, List.getElem?_cons_zero, Option.bind_some, Option.getD_none, ↓reduceIte, Nat.reduceLT, Nat.reduceEqDiff, Nat.zero_add, Nat.add_zero, Nat.add_one_ne_zero, decide_true, decide_false, true_and, and_self, getD_map, wrap_i64, gl0, Try.sz3, Try.ag3, Try.underlying25, Try.sz51, Try.fd51f0, Try.fd51f1, Try.mp63, hmt, e1, e2, e3, e4, e5, h5, e6, eP]
          (repeat (refine ⟨by first | omega | (refine ⟨?_, ?_⟩ <;> omega) | trivial | (simp; done) | decide +kernel, fun _ => ?_⟩))
          refine hκ.run 300 ?_
          simp (disch := omega) only [exec_succ, runR_next, runR_fork_true, runR_stop, stepS, runOp, condS, toSR, sop, rOf, ev, Env.get, OutOK_stop, List.size_toArray, List.length_cons, List.length_nil, List.range, List.range.loop, List.getElem?_toArray, List.getElem?_cons_zero, ↓reduceIte, Nat.reduceLT, Nat.zero_add, gl0]
          refine hκ.ret _ _ _ _ _ _ trivial rfl ?_
          rw [bad (by simp only [picB, hp]; rw [decide_eq_false (show ¬ k = 0 by omega), decide_eq_false (show ¬ (l.getD (k - 1) default).2 < p.2 by omega), Bool.or_false, Bool.and_false])]
          exact .ret trivial
        · have hz1 := hz (hy (picB_suc (by rw [hp]; omega) (by rw [hp]; omega) (by rw [hp]; omega) (by rw [hp]; omega) (by rw [hp]; exact hm) (.inr (by rw [hp]; omega))))
          refine hκ.draw (.q 0 (.q 1 (.q 2 (.q 3 (.q 4 (.q 5 (.q 6 (.q 7 (.q 8 (.q 9 (.q 10 (.q 11 (.q 12 (.q 13 (.q 14 (.q 15 (.q 16 (.q 17 (.q 18 (.q 19 (.q 20 (.q 21 (.q 22 (.q 23 (.q 24 (.q 25 (.q 26 (.q 27 (.q 28 (.q 29 (.q 30 (.q 31 (.q 32 (.q 33 (.q 34 (.q 35 (.q 36 (.q 37 (.q 38 (.fin)))))))))))))))))))))))))))))))))))))))) [0, 1, 2, 3, 4, 5, 6, 7, 8, 9, 10, 11, 12, 13, 14, 15, 16, 17, 18, 19, 20, 21, 22, 23, 24, 25, 26, 27, 28, 29, 30, 31, 32, 33, 34, 35, 36, 37, 38] (by kernel_rfl) (by kernel_rfl) rfl ?_
          simp (disch := omega) only [sLookup, sLookupIn, keyS, sop, rOf, sPick, sLoadIn, sLoad, sInt, sBin, sFieldAddr, sIndexAddr, elemT, obind, ev, Env.get, Heap.get, takeN, cut, aggOf, setO, drawP_fin, drawP_q, dq, dqn, GF.tt, GF.ff, guardP, R1Q, dstOK, Bool.false_eq_true, List.length_map, List.getElem?_toArray, List.getElem?_cons_succ, List.getElem?_cons_zero, Option.bind_some, Option.getD_none, ↓reduceIte, Nat.reduceLT, Nat.reduceEqDiff, Nat.zero_add, Nat.add_zero, Nat.add_one_ne_zero, decide_true, decide_false, true_and, and_self, getD_map, wrap_i64, gl0, Try.sz3, Try.ag3, Try.underlying25, Try.sz51, Try.fd51f0, Try.fd51f1, Try.mp63, hmt, e1, e2, e3, e4, e5, h5, e6, eP]
          (repeat (refine ⟨by first | omega | (refine ⟨?_, ?_⟩ <;> omega) | trivial | (simp; done) | decide +kernel, fun _ => ?_⟩))
          refine hκ.run 300 ?_
          simp (disch := omega) only [sMapUp, sMapUpIn, keyS, exec_succ, runR_next, runR_fork_false, runR_stop, stepS, runOp, condS, toSR, sop, rOf, sLoadIn, sLoad, sInt, sBin, sFieldAddr, ev, Env.get, Heap.get, Heap.set, takeN, cut, aggOf, idFree, idFree', OutOK_stop, undefS, undef, List.size_toArray, List.length_cons, List.length_nil, List.range, List.range.loop, List.getElem?_toArray, List.getElem?_cons_succ, List.getElem?_cons_zero, ↓reduceIte, Nat.reduceAdd, Nat.reduceLT, Nat.reduceEqDiff, Nat.zero_add, Nat.add_zero, Nat.add_one_ne_zero, and_self, wrap_i64, gl0, Try.sz3, Try.ag3, Try.fd51f0, Try.mp63]
          refine Sat.via (fun i => i) (hz1) (by intro i j; (repeat (first | omega | split))) (by repeat' (first | exact EnvVia.nil | refine EnvVia.cons (by first | trivial | decide | (simp [SV.bnd, SV.bndL]; done)) rfl ?_)) (by repeat' (first | exact HeapVia.nil | refine HeapVia.cons (by decide) (by first | trivial | (simp [Blk.bnd, SV.bnd, SV.bndL]; done) | exact bndL_mapV _ _ _ | exact LR.bnd (by rw [l2]; simp [bndE, SV.bnd, SV.bndL]) (by rw [l6]; decide)) (by first | rfl | (simp only [Blk.ren, renL_mapV]; rfl) | (rw [LR.ren (by rw [l2] <;> rfl) (by rw [l6] <;> rfl)]; rfl)) ?_)) ⟨by have := hκ.hm; (try dsimp only at this); (first | done | omega), fun i hi => by have := hκ.hm; (try dsimp only at this); (first | omega | (dsimp only; omega) | (rw [if_neg (by omega)]))⟩ ⟨by simp, rfl⟩
      · have hz1 := hz (hy (picB_suc (by rw [hp]; omega) (by rw [hp]; omega) (by rw [hp]; omega) (by rw [hp]; omega) (by rw [hp]; exact hm) (.inl (by omega))))
        refine hκ.draw (.q 0 (.q 1 (.q 2 (.q 3 (.q 4 (.q 5 (.q 6 (.q 7 (.q 8 (.q 9 (.q 10 (.q 11 (.q 12 (.q 13 (.q 14 (.q 15 (.q 16 (.q 17 (.q 18 (.q 19 (.q 20 (.q 21 (.q 22 (.q 23 (.q 24 (.q 25 (.q 26 (.q 27 (.q 28 (.q 29 (.q 30 (.q 31 (.q 32 (.q 33 (.q 34 (.q 35 (.q 36 (.q 37 (.q 38 (.fin)))))))))))))))))))))))))))))))))))))))) [0, 1, 2, 3, 4, 5, 6, 7, 8, 9, 10, 11, 12, 13, 14, 15, 16, 17, 18, 19, 20, 21, 22, 23, 24, 25, 26, 27, 28, 29, 30, 31, 32, 33, 34, 35, 36, 37, 38] (by kernel_rfl) (by kernel_rfl) rfl ?_
        simp (disch := omega) only [sLookup, sLookupIn, keyS, sop, rOf, sPick, sLoadIn, sLoad, sInt, sBin, sFieldAddr, ev, Env.get, Heap.get, takeN, cut, aggOf, setO, drawP_fin, drawP_q, dq, dqn, GF.ff, GF.ft, guardP, R1Q, dstOK, undefS, undef, Bool.false_eq_true, List.getElem?_toArray, List.getElem?_cons_succ, List.getElem?_cons_zero, Option.bind_some, Option.getD_none, ↓reduceIte, Nat.reduceLT, Nat.reduceEqDiff, Nat.zero_add, Nat.add_zero, Nat.add_one_ne_zero, decide_false, true_and, and_self, gl0, Try.sz3, Try.ag3, Try.fd51f0, Try.fd51f1, Try.mp63, hmt, e1, e2, e3, e4, e5]
        refine hκ.run 300 ?_
        simp (disch := omega) only [sMapUp, sMapUpIn, keyS, exec_succ, runR_next, runR_fork_false, runR_stop, stepS, runOp, condS, toSR, sop, rOf, sLoadIn, sLoad, sInt, sBin, sFieldAddr, ev, Env.get, Heap.get, Heap.set, takeN, cut, aggOf, idFree, idFree', OutOK_stop, undefS, undef, List.size_toArray, List.length_cons, List.length_nil, List.range, List.range.loop, List.getElem?_toArray, List.getElem?_cons_succ, List.getElem?_cons_zero, ↓reduceIte, Nat.reduceAdd, Nat.reduceLT, Nat.reduceEqDiff, Nat.zero_add, Nat.add_zero, Nat.add_one_ne_zero, and_self, wrap_i64, gl0, Try.sz3, Try.ag3, Try.fd51f0, Try.mp63]
        refine Sat.via (fun i => i) (hz1) (by intro i j; (repeat (first | omega | split))) (by repeat' (first | exact EnvVia.nil | refine EnvVia.cons (by first | trivial | decide | (simp [SV.bnd, SV.bndL]; done)) rfl ?_)) (by repeat' (first | exact HeapVia.nil | refine HeapVia.cons (by decide) (by first | trivial | (simp [Blk.bnd, SV.bnd, SV.bndL]; done) | exact bndL_mapV _ _ _ | exact LR.bnd (by rw [l2]; simp [bndE, SV.bnd, SV.bndL]) (by rw [l6]; decide)) (by first | rfl | (simp only [Blk.ren, renL_mapV]; rfl) | (rw [LR.ren (by rw [l2] <;> rfl) (by rw [l6] <;> rfl)]; rfl)) ?_)) ⟨by have := hκ.hm; (try dsimp only at this); (first | done | omega), fun i hi => by have := hκ.hm; (try dsimp only at this); (first | omega | (dsimp only; omega) | (rw [if_neg (by omega)]))⟩ ⟨by simp, rfl⟩
    · simp (disch := omega) only [exec_zero, exec_succ, runR_next, stepS, goS, exitTo, OutOK_stop, List.size_toArray, List.length_cons, List.length_nil, List.range, List.range.loop, ↓reduceIte, Nat.zero_add, beq_self_eq_true]
      obtain rfl : k = l.length := by omega
      refine hκ.run 300 ?_
      simp (disch := omega) only [exec_succ, runR_next, runR_stop, stepS, runOp, toSR, sop, rOf, ev, OutOK_stop, List.take_length, List.getElem?_toArray, List.getElem?_cons_zero, ↓reduceIte, Nat.reduceLT, gl0]
      refine hκ.ret _ _ _ _ _ _ trivial rfl ?_
      rw [okPic_yes hj]
      exact .ret trivial
theorem rpicture_ok (l : List Pt) (hl : ∀ p ∈ l, inPt p) (hn : l.length < 2 ^ 46) : Con Try.prog gl0 (fnv 34) [Ps l] 0 [] (Ret (Bo (okPic l))) := by
  refine Con.of Try.ok34 (nt := 62) (res := [.tmp 2]) Try.mixed Try.func34 rfl rfl rfl rfl fun κ xc hκ => hκ.run 300 ?_
  simp (disch := omega) only [exec_succ, runR_next, runR_stop, stepS, runOp, toSR, sop, rOf, ev, envOf, OutOK_stop, List.size_toArray, List.length_cons, List.length_nil, List.range, List.range.loop, List.getElem?_toArray, List.getElem?_cons_zero, ↓reduceIte, Nat.reduceLT, Nat.zero_add, gl0]
  refine Sat.less (Sat.loop (γ := Nat) (fun k => ([(3, I k), (0, Ps l)], [], 0)) (fun k => l.length - k) (fun k => k ≤ l.length ∧ ∀ j, j < k → picB l j = true) ?round 0 ⟨Nat.zero_le _, fun j hj => by omega⟩) (by repeat' (first | exact EnvSub.nil _ | exact HeapSub.nil _ | refine EnvSub.cons rfl ?_ | refine HeapSub.cons rfl ?_ | (refine EnvSub.cons (by simp [Env.get]; done) ?_) | (refine HeapSub.cons (by simp [Heap.get]; done) ?_))) (by repeat' (first | exact EnvSub.nil _ | exact HeapSub.nil _ | refine EnvSub.cons rfl ?_ | refine HeapSub.cons rfl ?_ | (refine EnvSub.cons (by simp [Env.get]; done) ?_) | (refine HeapSub.cons (by simp [Heap.get]; done) ?_)))
  case round =>
    rintro k ⟨hk, hj⟩ ih
    dsimp only at hk hj ih ⊢
    refine hκ.run 9 ?_
    simp (disch := omega) only [sBuiltin, exec_succ, runR_next, stepS, runOp, condS, toSR, sop, rOf, sInt, sBin, sLen, ev, Env.get, List.size_toArray, List.length_cons, List.length_nil, List.length_map, List.range, List.range.loop, List.getElem?_toArray, List.getElem?_cons_succ, List.getElem?_cons_zero, ↓reduceIte, Nat.reduceAdd, Nat.reduceLT, Nat.reduceEqDiff, Nat.zero_add, Nat.add_one_ne_zero, gl0, Try.underlying25]
    refine OutOK_fork (fun h => ?_) (fun h => ?_) <;> try simp only [Bool.not_true, Bool.not_false, decide_eq_true_eq, decide_eq_false_iff_not, Bool.not_eq_true', Bool.not_eq_false', Bool.and_eq_true, Bool.or_eq_false_iff, Bool.or_eq_true, Bool.and_eq_false_iff] at h
    · obtain ⟨⟨v1, v2⟩, ⟨a1, a2⟩⟩ := hl _ (getD_mem (show k < l.length by omega))
      have bad : picB l k = false → okPic l = false := okPic_no (by omega)
      have hz := fun h => ih (k + 1) ⟨by omega, h⟩ (by omega)
      have hy : picB l k = true → ∀ j, j < k + 1 → picB l j = true := fun h j hj2 => by
        by_cases e : j = k
        · rw [e]; exact h
        · exact hj j (by omega)
      have hkk : 0 < k → ((k : Int) - 1).toNat = k - 1 := by omega
      refine hκ.run 300 ?_
      simp (disch := omega) only [allQuiet, quietOp, drawS, exec_succ, runR_next, runR_need, runR_stop, stepS, runOp, toSR, sop, rOf, rNew, sAlloc, sAlloc0, sLoad, sStoreIn, sStore, sIndexAddr, elemT, obind, ev, svs, Env.get, Heap.get, Heap.set, takeN, cut, over, paste, aggOf, cellsS, one, ones, Value.oneCell', OutOK_need, OutOK_stop, Option.isNone_none, Option.isNone_some, undefS, undef, Bool.and_true, Bool.and_false, List.size_toArray, List.length_cons, List.length_nil, List.length_map, List.range, List.range.loop, List.getElem?_toArray, List.getElem?_cons_succ, List.getElem?_cons_zero, List.map_cons, List.map_nil, ↓reduceIte, Nat.reduceAdd, Nat.reduceLT, Nat.reduceEqDiff, Nat.zero_add, Nat.add_one_ne_zero, Int.toNat_natCast, true_and, and_self, forall_const, getD_map, gl0, Try.underlying25, Try.sz51, Try.ag51, Try.ze51, Try.ar51, eP]
      (repeat (refine ⟨by first | omega | (refine ⟨?_, ?_⟩ <;> omega) | trivial | (simp; done) | decide +kernel, fun _ => ?_⟩))
      generalize hp : l.getD k default = p at v1 v2 a1 a2 hz ⊢
      by_cases e1 : p.1 < 1
      · refine hκ.draw (.q 0 (.q 1 (.q 2 (.q 3 (.q 4 (.q 5 (.q 6 (.q 7 (.q 8 (.q 9 (.q 10 (.q 11 (.q 12 (.q 13 (.q 14 (.q 15 (.q 16 (.q 17 (.q 18 (.q 19 (.q 20 (.q 21 (.q 22 (.q 23 (.q 24 (.q 25 (.q 26 (.q 27 (.q 28 (.q 29 (.q 30 (.q 31 (.q 32 (.fin)))))))))))))))))))))))))))))))))) [0, 1, 2, 3, 4, 5, 6, 7, 8, 9, 10, 11, 12, 13, 14, 15, 16, 17, 18, 19, 20, 21, 22, 23, 24, 25, 26, 27, 28, 29, 30, 31, 32] (by kernel_rfl) (by kernel_rfl) rfl ?_
        simp (disch := omega) only [sop, rOf, sPick, sLoadIn, sLoad, sInt, sBin, sFieldAddr, ev, Env.get, Heap.get, takeN, cut, aggOf, setO, drawP_fin, drawP_q, dq, dqn, GF.tf, guardP, R1Q, dstOK, undefS, undef, List.getElem?_toArray, List.getElem?_cons_succ, List.getElem?_cons_zero, Option.bind_some, ↓reduceIte, Nat.reduceLT, Nat.reduceEqDiff, Nat.add_zero, Nat.add_one_ne_zero, decide_true, true_and, gl0, Try.sz3, Try.ag3, Try.fd51f0, e1]
        refine hκ.run 300 ?_
        simp (disch := omega) only [exec_succ, runR_next, runR_fork_true, runR_stop, stepS, runOp, condS, toSR, sop, rOf, ev, Env.get, OutOK_stop, List.size_toArray, List.length_cons, List.length_nil, List.range, List.range.loop, List.getElem?_toArray, List.getElem?_cons_zero, ↓reduceIte, Nat.reduceLT, Nat.zero_add, gl0]
        refine hκ.ret _ _ _ _ _ _ trivial rfl ?_
        rw [bad (by simp only [picB, hp]; rw [decide_eq_false (show ¬ 1 ≤ p.1 by omega)]; rfl)]
        exact .ret trivial
      by_cases e2 : 16 < p.1
      · refine hκ.draw (.q 0 (.q 1 (.q 2 (.q 3 (.q 4 (.q 5 (.q 6 (.q 7 (.q 8 (.q 9 (.q 10 (.q 11 (.q 12 (.q 13 (.q 14 (.q 15 (.q 16 (.q 17 (.q 18 (.q 19 (.q 20 (.q 21 (.q 22 (.q 23 (.q 24 (.q 25 (.q 26 (.q 27 (.q 28 (.q 29 (.q 30 (.q 31 (.q 32 (.fin)))))))))))))))))))))))))))))))))) [0, 1, 2, 3, 4, 5, 6, 7, 8, 9, 10, 11, 12, 13, 14, 15, 16, 17, 18, 19, 20, 21, 22, 23, 24, 25, 26, 27, 28, 29, 30, 31, 32] (by kernel_rfl) (by kernel_rfl) rfl ?_
        simp (disch := omega) only [sop, rOf, sPick, sLoadIn, sLoad, sInt, sBin, sFieldAddr, ev, Env.get, Heap.get, takeN, cut, aggOf, setO, drawP_fin, drawP_q, dq, dqn, GF.ff, GF.tf, guardP, R1Q, dstOK, undefS, undef, List.getElem?_toArray, List.getElem?_cons_succ, List.getElem?_cons_zero, Option.bind_some, ↓reduceIte, Nat.reduceLT, Nat.reduceEqDiff, Nat.add_zero, Nat.add_one_ne_zero, decide_true, decide_false, true_and, gl0, Try.sz3, Try.ag3, Try.fd51f0, e1, e2]
        refine hκ.run 300 ?_
        simp (disch := omega) only [exec_succ, runR_next, runR_fork_true, runR_stop, stepS, runOp, condS, toSR, sop, rOf, ev, Env.get, OutOK_stop, List.size_toArray, List.length_cons, List.length_nil, List.range, List.range.loop, List.getElem?_toArray, List.getElem?_cons_zero, ↓reduceIte, Nat.reduceLT, Nat.zero_add, gl0]
        refine hκ.ret _ _ _ _ _ _ trivial rfl ?_
        rw [bad (by simp only [picB, hp]; rw [decide_eq_false (show ¬ p.1 ≤ 16 by omega), Bool.and_false]; rfl)]
        exact .ret trivial
      by_cases e3 : p.2 < 0
      · refine hκ.draw (.q 0 (.q 1 (.q 2 (.q 3 (.q 4 (.q 5 (.q 6 (.q 7 (.q 8 (.q 9 (.q 10 (.q 11 (.q 12 (.q 13 (.q 14 (.q 15 (.q 16 (.q 17 (.q 18 (.q 19 (.q 20 (.q 21 (.q 22 (.q 23 (.q 24 (.q 25 (.q 26 (.q 27 (.q 28 (.q 29 (.q 30 (.q 31 (.q 32 (.fin)))))))))))))))))))))))))))))))))) [0, 1, 2, 3, 4, 5, 6, 7, 8, 9, 10, 11, 12, 13, 14, 15, 16, 17, 18, 19, 20, 21, 22, 23, 24, 25, 26, 27, 28, 29, 30, 31, 32] (by kernel_rfl) (by kernel_rfl) rfl ?_
        simp (disch := omega) only [sop, rOf, sPick, sLoadIn, sLoad, sInt, sBin, sFieldAddr, ev, Env.get, Heap.get, takeN, cut, aggOf, setO, drawP_fin, drawP_q, dq, dqn, GF.ff, GF.tf, guardP, R1Q, dstOK, undefS, undef, List.getElem?_toArray, List.getElem?_cons_succ, List.getElem?_cons_zero, Option.bind_some, ↓reduceIte, Nat.reduceLT, Nat.reduceEqDiff, Nat.zero_add, Nat.add_zero, Nat.add_one_ne_zero, decide_true, decide_false, true_and, gl0, Try.sz3, Try.ag3, Try.fd51f0, Try.fd51f1, e1, e2, e3]
        refine hκ.run 300 ?_
        simp (disch := omega) only [exec_succ, runR_next, runR_fork_true, runR_stop, stepS, runOp, condS, toSR, sop, rOf, ev, Env.get, OutOK_stop, List.size_toArray, List.length_cons, List.length_nil, List.range, List.range.loop, List.getElem?_toArray, List.getElem?_cons_zero, ↓reduceIte, Nat.reduceLT, Nat.zero_add, gl0]
        refine hκ.ret _ _ _ _ _ _ trivial rfl ?_
        rw [bad (by simp only [picB, hp]; rw [decide_eq_false (show ¬ 0 ≤ p.2 by omega), Bool.and_false]; rfl)]
        exact .ret trivial
      by_cases e4 : 7 < p.2
      · refine hκ.draw (.q 0 (.q 1 (.q 2 (.q 3 (.q 4 (.q 5 (.q 6 (.q 7 (.q 8 (.q 9 (.q 10 (.q 11 (.q 12 (.q 13 (.q 14 (.q 15 (.q 16 (.q 17 (.q 18 (.q 19 (.q 20 (.q 21 (.q 22 (.q 23 (.q 24 (.q 25 (.q 26 (.q 27 (.q 28 (.q 29 (.q 30 (.q 31 (.q 32 (.fin)))))))))))))))))))))))))))))))))) [0, 1, 2, 3, 4, 5, 6, 7, 8, 9, 10, 11, 12, 13, 14, 15, 16, 17, 18, 19, 20, 21, 22, 23, 24, 25, 26, 27, 28, 29, 30, 31, 32] (by kernel_rfl) (by kernel_rfl) rfl ?_
        simp (disch := omega) only [sop, rOf, sPick, sLoadIn, sLoad, sInt, sBin, sFieldAddr, ev, Env.get, Heap.get, takeN, cut, aggOf, setO, drawP_fin, drawP_q, dq, dqn, GF.ff, GF.tf, guardP, R1Q, dstOK, undefS, undef, List.getElem?_toArray, List.getElem?_cons_succ, List.getElem?_cons_zero, Option.bind_some, ↓reduceIte, Nat.reduceLT, Nat.reduceEqDiff, Nat.zero_add, Nat.add_zero, Nat.add_one_ne_zero, decide_true, decide_false, true_and, gl0, Try.sz3, Try.ag3, Try.fd51f0, Try.fd51f1, e1, e2, e3, e4]
        refine hκ.run 300 ?_
        simp (disch := omega) only [exec_succ, runR_next, runR_fork_true, runR_stop, stepS, runOp, condS, toSR, sop, rOf, ev, Env.get, OutOK_stop, List.size_toArray, List.length_cons, List.length_nil, List.range, List.range.loop, List.getElem?_toArray, List.getElem?_cons_zero, ↓reduceIte, Nat.reduceLT, Nat.zero_add, gl0]
        refine hκ.ret _ _ _ _ _ _ trivial rfl ?_
        rw [bad (by simp only [picB, hp]; rw [decide_eq_false (show ¬ p.2 ≤ 7 by omega), Bool.and_false]; rfl)]
        exact .ret trivial
      by_cases e5 : (0 : Int) < k
      · have h5 := hkk (by omega)
        have hq := hl _ (getD_mem (show k - 1 < l.length by omega))
        by_cases e6 : p.2 ≤ (l.getD (k - 1) default).2
        · refine hκ.draw (.q 0 (.q 1 (.q 2 (.q 3 (.q 4 (.q 5 (.q 6 (.q 7 (.q 8 (.q 9 (.q 10 (.q 11 (.q 12 (.q 13 (.q 14 (.q 15 (.q 16 (.q 17 (.q 18 (.q 19 (.q 20 (.q 21 (.q 22 (.q 23 (.q 24 (.q 25 (.q 26 (.q 27 (.q 28 (.q 29 (.q 30 (.q 31 (.q 32 (.fin)))))))))))))))))))))))))))))))))) [0, 1, 2, 3, 4, 5, 6, 7, 8, 9, 10, 11, 12, 13, 14, 15, 16, 17, 18, 19, 20, 21, 22, 23, 24, 25, 26, 27, 28, 29, 30, 31, 32] (by kernel_rfl) (by kernel_rfl) rfl ?_
          simp (disch := omega) only [sop, rOf, sPick, sLoadIn, sLoad, sInt, sBin, sFieldAddr, sIndexAddr, elemT, obind, ev, Env.get, Heap.get, takeN, cut, aggOf, setO, drawP_fin, drawP_q, dq, dqn, GF.tt, GF.ff, guardP, R1Q, dstOK, List.length_map, List.getElem?_toArray, List.getElem?_cons_succ, List.getElem?_cons_zero, Option.bind_some, ↓reduceIte, Nat.reduceLT, Nat.reduceEqDiff, Nat.zero_add, Nat.add_zero, Nat.add_one_ne_zero, decide_true, decide_false, true_and, getD_map, wrap_i64, gl0, Try.sz3, Try.ag3, Try.underlying25, Try.sz51, Try.fd51f0, Try.fd51f1, e1, e2, e3, e4, e5, h5, e6, eP]
          (repeat (refine ⟨by first | omega | (refine ⟨?_, ?_⟩ <;> omega) | trivial | (simp; done) | decide +kernel, fun _ => ?_⟩))
          refine hκ.run 300 ?_
          simp (disch := omega) only [exec_succ, runR_next, runR_fork_true, runR_stop, stepS, runOp, condS, toSR, sop, rOf, ev, Env.get, OutOK_stop, List.size_toArray, List.length_cons, List.length_nil, List.range, List.range.loop, List.getElem?_toArray, List.getElem?_cons_zero, ↓reduceIte, Nat.reduceLT, Nat.zero_add, gl0]
          refine hκ.ret _ _ _ _ _ _ trivial rfl ?_
          rw [bad (by simp only [picB, hp]; rw [decide_eq_false (show ¬ k = 0 by omega), decide_eq_false (show ¬ (l.getD (k - 1) default).2 < p.2 by omega), Bool.or_false, Bool.and_false])]
          exact .ret trivial
        · refine hκ.draw (.q 0 (.q 1 (.q 2 (.q 3 (.q 4 (.q 5 (.q 6 (.q 7 (.q 8 (.q 9 (.q 10 (.q 11 (.q 12 (.q 13 (.q 14 (.q 15 (.q 16 (.q 17 (.q 18 (.q 19 (.q 20 (.q 21 (.q 22 (.q 23 (.q 24 (.q 25 (.q 26 (.q 27 (.q 28 (.q 29 (.q 30 (.q 31 (.q 32 (.fin)))))))))))))))))))))))))))))))))) [0, 1, 2, 3, 4, 5, 6, 7, 8, 9, 10, 11, 12, 13, 14, 15, 16, 17, 18, 19, 20, 21, 22, 23, 24, 25, 26, 27, 28, 29, 30, 31, 32] (by kernel_rfl) (by kernel_rfl) rfl ?_
          simp (disch := omega) only [sop, rOf, sPick, sLoadIn, sLoad, sInt, sBin, sFieldAddr, sIndexAddr, elemT, obind, ev, Env.get, Heap.get, takeN, cut, aggOf, setO, drawP_fin, drawP_q, dq, dqn, GF.tt, GF.ff, guardP, R1Q, dstOK, List.length_map, List.getElem?_toArray, List.getElem?_cons_succ, List.getElem?_cons_zero, Option.bind_some, ↓reduceIte, Nat.reduceLT, Nat.reduceEqDiff, Nat.zero_add, Nat.add_zero, Nat.add_one_ne_zero, decide_true, decide_false, true_and, getD_map, wrap_i64, gl0, Try.sz3, Try.ag3, Try.underlying25, Try.sz51, Try.fd51f0, Try.fd51f1, e1, e2, e3, e4, e5, h5, e6, eP]
          (repeat (refine ⟨by first | omega | (refine ⟨?_, ?_⟩ <;> omega) | trivial | (simp; done) | decide +kernel, fun _ => ?_⟩))
          refine hκ.run 300 ?_
          simp (disch := omega) only [exec_succ, runR_next, runR_fork_false, runR_stop, stepS, runOp, condS, toSR, sop, rOf, ev, Env.get, OutOK_stop, List.size_toArray, List.length_cons, List.length_nil, List.range, List.range.loop, List.getElem?_toArray, List.getElem?_cons_zero, ↓reduceIte, Nat.reduceLT, Nat.zero_add, gl0]
          refine Sat.less (Sat.loop (γ := Nat) (fun j => ([(5, I j), (3, I k), (4, .ptr 0 0 0 0), (0, Ps l)], [(0, .own [I p.1, I p.2] 51)], 1)) (fun j => k - j)
            (fun j => j ≤ k ∧ (l.take j).any (fun q => decide (q.1 = p.1)) = false) ?ra 0 ⟨Nat.zero_le _, by simp⟩) (by repeat' (first | exact EnvSub.nil _ | exact HeapSub.nil _ | refine EnvSub.cons rfl ?_ | refine HeapSub.cons rfl ?_ | (refine EnvSub.cons (by simp [Env.get]; done) ?_) | (refine HeapSub.cons (by simp [Heap.get]; done) ?_))) (by repeat' (first | exact EnvSub.nil _ | exact HeapSub.nil _ | refine EnvSub.cons rfl ?_ | refine HeapSub.cons rfl ?_ | (refine EnvSub.cons (by simp [Env.get]; done) ?_) | (refine HeapSub.cons (by simp [Heap.get]; done) ?_)))
          case ra =>
            rintro j ⟨hjk, hc⟩ ih2
            dsimp only at hc ih2 ⊢
            refine hκ.run 9 ?_
            simp (disch := omega) only [exec_succ, runR_next, stepS, runOp, condS, toSR, sop, rOf, sInt, sBin, ev, Env.get, List.size_toArray, List.length_cons, List.length_nil, List.range, List.range.loop, List.getElem?_toArray, List.getElem?_cons_succ, List.getElem?_cons_zero, ↓reduceIte, Nat.reduceAdd, Nat.reduceLT, Nat.reduceEqDiff, Nat.zero_add, gl0]
            refine OutOK_fork (fun h => ?_) (fun h => ?_) <;> try simp only [Bool.not_true, Bool.not_false, decide_eq_true_eq, decide_eq_false_iff_not, Bool.not_eq_true', Bool.not_eq_false', Bool.and_eq_true, Bool.or_eq_false_iff, Bool.or_eq_true, Bool.and_eq_false_iff] at h
            · have hs : (l.take (j + 1)).any (fun q => decide (q.1 = p.1)) = decide ((l.getD j default).1 = p.1) := by
                rw [take_getD (by omega), List.any_append, hc, List.any_cons, List.any_nil, Bool.or_false, Bool.false_or]
              have hq := hl _ (getD_mem (show j < l.length by omega))
              by_cases e7 : (l.getD j default).1 = p.1
              · refine hκ.run 300 ?_
                simp (disch := omega) only [allQuiet, quietOp, drawS, drawGo, drawN, drawFin, exec_succ, runR_next, runR_need, runR_fork_true, runR_stop, stepS, runOp, condS, toSR, sop, rOf, sLoadIn, sLoad, sInt, sEq, sEqR, sEqAgg, aggS, sBin, sFieldAddr, sIndexAddr, elemT, obind, ev, svs, Env.get, Heap.get, takeN, cut, aggOf, OutOK_need, OutOK_stop, Option.isNone_none, Bool.and_true, Bool.false_eq_true, List.size_toArray, List.length_cons, List.length_nil, List.length_map, List.range, List.range.loop, List.getElem?_toArray, List.getElem?_cons_zero, ↓reduceIte, Nat.reduceLT, Nat.reduceEqDiff, Nat.zero_add, Nat.add_zero, Nat.add_one_ne_zero, Int.toNat_natCast, decide_true, getD_map, gl0, Try.underlying3, Try.sz3, Try.ag3, Try.underlying25, Try.sz51, Try.fd51f0, e7, eP]
                (repeat (refine ⟨by first | omega | (refine ⟨?_, ?_⟩ <;> omega) | trivial | (simp; done) | decide +kernel, fun _ => ?_⟩))
                refine hκ.run 300 ?_
                simp (disch := omega) only [exec_succ, runR_stop, stepS, OutOK_stop, gl0]
                refine hκ.ret _ _ _ _ _ _ trivial rfl ?_
                rw [bad (by
                  have hm : (l.take k).any (fun q => decide (q.1 = p.1)) = true := by
                    rw [List.any_eq_true]
                    exact ⟨l.getD j default, by
                      have := getD_mem (l := l.take k) (k := j) (by simp; omega)
                      rwa [List.getD, List.getElem?_take_of_lt (by omega), ← List.getD] at this, decide_eq_true e7⟩
                  simp only [picB, hp, hm, Bool.not_true, Bool.and_false, Bool.false_and])]
                exact .ret trivial
              · refine hκ.run 300 ?_
                simp (disch := omega) only [allQuiet, quietOp, drawS, drawGo, drawN, drawFin, exec_succ, runR_next, runR_need, runR_fork_false, runR_stop, stepS, runOp, condS, toSR, sop, rOf, sLoadIn, sLoad, sInt, sEq, sEqR, sEqAgg, aggS, sBin, sFieldAddr, sIndexAddr, elemT, obind, ev, svs, Env.get, Heap.get, takeN, cut, aggOf, OutOK_need, OutOK_stop, Option.isNone_none, Bool.and_true, Bool.false_eq_true, List.size_toArray, List.length_cons, List.length_nil, List.length_map, List.range, List.range.loop, List.getElem?_toArray, List.getElem?_cons_succ, List.getElem?_cons_zero, ↓reduceIte, Nat.reduceAdd, Nat.reduceLT, Nat.reduceEqDiff, Nat.zero_add, Nat.add_zero, Nat.add_one_ne_zero, Int.toNat_natCast, decide_false, getD_map, wrap_i64, gl0, Try.underlying3, Try.sz3, Try.ag3, Try.underlying25, Try.sz51, Try.fd51f0, e7, eP]
                (repeat (refine ⟨by first | omega | (refine ⟨?_, ?_⟩ <;> omega) | trivial | (simp; done) | decide +kernel, fun _ => ?_⟩))
                refine hκ.run 300 ?_
                simp (disch := omega) only [exec_succ, runR_stop, stepS, OutOK_stop, gl0]
                exact (ih2 (j + 1) ⟨by omega, by rw [hs, decide_eq_false e7]⟩ (by omega)).less (by repeat' (first | exact EnvSub.nil _ | exact HeapSub.nil _ | refine EnvSub.cons rfl ?_ | refine HeapSub.cons rfl ?_ | (refine EnvSub.cons (by simp [Env.get]; done) ?_) | (refine HeapSub.cons (by simp [Heap.get]; done) ?_))) (by repeat' (first | exact EnvSub.nil _ | exact HeapSub.nil _ | refine EnvSub.cons rfl ?_ | refine HeapSub.cons rfl ?_ | (refine EnvSub.cons (by simp [Env.get]; done) ?_) | (refine HeapSub.cons (by simp [Heap.get]; done) ?_)))
            · simp (disch := omega) only [exec_zero, exec_succ, runR_next, stepS, goS, exitTo, OutOK_stop, ↓reduceIte, beq_self_eq_true]
              obtain rfl : j = k := by omega
              refine hκ.run 300 ?_
              simp (disch := omega) only [exec_succ, runR_next, runR_stop, stepS, runOp, toSR, sop, rOf, sInt, sBin, ev, Env.get, OutOK_stop, List.size_toArray, List.length_cons, List.length_nil, List.range, List.range.loop, List.getElem?_toArray, List.getElem?_cons_succ, List.getElem?_cons_zero, ↓reduceIte, Nat.reduceAdd, Nat.reduceLT, Nat.reduceEqDiff, Nat.zero_add, wrap_i64, gl0]
              have hz1 := hz (hy (picB_suc (by rw [hp]; omega) (by rw [hp]; omega) (by rw [hp]; omega) (by rw [hp]; omega) (by rw [hp]; exact hc) (.inr (by rw [hp]; omega))))
              refine Sat.via (fun i => i) (hz1) (by intro i j; (repeat (first | omega | split))) (by repeat' (first | exact EnvVia.nil | refine EnvVia.cons (by first | trivial | decide | (simp [SV.bnd, SV.bndL]; done)) rfl ?_)) (by repeat' (first | exact HeapVia.nil | refine HeapVia.cons (by decide) (by first | trivial | (simp [Blk.bnd, SV.bnd, SV.bndL]; done) | exact bndL_mapV _ _ _ | exact LR.bnd (by rw [l2]; simp [bndE, SV.bnd, SV.bndL]) (by rw [l6]; decide)) (by first | rfl | (simp only [Blk.ren, renL_mapV]; rfl) | (rw [LR.ren (by rw [l2] <;> rfl) (by rw [l6] <;> rfl)]; rfl)) ?_)) ⟨by have := hκ.hm; (try dsimp only at this); (first | done | omega), fun i hi => by have := hκ.hm; (try dsimp only at this); (first | omega | (dsimp only; omega) | (rw [if_neg (by omega)]))⟩ ⟨by simp, rfl⟩
      · refine hκ.draw (.q 0 (.q 1 (.q 2 (.q 3 (.q 4 (.q 5 (.q 6 (.q 7 (.q 8 (.q 9 (.q 10 (.q 11 (.q 12 (.q 13 (.q 14 (.q 15 (.q 16 (.q 17 (.q 18 (.q 19 (.q 20 (.q 21 (.q 22 (.q 23 (.q 24 (.q 25 (.q 26 (.q 27 (.q 28 (.q 29 (.q 30 (.q 31 (.q 32 (.fin)))))))))))))))))))))))))))))))))) [0, 1, 2, 3, 4, 5, 6, 7, 8, 9, 10, 11, 12, 13, 14, 15, 16, 17, 18, 19, 20, 21, 22, 23, 24, 25, 26, 27, 28, 29, 30, 31, 32] (by kernel_rfl) (by kernel_rfl) rfl ?_
        simp (disch := omega) only [sop, rOf, sPick, sLoadIn, sLoad, sInt, sBin, sFieldAddr, ev, Env.get, Heap.get, takeN, cut, aggOf, setO, drawP_fin, drawP_q, dq, dqn, GF.ff, GF.ft, guardP, R1Q, dstOK, undefS, undef, List.getElem?_toArray, List.getElem?_cons_succ, List.getElem?_cons_zero, Option.bind_some, ↓reduceIte, Nat.reduceLT, Nat.reduceEqDiff, Nat.zero_add, Nat.add_zero, Nat.add_one_ne_zero, decide_false, true_and, gl0, Try.sz3, Try.ag3, Try.fd51f0, Try.fd51f1, e1, e2, e3, e4, e5]
        refine hκ.run 300 ?_
        simp (disch := omega) only [exec_succ, runR_next, runR_fork_false, runR_stop, stepS, runOp, condS, toSR, sop, rOf, ev, Env.get, OutOK_stop, List.size_toArray, List.length_cons, List.length_nil, List.range, List.range.loop, List.getElem?_toArray, List.getElem?_cons_zero, ↓reduceIte, Nat.reduceLT, Nat.zero_add, gl0]
        refine Sat.less (Sat.loop (γ := Nat) (fun j => ([(5, I j), (3, I k), (4, .ptr 0 0 0 0), (0, Ps l)], [(0, .own [I p.1, I p.2] 51)], 1)) (fun j => k - j)
          (fun j => j ≤ k ∧ (l.take j).any (fun q => decide (q.1 = p.1)) = false) ?rb 0 ⟨Nat.zero_le _, by simp⟩) (by repeat' (first | exact EnvSub.nil _ | exact HeapSub.nil _ | refine EnvSub.cons rfl ?_ | refine HeapSub.cons rfl ?_ | (refine EnvSub.cons (by simp [Env.get]; done) ?_) | (refine HeapSub.cons (by simp [Heap.get]; done) ?_))) (by repeat' (first | exact EnvSub.nil _ | exact HeapSub.nil _ | refine EnvSub.cons rfl ?_ | refine HeapSub.cons rfl ?_ | (refine EnvSub.cons (by simp [Env.get]; done) ?_) | (refine HeapSub.cons (by simp [Heap.get]; done) ?_)))
        case rb =>
          rintro j ⟨hjk, hc⟩ ih2
          dsimp only at hc ih2 ⊢
          refine hκ.run 9 ?_
          simp (disch := omega) only [exec_succ, runR_next, stepS, runOp, condS, toSR, sop, rOf, sInt, sBin, ev, Env.get, List.size_toArray, List.length_cons, List.length_nil, List.range, List.range.loop, List.getElem?_toArray, List.getElem?_cons_succ, List.getElem?_cons_zero, ↓reduceIte, Nat.reduceAdd, Nat.reduceLT, Nat.reduceEqDiff, Nat.zero_add, gl0]
          refine OutOK_fork (fun h => ?_) (fun h => ?_) <;> try simp only [Bool.not_true, Bool.not_false, decide_eq_true_eq, decide_eq_false_iff_not, Bool.not_eq_true', Bool.not_eq_false', Bool.and_eq_true, Bool.or_eq_false_iff, Bool.or_eq_true, Bool.and_eq_false_iff] at h
          · omega
          · simp (disch := omega) only [exec_zero, exec_succ, runR_next, stepS, goS, exitTo, OutOK_stop, ↓reduceIte, beq_self_eq_true]
            obtain rfl : j = k := by omega
            refine hκ.run 300 ?_
            simp (disch := omega) only [exec_succ, runR_next, runR_stop, stepS, runOp, toSR, sop, rOf, sInt, sBin, ev, Env.get, OutOK_stop, List.size_toArray, List.length_cons, List.length_nil, List.range, List.range.loop, List.getElem?_toArray, List.getElem?_cons_succ, List.getElem?_cons_zero, ↓reduceIte, Nat.reduceAdd, Nat.reduceLT, Nat.reduceEqDiff, Nat.zero_add, wrap_i64, gl0]
            have hz1 := hz (hy (picB_suc (by rw [hp]; omega) (by rw [hp]; omega) (by rw [hp]; omega) (by rw [hp]; omega) (by rw [hp]; exact hc) (.inl (by omega))))
            refine Sat.via (fun i => i) (hz1) (by intro i j; (repeat (first | omega | split))) (by repeat' (first | exact EnvVia.nil | refine EnvVia.cons (by first | trivial | decide | (simp [SV.bnd, SV.bndL]; done)) rfl ?_)) (by repeat' (first | exact HeapVia.nil | refine HeapVia.cons (by decide) (by first | trivial | (simp [Blk.bnd, SV.bnd, SV.bndL]; done) | exact bndL_mapV _ _ _ | exact LR.bnd (by rw [l2]; simp [bndE, SV.bnd, SV.bndL]) (by rw [l6]; decide)) (by first | rfl | (simp only [Blk.ren, renL_mapV]; rfl) | (rw [LR.ren (by rw [l2] <;> rfl) (by rw [l6] <;> rfl)]; rfl)) ?_)) ⟨by have := hκ.hm; (try dsimp only at this); (first | done | omega), fun i hi => by have := hκ.hm; (try dsimp only at this); (first | omega | (dsimp only; omega) | (rw [if_neg (by omega)]))⟩ ⟨by simp, rfl⟩
    · simp (disch := omega) only [exec_zero, OutOK_stop]
      obtain rfl : k = l.length := by omega
      refine hκ.run 300 ?_
      simp (disch := omega) only [exec_succ, runR_next, runR_stop, stepS, runOp, goS, toSR, sop, rOf, ev, exitTo, OutOK_stop, List.size_toArray, List.length_cons, List.length_nil, List.range, List.range.loop, List.getElem?_toArray, List.getElem?_cons_zero, ↓reduceIte, Nat.reduceLT, Nat.zero_add, beq_self_eq_true, gl0]
      refine hκ.ret _ _ _ _ _ _ trivial rfl ?_
      rw [okPic_yes hj]
      exact .ret trivial
end Go.Proofs.Ytcpanpkhdcifoaa

/- Watches: a moment is added. No condition. -/
import Derived.Test.YtbjhphjpdeblnaaAe
namespace Go.Proofs.Ytbjhphjpdeblnaa
open Go Go.Sy
set_option maxRecDepth 100000
set_option linter.unusedSimpArgs false
set_option linter.unusedVariables false

abbrev aW (ms : List Mo) (k : Nat) : Int := (ms.getD k default).1
/-- A watch that may be. -/
structure WT (ms : List Mo) (en : Int) : Prop where
  len : ms.length ≤ 2000
  en0 : 0 ≤ en
  en1 : en ≤ 1125899906842624
  mom : ∀ k, k < ms.length → rightM (ms.getD k default) = true
  atE : ∀ k, k < ms.length → aW ms k ≤ en
  inc : ∀ k, k + 1 < ms.length → aW ms k < aW ms (k + 1)
theorem WT.iff (ms : List Mo) (en : Int) : rightW ms en = true ↔ WT ms en := by
  constructor
  · intro h
    simp only [rightW, Bool.and_eq_true, decide_eq_true_eq, inI_iff, List.all_eq_true, List.mem_range] at h
    obtain ⟨⟨h1, h2, h3⟩, h4⟩ := h
    have h5 := fun k hk => by
      have := h4 k hk
      simpa only [frW, Bool.and_eq_true, Bool.or_eq_true, decide_eq_true_eq] using this
    refine ⟨h1, h2, h3, fun k hk => (h5 k hk).1, fun k hk => (h5 k hk).2.1, fun k hk => ?_⟩
    have := (h5 (k + 1) hk).2.2
    simp only [Nat.add_sub_cancel] at this
    exact this.resolve_left (by omega)
  · intro h
    refine rightW_yes h.len ((inI_iff ..).2 ⟨h.en0, h.en1⟩) fun k hk => ?_
    rw [frW, h.mom k hk, decide_eq_true (h.atE k hk)]
    rcases k with _ | k
    · simp
    · have := h.inc k hk
      rw [Nat.add_sub_cancel, decide_eq_true this]; simp
theorem rightM_at {m : Mo} (h : rightM m = true) : 0 ≤ m.1 ∧ m.1 ≤ 1125899906842624 := by
  rw [rightM, Bool.and_eq_true] at h
  exact (inI_iff ..).1 h.2
theorem WT.mono {ms : List Mo} {en : Int} (h : WT ms en) {i j : Nat} (hij : i < j) (hj : j < ms.length) : aW ms i < aW ms j := by
  induction j with
  | zero => omega
  | succ j ih =>
    have := h.inc j hj
    by_cases e : i = j
    · rw [e]; exact this
    · have := ih (by omega) (by omega); omega
theorem mclone_row (ms : List Mo) (hn : ms.length < 2 ^ 40) : Con Try.prog gl0 (fnv 25) [Ms ms] 0 [] (RetRow 27 2 (ms.map eM)) := by
  rcases ms with _ | ⟨p, l⟩
  · refine Con.noArg fun a cap => ?_
    cases a with
    | none =>
      refine Con.of Try.ok25 (nt := 8) (res := [.tmp 2]) Try.mixed Try.func25 rfl rfl rfl rfl fun κ xc hκ => hκ.run 300 ?_
      simp (disch := omega) only [exec_succ, runR_next, runR_need, runR_fork_true, runR_stop, stepS, runOp, condS, toSR, sop, rOf, sEq, sEqR, sBin, ev, Env.get, envOf, OutOK_need, OutOK_stop, Bool.false_eq_true, List.size_toArray, List.length_cons, List.length_nil, List.range, List.range.loop, List.getElem?_toArray, List.getElem?_cons_succ, List.getElem?_cons_zero, ↓reduceIte, Nat.reduceAdd, Nat.reduceLT, Nat.zero_add, Nat.add_one_ne_zero, true_and, forall_const, gl0, Try.underlying22]
      refine Sat.nilRow 2 2 27 rfl ?_
      refine hκ.ret _ _ _ _ _ _ trivial rfl ?_
      exact Post.row rfl (by simp)
    | some a =>
      refine Con.of Try.ok25 (nt := 8) (res := [.tmp 2]) Try.mixed Try.func25 rfl rfl rfl rfl fun κ xc hκ => hκ.run 300 ?_
      simp (disch := omega) only [sBuiltin, srcS, appArgS, sAppendTo, sAppend, exec_succ, runR_next, runR_need, runR_all, runR_fork_false, runR_stop, stepS, runOp, condS, toSR, sop, rOf, rNew, sEq, sEqR, sBin, sliceT, obind, fillS, evps, repeatL, sBuildSlice, chunk, ev, svs, Env.get, Heap.get, Heap.drop, ones, idFrees, envOf, OutOK_need, OutOK_all, OutOK_stop, List.take_nil, Bool.false_eq_true, List.size_toArray, List.length_cons, List.length_nil, List.range, List.range.loop, List.getElem?_toArray, List.getElem?_cons_succ, List.getElem?_cons_zero, List.map_nil, List.append_nil, ↓reduceIte, Nat.reduceAdd, Nat.reduceLT, Nat.reduceLeDiff, Nat.reduceEqDiff, Nat.zero_add, Nat.add_zero, Nat.zero_mul, Nat.add_one_ne_zero, true_and, and_self, forall_const, gl0, Try.underlying22, Try.sz27, Try.ze27, Try.by27]
      (repeat (refine ⟨by first | omega | (refine ⟨?_, ?_⟩ <;> omega) | trivial | (simp; done) | decide +kernel, fun _ => ?_⟩))
      intro c
      refine hκ.ret _ _ _ _ _ _ trivial rfl ?_
      exact Post.row rfl (by simp)
  · rw [List.length_cons] at hn
    refine Con.of Try.ok25 (nt := 8) (res := [.tmp 2]) Try.mixed Try.func25 rfl rfl rfl rfl fun κ xc hκ => hκ.run 300 ?_
    simp (disch := omega) only [sBuiltin, srcS, appArgS, sAppendTo, sAppend, exec_succ, runR_next, runR_need, runR_all, runR_fork_false, runR_stop, stepS, runOp, condS, toSR, sop, rOf, rNew, sEq, sEqR, sBin, sliceT, obind, fillS, evps, repeatL, sBuildSlice, chunk, ev, svs, Env.get, Heap.get, Heap.drop, ones, idFrees, envOf, OutOK_need, OutOK_all, OutOK_stop, List.take_nil, Bool.false_eq_true, List.size_toArray, List.length_cons, List.length_nil, List.length_map, List.range, List.range.loop, List.getElem?_toArray, List.getElem?_cons_succ, List.getElem?_cons_zero, List.map_cons, List.map_nil, List.nil_append, ↓reduceIte, Nat.reduceAdd, Nat.reduceLT, Nat.reduceLeDiff, Nat.reduceEqDiff, Nat.zero_add, Nat.zero_mul, Nat.add_one_ne_zero, ne_eq, not_false_eq_true, true_and, and_self, forall_const, gl0, Try.underlying22, Try.sz27, Try.ze27, Try.by27, eM]
    (repeat (refine ⟨by first | omega | (refine ⟨?_, ?_⟩ <;> omega) | trivial | (simp; done) | decide +kernel, fun _ => ?_⟩))
    intro c
    refine hκ.ret _ _ _ _ _ _ trivial rfl ?_
    exact Post.row rfl (by simp)
/-- How many moments stay when one is put at the end. -/
def keepW (ms : List Mo) (t : Int) : Nat := if ms.length ≠ 0 ∧ aW ms (ms.length - 1) = t then ms.length - 1 else ms.length
theorem keepW_le (ms : List Mo) (t : Int) : keepW ms t ≤ ms.length := by unfold keepW; split <;> omega
/-- The moments with one more. -/
def addW (ms : List Mo) (m : Mo) : List Mo := ms.take (keepW ms m.1) ++ [m]
theorem addW_len (ms : List Mo) (m : Mo) : (addW ms m).length ≤ ms.length + 1 := by
  have := keepW_le ms m.1
  simp [addW]; omega
theorem addW_mem {ms : List Mo} {m x : Mo} (h : x ∈ addW ms m) : x ∈ ms ∨ x = m := by
  rcases List.mem_append.1 h with h | h
  · exact .inl (List.mem_of_mem_take h)
  · exact .inr (List.mem_singleton.1 h)
/-- The error of a moment that is added. -/
def addE (ms : List Mo) (en : Int) (m : Mo) : Int := if rightW ms en = true then (if rightM m = true ∧ en ≤ m.1 then 0 else 2) else 390
theorem add_ok (ms : List Mo) (en : Int) (m : Mo) (hf : ∀ m ∈ ms, inM m) (he : i64 en) (hm : inM m) (hn : ms.length < 2000) : Con Try.prog gl0 (fnv 10) [Wt ms en, .agg (eM m)] 0 [] (Ret (.tup [Wt (if addE ms en m = 0 then addW ms m else []) (if addE ms en m = 0 then m.1 else 0), I (addE ms en m)])) := by
  have c1 := wcheck_ok ms en hf he (by omega)
  have c2 := right_ok m hm
  have c3 := mclone_row ms (by omega)
  suffices H : Con Try.prog gl0 (fnv 10) [Wt ms en, .agg (eM m)] 0 [] (Ret (if addE ms en m = 0 then .tup [Wt (addW ms m) m.1, I 0] else .tup [noT, I (addE ms en m)])) by
    by_cases h : addE ms en m = 0
    · rw [if_pos h] at H; rw [if_pos h, if_pos h, h]; exact H
    · rw [if_neg h] at H; rw [if_neg h, if_neg h]; exact Con.repR (fun _ => Rel.tupMap (RelL.mapHead (Rel.aggMap nil1))) H
  obtain ⟨t, l⟩ := m
  obtain ⟨hm1, hm2, hm3⟩ := hm
  dsimp only at hm1 hm2 hm3
  refine Con.of Try.ok10 (nt := 58) (res := [.cell 4 24, .tmp 5]) Try.mixed Try.func10 rfl rfl rfl rfl fun κ xc hκ => hκ.run 300 ?_
  simp (disch := omega) only [exec_succ, runR_next, runR_call, stepS, runOp, toSR, sop, rOf, rNew, sAlloc, sAlloc0, sBox, isArr, sLoadIn, sLoad, ev, evs, svs, Env.get, Heap.get, takeN, cut, aggOf, cellsS, envOf, OutOK_call, Bool.false_eq_true, List.size_toArray, List.length_cons, List.length_nil, List.range, List.range.loop, List.getElem?_toArray, List.getElem?_cons_succ, List.getElem?_cons_zero, List.map_cons, List.map_nil, ↓reduceIte, Nat.reduceAdd, Nat.reduceLT, Nat.reduceEqDiff, Nat.zero_add, Nat.add_one_ne_zero, reduceCtorEq, gl0, Try.sz24, Try.ag24, Try.ze24, Try.ar24, eM]
  by_cases h1 : rightW ms en = true
  case neg =>
    rw [if_neg h1] at c1
    have e1 : addE ms en (t, l) = 390 := by rw [addE, if_neg h1]
    rw [e1, if_neg (by decide)] at hκ
    refine Does.ret hκ.hP hκ.hgl (c1) ⟨trivial, by simp [SV.bnd, SV.bndL], by first | (simp [SV.bnd, SV.bndL]; done) | assumption⟩ ?_
    refine hκ.run 300 ?_
    simp (disch := omega) only [sBuild0, exec_succ, runR_next, runR_need, runR_fork_true, runR_stop, stepS, runOp, condS, toSR, sop, rOf, sStoreIn, sStore, sInt, sBin, fillS, evps, sBuild, ev, svs, Env.get, Heap.get, Heap.set, over, paste, cellsS, one, ones, setO, Value.oneCell', OutOK_need, OutOK_stop, undefS, undef, List.size_toArray, List.length_cons, List.length_nil, List.range, List.range.loop, List.getElem?_toArray, List.getElem?_cons_succ, List.getElem?_cons_zero, List.map_cons, List.map_nil, ↓reduceIte, Nat.reduceAdd, Nat.reduceLT, Nat.reduceEqDiff, Nat.zero_add, Int.reduceEq, Bool.not_false, decide_false, true_and, and_self, forall_const, gl0, Try.sz24, Try.ze24, Try.pl24, Try.ar24]
    refine hκ.ret _ _ _ _ _ _ trivial rfl ?_
    exact .ret (by simp [SV.bnd, SV.bndL])
  rw [if_pos h1] at c1
  refine Does.ret hκ.hP hκ.hgl (c1) ⟨trivial, by simp [SV.bnd, SV.bndL], by first | (simp [SV.bnd, SV.bndL]; done) | assumption⟩ ?_
  refine hκ.run 300 ?_
  simp (disch := omega) only [exec_succ, runR_next, runR_fork_false, runR_call, stepS, runOp, condS, toSR, sop, rOf, sLoadIn, sLoad, sInt, sBin, ev, evs, Env.get, Heap.get, takeN, cut, aggOf, setO, OutOK_call, List.size_toArray, List.length_cons, List.length_nil, List.range, List.range.loop, List.getElem?_toArray, List.getElem?_cons_succ, List.getElem?_cons_zero, ↓reduceIte, Nat.reduceAdd, Nat.reduceLT, Nat.reduceEqDiff, Nat.zero_add, Bool.not_true, decide_true, gl0, Try.sz27, Try.ag27]
  refine Does.ret hκ.hP hκ.hgl (c2) ⟨trivial, by simp [SV.bnd, SV.bndL], by first | (simp [SV.bnd, SV.bndL]; done) | assumption⟩ ?_
  cases h2 : rightM (t, l)
  · have e1 : addE ms en (t, l) = 2 := by rw [addE, if_pos h1, if_neg (fun h => by rw [h2] at h; cases h.1)]
    rw [e1, if_neg (by decide)] at hκ
    refine hκ.run 300 ?_
    simp (disch := omega) only [sBuild0, exec_succ, runR_next, runR_need, runR_fork_true, runR_guard_tf, runR_stop, stepS, runOp, guardS, condS, toSR, sop, rOf, sPick, sLoad, sStoreIn, sStore, sBin, sUn, sFieldAddr, fillS, evps, sBuild, ev, svs, Env.get, Heap.get, Heap.set, over, paste, cellsS, one, ones, setO, Value.oneCell', OutOK_need, OutOK_stop, undefS, undef, List.size_toArray, List.length_cons, List.length_nil, List.range, List.range.loop, List.getElem?_toArray, List.getElem?_cons_succ, List.getElem?_cons_zero, List.map_cons, List.map_nil, Option.bind_some, ↓reduceIte, Nat.reduceAdd, Nat.reduceLT, Nat.reduceEqDiff, Nat.zero_add, Nat.add_zero, Nat.add_one_ne_zero, Bool.not_false, true_and, and_self, forall_const, gl0, Try.sz24, Try.ze24, Try.pl24, Try.ar24, Try.fd24f1, Try.fd27f0]
    refine hκ.ret _ _ _ _ _ _ trivial rfl ?_
    exact .ret (by simp [SV.bnd, SV.bndL])
  by_cases h3 : t < en
  · have e1 : addE ms en (t, l) = 2 := by rw [addE, if_pos h1, if_neg (fun h => by have := h.2; dsimp only at this; omega)]
    rw [e1, if_neg (by decide)] at hκ
    refine hκ.run 300 ?_
    simp (disch := omega) only [sBuild0, exec_succ, runR_next, runR_need, runR_fork_true, runR_guard_ff, runR_stop, stepS, runOp, guardS, condS, toSR, sop, rOf, sPick, sLoadIn, sLoad, sStoreIn, sStore, sInt, sBin, sUn, sFieldAddr, fillS, evps, sBuild, ev, svs, Env.get, Heap.get, Heap.set, takeN, cut, over, paste, aggOf, cellsS, one, ones, setO, Value.oneCell', OutOK_need, OutOK_stop, undefS, undef, List.size_toArray, List.length_cons, List.length_nil, List.range, List.range.loop, List.getElem?_toArray, List.getElem?_cons_succ, List.getElem?_cons_zero, List.map_cons, List.map_nil, Option.bind_some, ↓reduceIte, Nat.reduceAdd, Nat.reduceLT, Nat.reduceEqDiff, Nat.zero_add, Nat.add_zero, Nat.add_one_ne_zero, Bool.not_true, Bool.not_false, decide_true, true_and, and_self, forall_const, gl0, Try.sz2, Try.ag2, Try.sz24, Try.ze24, Try.pl24, Try.ar24, Try.fd24f1, Try.fd27f0, h3]
    refine hκ.ret _ _ _ _ _ _ trivial rfl ?_
    exact .ret (by simp [SV.bnd, SV.bndL])
  have e1 : addE ms en (t, l) = 0 := by rw [addE, if_pos h1, if_pos ⟨h2, by dsimp only; omega⟩]
  rw [e1, if_pos rfl] at hκ
  refine hκ.run 300 ?_
  simp (disch := omega) only [exec_succ, runR_next, runR_fork_false, runR_guard_ff, runR_call, stepS, runOp, guardS, condS, toSR, sop, rOf, sPick, sLoadIn, sLoad, sInt, sBin, sUn, sFieldAddr, ev, evs, Env.get, Heap.get, takeN, cut, aggOf, setO, OutOK_call, undefS, undef, List.size_toArray, List.length_cons, List.length_nil, List.range, List.range.loop, List.getElem?_toArray, List.getElem?_cons_succ, List.getElem?_cons_zero, Option.bind_some, ↓reduceIte, Nat.reduceAdd, Nat.reduceLT, Nat.reduceEqDiff, Nat.zero_add, Nat.add_zero, Nat.add_one_ne_zero, Bool.not_true, Bool.not_false, decide_false, and_self, gl0, Try.sz2, Try.ag2, Try.sz22, Try.ag22, Try.fd24f0, Try.fd24f1, Try.fd27f0, h3]
  refine Does.row hκ.hP hκ.hgl c3 ⟨trivial, by simp [SV.bnd, SV.bndL]⟩ fun cap hcap => ?_
  rw [List.length_map] at hcap ⊢
  refine hκ.runD 300 ?_
  simp (disch := omega) only [sBuiltin, runR_next, stepS, runOp, toSR, sop, rOf, sLen, ev, Env.get, setO, OutOK_stop, halt, isDraw, drawC, execD_succ, List.size_toArray, List.length_cons, List.length_nil, List.range, List.range.loop, List.getElem?_toArray, List.getElem?_cons_succ, List.getElem?_cons_zero, ↓reduceIte, Nat.reduceAdd, Nat.reduceLT, Nat.zero_add, gl0, Try.underlying22]
  have hkl := keepW_le ms t
  have em : ∀ k, List.take k (List.map eM ms) = List.map eM (List.take k ms) := fun k => List.map_take.symm
  apply Sat.join (α := Unit) (nx := 4) (dfs := []) (fun _ => True) (fun _ => ([(6, .sl 3 2 0 (keepW ms t) cap), (4, .ptr 2 0 0 0), (3, .ptr 1 0 0 0)], [(3, .row 2 cap 27 (ms.map eM)), (2, .own [.v (.slice none 0 0), I 0] 24), (1, .own [I t, Xs l] 27), (0, .own [Ms ms, I en] 24)]))
  · intro hj
    have hj := hj () trivial
    dsimp only at hj
    by_cases h0 : ms.length = 0
    · have e0 : ((0 : Int) < (ms.length : Int)) = False := by simp only [eq_iff_iff, iff_false]; omega
      have ek : keepW ms t = ms.length := by rw [keepW, if_neg (fun h => h.1 h0)]
      rw [ek] at hj
      refine hκ.draw (.q 0 (.q 1 (.q 2 (.q 3 (.q 4 (.q 5 (.q 6 (.q 7 (.q 8 (.q 9 (.q 10 (.q 11 (.q 12 (.fin)))))))))))))) [0, 1, 2, 3, 4, 5, 6, 7, 8, 9, 10, 11, 12] (by kernel_rfl) (by kernel_rfl) rfl ?_
      simp (disch := omega) only [sop, rOf, sPick, sInt, sBin, ev, Env.get, setO, drawP_fin, drawP_q, dq, dqn, GF.ft, guardP, R1Q, dstOK, undefS, undef, List.getElem?_toArray, List.getElem?_cons_succ, List.getElem?_cons_zero, Option.bind_some, ↓reduceIte, Nat.reduceLT, Nat.reduceEqDiff, decide_false, true_and, gl0, e0]
      refine hκ.runA 9 300 ?_
      simp (disch := omega) only [runR_next, runR_fork_false, stepS, condS, ev, Env.get, OutOK_stop, halt, isAt, atC, execA_succ, ↓reduceIte, beq_self_eq_true, gl0]
      exact hj.less (by repeat' (first | exact EnvSub.nil _ | exact HeapSub.nil _ | refine EnvSub.cons rfl ?_ | refine HeapSub.cons rfl ?_ | (refine EnvSub.cons (by simp [Env.get]; done) ?_) | (refine HeapSub.cons (by simp [Heap.get]; done) ?_))) (by repeat' (first | exact EnvSub.nil _ | exact HeapSub.nil _ | refine EnvSub.cons rfl ?_ | refine HeapSub.cons rfl ?_ | (refine EnvSub.cons (by simp [Env.get]; done) ?_) | (refine HeapSub.cons (by simp [Heap.get]; done) ?_)))
    · have e0 : ((0 : Int) < (ms.length : Int)) = True := by simp only [eq_iff_iff, iff_true]; omega
      have en1 : (ms.length : Int) - 1 = ((ms.length - 1 : Nat) : Int) := by omega
      have gk : (List.map eM ms).getD (ms.length - 1) [] = eM (ms.getD (ms.length - 1) default) := getD_map _ _ _ (by omega)
      obtain ⟨f1, f2, f3⟩ := hf _ (getD_mem (show ms.length - 1 < ms.length by omega))
      by_cases e5 : aW ms (ms.length - 1) = t
      · have ek : keepW ms t = ms.length - 1 := by rw [keepW, if_pos ⟨h0, e5⟩]
        rw [ek] at hj
        have e5t : ((ms.getD (ms.length - 1) default).1 = t) = True := by simp only [eq_iff_iff, iff_true]; exact e5
        refine hκ.draw (.q 0 (.q 1 (.q 2 (.q 3 (.q 4 (.q 5 (.q 6 (.q 7 (.q 8 (.q 9 (.q 10 (.q 11 (.q 12 (.fin)))))))))))))) [0, 1, 2, 3, 4, 5, 6, 7, 8, 9, 10, 11, 12] (by kernel_rfl) (by kernel_rfl) rfl ?_
        simp (disch := omega) only [sop, rOf, sPick, sLoadIn, sLoad, sInt, sBin, sFieldAddr, sIndexAddr, elemT, obind, ev, Env.get, Heap.get, takeN, cut, aggOf, setO, drawP_fin, drawP_q, dq, dqn, GF.tt, guardP, R1Q, dstOK, List.length_map, List.getElem?_toArray, List.getElem?_cons_succ, List.getElem?_cons_zero, Option.bind_some, ↓reduceIte, Nat.reduceLT, Nat.reduceEqDiff, Nat.zero_add, Nat.add_zero, Nat.add_one_ne_zero, Int.toNat_natCast, decide_true, true_and, wrap_i64, gl0, Try.sz2, Try.ag2, Try.underlying22, Try.sz27, Try.fd27f0, e0, en1, gk, e5t, eM]
        (repeat (refine ⟨by first | omega | (refine ⟨?_, ?_⟩ <;> omega) | trivial | (simp; done) | decide +kernel, fun _ => ?_⟩))
        refine hκ.runA 9 300 ?_
        simp (disch := omega) only [runR_next, runR_need, runR_fork_true, stepS, runOp, condS, toSR, sop, rOf, sInt, sBin, optI, sSlice, elemT, obind, ev, Env.get, OutOK_need, OutOK_stop, halt, isAt, atC, execA_succ, Bool.false_eq_true, List.size_toArray, List.length_cons, List.length_nil, List.range, List.range.loop, List.getElem?_toArray, List.getElem?_cons_succ, List.getElem?_cons_zero, Option.map_some, Option.map_none, Option.getD_some, Option.getD_none, Option.isSome_some, Option.isSome_none, ↓reduceIte, Nat.reduceAdd, Nat.reduceLT, Nat.reduceEqDiff, Nat.zero_add, Nat.add_zero, Nat.sub_zero, Nat.reduceBEq, Int.reduceToNat, Int.reduceLE, Int.toNat_natCast, beq_self_eq_true, and_true, true_and, implies_true, wrap_i64, gl0, Try.underlying22, Try.sz27, en1]
        (repeat (refine ⟨by first | omega | (refine ⟨?_, ?_⟩ <;> omega) | trivial | (simp; done) | decide +kernel, fun _ => ?_⟩))
        exact hj.less (by repeat' (first | exact EnvSub.nil _ | exact HeapSub.nil _ | refine EnvSub.cons rfl ?_ | refine HeapSub.cons rfl ?_ | (refine EnvSub.cons (by simp [Env.get]; done) ?_) | (refine HeapSub.cons (by simp [Heap.get]; done) ?_))) (by repeat' (first | exact EnvSub.nil _ | exact HeapSub.nil _ | refine EnvSub.cons rfl ?_ | refine HeapSub.cons rfl ?_ | (refine EnvSub.cons (by simp [Env.get]; done) ?_) | (refine HeapSub.cons (by simp [Heap.get]; done) ?_)))
      · have ek : keepW ms t = ms.length := by rw [keepW, if_neg (fun h => e5 h.2)]
        rw [ek] at hj
        refine hκ.draw (.q 0 (.q 1 (.q 2 (.q 3 (.q 4 (.q 5 (.q 6 (.q 7 (.q 8 (.q 9 (.q 10 (.q 11 (.q 12 (.fin)))))))))))))) [0, 1, 2, 3, 4, 5, 6, 7, 8, 9, 10, 11, 12] (by kernel_rfl) (by kernel_rfl) rfl ?_
        simp (disch := omega) only [sop, rOf, sPick, sLoadIn, sLoad, sInt, sBin, sFieldAddr, sIndexAddr, elemT, obind, ev, Env.get, Heap.get, takeN, cut, aggOf, setO, drawP_fin, drawP_q, dq, dqn, GF.tt, guardP, R1Q, dstOK, List.length_map, List.getElem?_toArray, List.getElem?_cons_succ, List.getElem?_cons_zero, Option.bind_some, ↓reduceIte, Nat.reduceLT, Nat.reduceEqDiff, Nat.zero_add, Nat.add_zero, Nat.add_one_ne_zero, Int.toNat_natCast, decide_true, decide_false, true_and, wrap_i64, gl0, Try.sz2, Try.ag2, Try.underlying22, Try.sz27, Try.fd27f0, e0, en1, gk, e5, eM]
        (repeat (refine ⟨by first | omega | (refine ⟨?_, ?_⟩ <;> omega) | trivial | (simp; done) | decide +kernel, fun _ => ?_⟩))
        refine hκ.runA 9 300 ?_
        simp (disch := omega) only [runR_next, runR_fork_false, stepS, condS, ev, Env.get, OutOK_stop, halt, isAt, atC, execA_succ, ↓reduceIte, beq_self_eq_true, gl0]
        exact hj.less (by repeat' (first | exact EnvSub.nil _ | exact HeapSub.nil _ | refine EnvSub.cons rfl ?_ | refine HeapSub.cons rfl ?_ | (refine EnvSub.cons (by simp [Env.get]; done) ?_) | (refine HeapSub.cons (by simp [Heap.get]; done) ?_))) (by repeat' (first | exact EnvSub.nil _ | exact HeapSub.nil _ | refine EnvSub.cons rfl ?_ | refine HeapSub.cons rfl ?_ | (refine EnvSub.cons (by simp [Env.get]; done) ?_) | (refine HeapSub.cons (by simp [Heap.get]; done) ?_)))
  intro _ _
  have ea : addW ms (t, l) = ms.take (keepW ms t) ++ [(t, l)] := rfl
  rw [ea] at hκ
  generalize keepW ms t = k at hkl hκ ⊢
  have e9 : List.take (k + 1) (List.map eM (List.take k ms) ++ [[I t, Xs l]]) = List.map eM (ms.take k ++ [(t, l)]) := by rw [List.take_of_length_le (by simp; omega), List.map_append]; rfl
  have el : (List.take k ms).length = k := by simp; omega
  have e4 : ((k : Int) = 2000) = False := by first | (simp only [eq_iff_iff, iff_false]; first | assumption | omega) | (simp; omega)
  refine hκ.runD 300 ?_
  simp (disch := omega) only [sBuiltin, runR_next, runR_fork_false, stepS, runOp, condS, toSR, sop, rOf, sInt, sBin, sLen, ev, Env.get, OutOK_stop, halt, isDraw, drawC, execD_succ, List.size_toArray, List.length_cons, List.length_nil, List.range, List.range.loop, List.getElem?_toArray, List.getElem?_cons_succ, List.getElem?_cons_zero, ↓reduceIte, Nat.reduceAdd, Nat.reduceLT, Nat.zero_add, decide_false, gl0, Try.underlying22, e4]
  refine hκ.draw (.q 0 (.q 1 (.q 4 (.q 5 (.l 2 [5] (.l 3 [1, 5] (.q 6 (.l 7 [] (.q 8 (.fin)))))))))) [0, 1, 4, 5, 6, 8] (by kernel_rfl) (by kernel_rfl) rfl ?_
  simp (disch := omega) only [sBuild0, sBuiltin, srcS, appArgS, sAppendTo, sAppend, sop, rOf, rNew, isArr, sLoadIn, sLoad, sStoreIn, sStore, sFieldAddr, sliceT, obind, fillS, evps, sBuild, repeatL, sBuildSlice, chunk, ev, svs, Env.get, Heap.get, Heap.set, Heap.drop, takeN, cut, over, paste, aggOf, cellsS, one, ones, idFree, idFrees, setO, Value.cells, Value.oneCell', drawP_fin, drawP_q, drawP_l, dnext, dq, dqn, dl, slotR, ag, guardP, R1Q, dstOK, loudP, again, again1, slotIs, R1OK, undefS, undef, Bool.and_true, List.drop_zero, List.take_succ_cons, List.take_nil, List.length_cons, List.length_nil, List.length_map, List.range, List.range.loop, List.getElem?_toArray, List.getElem?_cons_succ, List.getElem?_cons_zero, List.map_cons, List.map_nil, List.append_nil, List.toList_toArray, ↓reduceIte, Nat.reduceAdd, Nat.reduceLT, Nat.reduceLeDiff, Nat.reduceEqDiff, Nat.zero_add, Nat.add_zero, Nat.zero_mul, Nat.one_mul, Nat.add_one_ne_zero, ne_eq, not_false_eq_true, true_and, and_self, forall_const, reduceCtorEq, gl0, Try.sz2, Try.ag2, Try.underlying22, Try.sz24, Try.ze24, Try.pl24, Try.ar24, Try.sz27, Try.ag27, Try.ze27, Try.by27, Try.fd27f0]
  (repeat (refine ⟨by first | omega | (refine ⟨?_, ?_⟩ <;> omega) | trivial | (simp; done) | decide +kernel, fun _ => ?_⟩))
  intro c
  rw [em]
  refine Sat.frzOwn [5] 2 _ _ rfl (by decide) (by first | (simp [lendPL, lendP, lendSlP, Heap.get]; done) | (simp only [lendPL, lendP, lendSlP, Heap.get, List.mem_singleton, List.mem_cons, List.not_mem_nil, or_false, or_true, true_or, Nat.reduceEqDiff, Nat.one_ne_zero, Nat.zero_ne_one, ↓reduceIte, and_true, true_and, List.length_map, List.length_append, List.length_cons, List.length_nil, List.length_replicate]; omega)) ?_
  simp only [lendL, lendS, lendSl, Heap.get, without, List.mem_singleton, List.mem_cons, List.not_mem_nil, or_false, or_true, true_or, List.drop_zero, List.take_length, List.take_succ_cons, List.take_zero, Nat.reduceAdd, Nat.reduceEqDiff, Nat.one_ne_zero, Nat.zero_ne_one, ↓reduceIte]
  simp only [Heap.set, Nat.reduceEqDiff, ↓reduceIte, e9]
  refine hκ.run 300 ?_
  simp (disch := omega) only [exec_succ, runR_stop, stepS, OutOK_stop, gl0]
  refine hκ.ret _ _ _ _ _ _ trivial rfl ?_
  exact .ret (by simp [SV.bnd, SV.bndL])
end Go.Proofs.Ytbjhphjpdeblnaa

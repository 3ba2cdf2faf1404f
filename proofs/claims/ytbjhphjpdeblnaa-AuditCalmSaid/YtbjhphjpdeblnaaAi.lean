/- Watches: how long a vCPU was somewhere. No condition. -/
import Derived.Test.YtbjhphjpdeblnaaAh
namespace Go.Proofs.Ytbjhphjpdeblnaa
open Go Go.Sy
set_option maxRecDepth 100000
set_option linter.unusedSimpArgs false
set_option linter.unusedVariables false

theorem WT.until {ms : List Mo} {en : Int} (h : WT ms en) {k : Nat} (hk : k < ms.length) : aW ms k ≤ untilW ms en k ∧ untilW ms en k ≤ en ∧ 0 ≤ aW ms k := by
  have h0 := (rightM_at (h.mom k hk)).1
  unfold untilW
  split
  · rename_i e
    have := h.inc k e
    have := h.atE (k + 1) e
    exact ⟨by omega, by omega, h0⟩
  · exact ⟨h.atE k hk, Int.le_refl _, h0⟩
/-- How much of one time lies in another one. -/
def cutI (a u from' to : Int) : Int := if min u to - max a from' < 0 then 0 else min u to - max a from'
theorem cutI_cases (a u f t : Int) : (cutI a u f t = 0 ∧ min u t ≤ max a f) ∨ (cutI a u f t = min u t - max a f ∧ max a f ≤ min u t) := by
  unfold cutI
  by_cases h : min u t - max a f < 0
  · rw [if_pos h]; left; omega
  · rw [if_neg h]; right; omega
theorem cutI_bd {a u from' to : Int} (h1 : 0 ≤ a) (h2 : u ≤ 1125899906842624) : 0 ≤ cutI a u from' to ∧ cutI a u from' to ≤ 1125899906842624 := by
  unfold cutI; split <;> omega
/-- Is one somewhere? -/
def runB (l : List Se) (v : Int) : Bool := ((findX l v).map fun x => decide (-1 < x.c)).getD false
def ranK (ms : List Mo) (en v f t : Int) : Nat → Int
  | 0 => 0
  | k + 1 => ranK ms en v f t k + if runB (ms.getD k default).2 v = true then cutI (aW ms k) (untilW ms en k) f t else 0
theorem ranK_bd {ms : List Mo} {en : Int} (h : WT ms en) (v f t : Int) : ∀ k, k ≤ ms.length → 0 ≤ ranK ms en v f t k ∧ ranK ms en v f t k ≤ k * 1125899906842624
  | 0, _ => by simp [ranK]
  | k + 1, hk => by
    have ih := ranK_bd h v f t k (by omega)
    have := h.until (k := k) (by omega)
    have h1 := cutI_bd (from' := f) (to := t) this.2.2 (show untilW ms en k ≤ 1125899906842624 by have := h.en1; omega)
    rw [ranK]
    split <;> omega
def ranE (ms : List Mo) (en f t : Int) : Int := if rightW ms en = true then (if 0 ≤ f ∧ t ≤ 1125899906842624 ∧ f ≤ t then 0 else 2) else 390
theorem eX_cl (x : Se) (b : Bool) : SV.closed (.tup [.agg (eX x), Bo b]) := by simp [SV.bnd, SV.bndL, eX]
theorem ran_ok (ms : List Mo) (en v f t : Int) (hf : ∀ m ∈ ms, inM m) (he : i64 en) (hv : i64 v) (hff : i64 f) (htt : i64 t) (hn : ms.length < 2 ^ 40) : Con Try.prog gl0 (fnv 16) [Wt ms en, I v, I f, I t] 0 [] (Ret (.tup [I (if ranE ms en f t = 0 then ranK ms en v f t ms.length else 0), I (ranE ms en f t)])) := by
  have c1 := wcheck_ok ms en hf he hn
  refine Con.of Try.ok16 (nt := 60) (res := [.tmp 8, .tmp 9]) Try.mixed Try.func16 rfl rfl rfl rfl fun κ xc hκ => hκ.run 300 ?_
  simp (disch := omega) only [exec_succ, runR_next, runR_call, stepS, runOp, toSR, sop, rOf, rNew, sBox, isArr, sLoadIn, sLoad, ev, evs, svs, Env.get, Heap.get, takeN, cut, aggOf, cellsS, envOf, Value.cells, OutOK_call, Bool.false_eq_true, List.size_toArray, List.length_cons, List.length_nil, List.range, List.range.loop, List.getElem?_toArray, List.getElem?_cons_succ, List.getElem?_cons_zero, List.map_cons, List.map_nil, List.toList_toArray, ↓reduceIte, Nat.reduceAdd, Nat.reduceLT, Nat.reduceEqDiff, Nat.zero_add, Nat.add_one_ne_zero, Int.reduceNeg, reduceCtorEq, gl0, Try.sz24, Try.ag24]
  by_cases q1 : rightW ms en = true
  case neg =>
    rw [if_neg q1] at c1
    have e1 : ranE ms en f t = 390 := by rw [ranE, if_neg q1]
    rw [e1, if_neg (by decide)] at hκ
    refine Does.ret hκ.hP hκ.hgl (c1) ⟨trivial, by simp [SV.bnd, SV.bndL], by first | (simp [SV.bnd, SV.bndL]; done) | assumption⟩ ?_
    refine hκ.run 300 ?_
    simp (disch := omega) only [exec_succ, runR_next, runR_fork_true, runR_stop, stepS, runOp, condS, toSR, sop, rOf, sInt, sBin, ev, Env.get, setO, OutOK_stop, List.size_toArray, List.length_cons, List.length_nil, List.range, List.range.loop, List.getElem?_toArray, List.getElem?_cons_succ, List.getElem?_cons_zero, ↓reduceIte, Nat.reduceAdd, Nat.reduceLT, Nat.zero_add, Int.reduceEq, Int.reduceNeg, Bool.not_false, decide_false, gl0]
    refine hκ.ret _ _ _ _ _ _ trivial rfl ?_
    exact .ret (by simp [SV.bnd, SV.bndL])
  rw [if_pos q1] at c1
  refine Does.ret hκ.hP hκ.hgl (c1) ⟨trivial, by simp [SV.bnd, SV.bndL], by first | (simp [SV.bnd, SV.bndL]; done) | assumption⟩ ?_
  by_cases q2 : f < 0
  · have e1 : ranE ms en f t = 2 := by rw [ranE, if_pos q1, if_neg (fun h => by omega)]
    rw [e1, if_neg (by decide)] at hκ
    refine hκ.run 300 ?_
    simp (disch := omega) only [exec_succ, runR_next, runR_fork_true, runR_fork_false, runR_guard_tf, runR_stop, stepS, runOp, guardS, condS, toSR, sop, rOf, sPick, sLoadIn, sLoad, sInt, sBin, ev, Env.get, Heap.get, takeN, cut, aggOf, setO, OutOK_stop, undefS, undef, List.size_toArray, List.length_cons, List.length_nil, List.range, List.range.loop, List.getElem?_toArray, List.getElem?_cons_succ, List.getElem?_cons_zero, Option.bind_some, ↓reduceIte, Nat.reduceAdd, Nat.reduceLT, Nat.reduceEqDiff, Nat.zero_add, Int.reduceNeg, Bool.not_true, Bool.not_false, decide_true, and_self, gl0, Try.sz2, Try.ag2, q2]
    refine hκ.ret _ _ _ _ _ _ trivial rfl ?_
    exact .ret (by simp [SV.bnd, SV.bndL])
  by_cases q3 : (1125899906842624 : Int) < t
  · have e1 : ranE ms en f t = 2 := by rw [ranE, if_pos q1, if_neg (fun h => by omega)]
    rw [e1, if_neg (by decide)] at hκ
    refine hκ.run 300 ?_
    simp (disch := omega) only [exec_succ, runR_next, runR_fork_true, runR_fork_false, runR_guard_ff, runR_guard_tf, runR_stop, stepS, runOp, guardS, condS, toSR, sop, rOf, sPick, sLoadIn, sLoad, sInt, sBin, ev, Env.get, Heap.get, takeN, cut, aggOf, setO, OutOK_stop, undefS, undef, List.size_toArray, List.length_cons, List.length_nil, List.range, List.range.loop, List.getElem?_toArray, List.getElem?_cons_succ, List.getElem?_cons_zero, Option.bind_some, ↓reduceIte, Nat.reduceAdd, Nat.reduceLT, Nat.reduceEqDiff, Nat.zero_add, Int.reduceNeg, Bool.not_true, Bool.not_false, decide_true, decide_false, and_self, gl0, Try.sz2, Try.ag2, q2, q3]
    refine hκ.ret _ _ _ _ _ _ trivial rfl ?_
    exact .ret (by simp [SV.bnd, SV.bndL])
  by_cases q4 : t < f
  · have e1 : ranE ms en f t = 2 := by rw [ranE, if_pos q1, if_neg (fun h => by omega)]
    rw [e1, if_neg (by decide)] at hκ
    refine hκ.run 300 ?_
    simp (disch := omega) only [exec_succ, runR_next, runR_fork_true, runR_fork_false, runR_guard_ff, runR_stop, stepS, runOp, guardS, condS, toSR, sop, rOf, sPick, sLoadIn, sLoad, sInt, sBin, ev, Env.get, Heap.get, takeN, cut, aggOf, setO, OutOK_stop, undefS, undef, List.size_toArray, List.length_cons, List.length_nil, List.range, List.range.loop, List.getElem?_toArray, List.getElem?_cons_succ, List.getElem?_cons_zero, Option.bind_some, ↓reduceIte, Nat.reduceAdd, Nat.reduceLT, Nat.reduceEqDiff, Nat.zero_add, Int.reduceNeg, Bool.not_true, Bool.not_false, decide_true, decide_false, and_self, gl0, Try.sz2, Try.ag2, q2, q3, q4]
    refine hκ.ret _ _ _ _ _ _ trivial rfl ?_
    exact .ret (by simp [SV.bnd, SV.bndL])
  have e1 : ranE ms en f t = 0 := by rw [ranE, if_pos q1, if_pos (by omega)]
  rw [e1, if_pos rfl] at hκ
  have hwt := (WT.iff ms en).1 q1
  have hlen := hwt.len
  have hen := hwt.en1
  refine hκ.run 300 ?_
  simp (disch := omega) only [exec_succ, runR_next, runR_need, runR_fork_false, runR_guard_ff, runR_call, stepS, runOp, guardS, condS, toSR, sop, rOf, rNew, sPick, sAlloc, sAlloc0, sLoadIn, sLoad, sStoreIn, sStore, sInt, sBin, ev, evs, svs, Env.get, Heap.get, Heap.set, takeN, cut, over, paste, aggOf, cellsS, one, ones, setO, Value.cells, Value.oneCell', OutOK_need, OutOK_call, undefS, undef, List.size_toArray, List.length_cons, List.length_nil, List.range, List.range.loop, List.getElem?_toArray, List.getElem?_cons_succ, List.getElem?_cons_zero, List.map_cons, List.map_nil, Option.bind_some, List.toList_toArray, ↓reduceIte, Nat.reduceAdd, Nat.reduceLT, Nat.reduceEqDiff, Nat.zero_add, Nat.add_one_ne_zero, Int.reduceNeg, Bool.not_true, Bool.not_false, decide_true, decide_false, true_and, and_self, forall_const, gl0, Try.sz2, Try.ag2, Try.ze2, Try.ar2, Try.sz24, Try.ag24, q2, q3, q4]
  refine Does.inl hκ.hP hκ.hgl Try.ok28 (nt := 4) (res := [.tmp 2]) Try.mixed Try.func28 rfl rfl rfl rfl fun κ_h2 x_h2 h2 => h2.run 300 ?_
  simp (disch := omega) only [exec_succ, runR_next, runR_stop, stepS, runOp, toSR, sop, rOf, rNew, sBox, isArr, sMakeFunc, ev, evs, Env.get, cellsS, envOf, OutOK_stop, Bool.false_eq_true, List.size_toArray, List.length_cons, List.length_nil, List.range, List.range.loop, List.getElem?_toArray, List.getElem?_cons_succ, List.getElem?_cons_zero, ↓reduceIte, Nat.reduceAdd, Nat.reduceLT, Nat.reduceEqDiff, Nat.zero_add, gl0]
  refine h2.ret _ _ _ _ _ _ trivial rfl ?_
  refine hκ.run 300 ?_
  simp (disch := omega) only [exec_succ, runR_next, runR_stop, stepS, setO, OutOK_stop, dropL, resV, Int.reduceNeg, gl0]
  refine hκ.rangeL rfl fun L l1 l2 l3 l4 l5 l6 => ?_
  refine Does.inlc rfl hκ.hgl Try.ok55 (nt := 24) (res := []) Try.mixed Try.func55 rfl rfl rfl rfl fun κ_h4 x_h4 h4 => h4.run 300 ?_
  simp (disch := omega) only [sBuiltin, exec_succ, runR_next, runR_stop, stepS, runOp, toSR, sop, rOf, sLoadIn, sLoad, sFieldAddr, sLen, ev, Env.get, Heap.get, takeN, cut, aggOf, envOf, OutOK_stop, List.size_toArray, List.length_cons, List.length_nil, List.length_map, List.range, List.range.loop, List.getElem?_toArray, List.getElem?_cons_succ, List.getElem?_cons_zero, List.cons_append, List.nil_append, ↓reduceIte, Nat.reduceAdd, Nat.reduceLT, Nat.reduceEqDiff, Nat.zero_add, Nat.add_zero, Nat.add_one_ne_zero, reduceCtorEq, gl0, Try.underlying22, Try.sz22, Try.ag22, Try.fd24f0]
  refine Sat.less (Sat.loop (γ := Nat) (fun k => ([(8, I k), (7, I ms.length), (6, Ms ms), (0, .yl 7), (1, .ptr 5 0 0 0)], [(7, L.blk .ready none), (6, .obj (.deferred (some []))), (5, .own [Ms ms, I en] 24), (4, .own [I (ranK ms en v f t k)] 2), (3, .own [I t] 2), (2, .own [I f] 2), (1, .own [I v] 3)], 8)) (fun k => ms.length - k) (fun k => k ≤ ms.length) ?round 0 (Nat.zero_le _)) (by repeat' (first | exact EnvSub.nil _ | exact HeapSub.nil _ | refine EnvSub.cons rfl ?_ | refine HeapSub.cons rfl ?_ | (refine EnvSub.cons (by simp [Env.get]; done) ?_) | (refine HeapSub.cons (by simp [Heap.get]; done) ?_))) (by repeat' (first | exact EnvSub.nil _ | exact HeapSub.nil _ | refine EnvSub.cons rfl ?_ | refine HeapSub.cons rfl ?_ | (refine EnvSub.cons (by simp [Env.get]; done) ?_) | (refine HeapSub.cons (by simp [Heap.get]; done) ?_)))
  case round =>
    intro k hk ih
    dsimp only at ih ⊢
    refine h4.runA 3 300 ?_
    simp (disch := omega) only [runR_next, stepS, runOp, condS, toSR, sop, sInt, sBin, ev, Env.get, halt, isAt, atC, execA_succ, List.size_toArray, List.length_cons, List.length_nil, List.range, List.range.loop, List.getElem?_toArray, List.getElem?_cons_zero, ↓reduceIte, Nat.reduceLT, Nat.reduceEqDiff, Nat.zero_add, Nat.reduceBEq, gl0]
    refine OutOK_fork (fun h => ?_) (fun h => ?_) <;> try simp only [Bool.not_true, Bool.not_false, decide_eq_true_eq, decide_eq_false_iff_not, Bool.not_eq_true', Bool.not_eq_false', Bool.and_eq_true, Bool.or_eq_false_iff, Bool.or_eq_true, Bool.and_eq_false_iff] at h
    · have hmem := getD_mem (show k < ms.length by omega)
      have hm := hf _ hmem
      have hz := ih (k + 1) (by omega) (by omega)
      have hub := hwt.until (k := k) (by omega)
      have hlb := ranK_bd hwt v f t k hk
      have c4 := until_ok ms en k hf (by omega) (by omega)
      have c5 := find_ok _ v hm hv
      have hcl := eX_cl ((findX (ms.getD k default).2 v).getD default) (findX (ms.getD k default).2 v).isSome
      rw [ranK, runB] at hz
      generalize ranK ms en v f t k = n at hz hlb ⊢
      obtain ⟨⟨a, l⟩, hmm⟩ : ∃ m : Mo, ms.getD k default = m := ⟨_, rfl⟩
      simp only [aW, hmm] at hm hz hub c5 hcl
      generalize untilW ms en k = u at hz hub c4
      have gk0 : (List.map eM ms).getD k [] = eM (a, l) := by rw [← hmm]; exact getD_map _ _ _ (by omega)
      simp (disch := omega) only [runR_next, runR_need, stepS, runOp, toSR, sop, rOf, rNew, sAlloc, sAlloc0, sLoad, sStoreIn, sStore, sIndexAddr, elemT, obind, ev, svs, Env.get, Heap.get, Heap.set, takeN, cut, over, paste, aggOf, cellsS, one, ones, Value.oneCell', OutOK_need, OutOK_stop, undefS, undef, halt, isAt, atC, execA_succ, List.size_toArray, List.length_cons, List.length_nil, List.length_map, List.range, List.range.loop, List.getElem?_toArray, List.getElem?_cons_succ, List.getElem?_cons_zero, List.map_cons, List.map_nil, ↓reduceIte, Nat.reduceAdd, Nat.reduceLT, Nat.reduceEqDiff, Nat.zero_add, Nat.reduceBEq, Int.toNat_natCast, beq_self_eq_true, true_and, and_self, forall_const, Try.underlying22, Try.sz27, Try.ag27, Try.ze27, Try.ar27, eM, gk0]
      (repeat (refine ⟨by first | omega | (refine ⟨?_, ?_⟩ <;> omega) | trivial | (simp; done) | decide +kernel, fun _ => ?_⟩))
      refine h4.draw (.q 0 (.q 1 (.q 2 (.q 3 (.q 4 (.q 5 (.l 6 [1, 3] (.q 7 (.l 8 [3, 4] (.q 9 (.fin))))))))))) [0, 1, 2, 3, 4, 5, 7, 9] (by kernel_rfl) (by kernel_rfl) rfl ?_
      simp (disch := omega) only [sop, rOf, sLoadIn, sLoad, sFieldAddr, ev, evs, Env.get, Heap.get, takeN, cut, aggOf, setO, drawP_q, drawP_l, dq, dqn, dl, guardP, R1Q, dstOK, loudP, List.getElem?_toArray, List.getElem?_cons_succ, List.getElem?_cons_zero, ↓reduceIte, Nat.reduceLT, Nat.reduceEqDiff, Nat.add_zero, Nat.add_one_ne_zero, true_and, reduceCtorEq, gl0, Try.sz2, Try.ag2, Try.sz24, Try.ag24, Try.sz27, Try.ag27, Try.fd27f0]
      refine DCall.of (Does.ret h4.hP h4.hgl (c4) ⟨trivial, by simp [SV.bnd, SV.bndL], by first | (simp [SV.bnd, SV.bndL]; done) | assumption⟩ ?_)
      simp (disch := omega) only [sBuild0, sop, rOf, isArr, sLoadIn, sLoad, fillS, evps, sBuild, ev, evs, svs, Env.get, Heap.get, takeN, cut, over, paste, aggOf, cellsS, setO, Value.cells, drawP_q, drawP_l, dnext, dq, dqn, dl, slotR, ag, guardP, R1Q, dstOK, loudP, again, again1, slotIs, R1OK, List.length_cons, List.length_nil, List.getElem?_toArray, List.getElem?_cons_succ, List.getElem?_cons_zero, List.map_cons, List.map_nil, List.toList_toArray, ↓reduceIte, Nat.reduceLT, Nat.reduceEqDiff, Nat.zero_add, true_and, and_self, Try.sz2, Try.ag2, Try.sz27, Try.ag27, Try.ze46, Try.pl46, Try.ar46]
      cases hx : findX l v with
      | none =>
        rw [hx] at c5 hz hcl
        simp only [Option.getD_none, Option.isSome_none, Option.map_none, Bool.false_eq_true, if_false, Int.add_zero] at c5 hz hcl
        refine DCall.of (Does.roundL h4.hP h4.hgl Try.mixed (L := L) rfl l1 l2 l3 l4 l5 rfl rfl fun κ_h5 x_h5 h5 => ?_)
        simp only [bindP]
        refine h5.run 300 ?_
        simp (disch := omega) only [exec_succ, runR_next, runR_need, runR_stop, stepS, runOp, toSR, sop, rNew, sAlloc, sAlloc0, sStoreIn, sStore, ev, svs, Env.get, Heap.get, Heap.set, over, paste, cellsS, one, ones, Value.oneCell', OutOK_need, OutOK_stop, undefS, undef, List.size_toArray, List.length_cons, List.length_nil, List.range, List.range.loop, List.getElem?_toArray, List.getElem?_cons_succ, List.getElem?_cons_zero, List.map_cons, List.map_nil, ↓reduceIte, Nat.reduceAdd, Nat.reduceLT, Nat.reduceEqDiff, Nat.zero_add, Int.reduceNeg, true_and, and_self, forall_const, gl0, Try.sz27, Try.ze27, Try.ar27, Try.sz46, Try.ze46, Try.ar46]
        refine h5.beg rfl ?_
        simp only [Heap.set, Nat.reduceEqDiff, ↓reduceIte]
        refine h5.run 300 ?_
        simp (disch := omega) only [exec_succ, runR_next, runR_call, stepS, runOp, toSR, sop, rOf, sLoadIn, sLoad, ev, evs, Env.get, Heap.get, takeN, cut, aggOf, OutOK_call, List.size_toArray, List.length_cons, List.length_nil, List.range, List.range.loop, List.getElem?_toArray, List.getElem?_cons_succ, List.getElem?_cons_zero, ↓reduceIte, Nat.reduceAdd, Nat.reduceLT, Nat.reduceEqDiff, Nat.zero_add, Int.reduceNeg, gl0, Try.sz3, Try.ag3, Try.sz27, Try.ag27]
        refine Does.ret h5.hP h5.hgl (c5) ⟨trivial, by simp [SV.bnd, SV.bndL], by first | (simp [SV.bnd, SV.bndL]; done) | assumption⟩ ?_
        refine h5.run 300 ?_
        simp (disch := omega) only [exec_succ, runR_next, runR_need, runR_fork_false, runR_guard_ft, runR_stop, stepS, runOp, guardS, condS, toSR, sop, rOf, rNew, sPick, sAlloc, sAlloc0, sLoad, sStoreIn, sStore, sBin, sFieldAddr, sExtract, ev, svs, Env.get, Heap.get, Heap.set, over, paste, cellsS, one, ones, setO, Value.oneCell', OutOK_need, OutOK_stop, undefS, undef, List.size_toArray, List.length_cons, List.length_nil, List.range, List.range.loop, List.getElem?_toArray, List.getElem?_cons_succ, List.getElem?_cons_zero, List.map_cons, List.map_nil, Option.bind_some, ↓reduceIte, Nat.reduceAdd, Nat.reduceLT, Nat.reduceEqDiff, Nat.zero_add, Nat.add_one_ne_zero, Int.reduceNeg, Bool.not_true, true_and, and_self, forall_const, gl0, Try.sz65, Try.ze65, Try.ar65, Try.fd65f4, eX]
        refine h5.fin rfl ?_
        simp only [Heap.set, Nat.reduceEqDiff, ↓reduceIte]
        simp (disch := omega) only [sop, rOf, sLoadIn, sLoad, sUn, ev, Env.get, Heap.get, takeN, cut, aggOf, setO, drawP_fin, drawP_q, dnext, dq, dqn, slotR, ag, guardP, R1Q, dstOK, again, again1, slotIs, R1OK, List.getElem?_toArray, List.getElem?_cons_succ, List.getElem?_cons_zero, ↓reduceIte, Nat.reduceLT, Nat.reduceEqDiff, Bool.not_true, true_and, and_self, reduceCtorEq, Try.sz2, Try.ag2, Try.sz24, Try.ag24]
        refine h4.run 300 ?_
        simp (disch := omega) only [exec_succ, runR_next, runR_fork_false, runR_stop, stepS, runOp, condS, toSR, sop, rOf, sInt, sBin, ev, Env.get, OutOK_stop, List.size_toArray, List.length_cons, List.length_nil, List.range, List.range.loop, List.getElem?_toArray, List.getElem?_cons_succ, List.getElem?_cons_zero, ↓reduceIte, Nat.reduceAdd, Nat.reduceLT, Nat.reduceEqDiff, Nat.zero_add, wrap_i64, gl0]
        refine Sat.via (fun i => i) (hz) (by intro i j; (repeat (first | omega | split))) (by repeat' (first | exact EnvVia.nil | refine EnvVia.cons (by first | trivial | decide | (simp [SV.bnd, SV.bndL]; done)) rfl ?_)) (by repeat' (first | exact HeapVia.nil | refine HeapVia.cons (by decide) (by first | trivial | (simp [Blk.bnd, SV.bnd, SV.bndL]; done) | exact bndL_mapV _ _ _ | exact LR.bnd (by rw [l2]; simp [bndE, SV.bnd, SV.bndL]) (by rw [l6]; decide)) (by first | rfl | (simp only [Blk.ren, renL_mapV]; rfl) | (rw [LR.ren (by rw [l2] <;> rfl) (by rw [l6] <;> rfl)]; rfl)) ?_)) ⟨by have := h4.hm; (try dsimp only at this); (first | done | omega), fun i hi => by have := h4.hm; (try dsimp only at this); (first | omega | (dsimp only; omega) | (rw [if_neg (by omega)]))⟩ ⟨by simp, rfl⟩
      | some x =>
        rw [hx] at c5 hz hcl
        simp only [Option.getD_some, Option.isSome_some, Option.map_some, decide_eq_true_eq] at c5 hz hcl
        by_cases e3 : -1 < x.c
        · rw [if_pos e3] at hz
          have ec : n + max (min u t - max a f) 0 = n + cutI a u f t := by have := cutI_cases a u f t; omega
          refine DCall.of (Does.roundL h4.hP h4.hgl Try.mixed (L := L) rfl l1 l2 l3 l4 l5 rfl rfl fun κ_h5 x_h5 h5 => ?_)
          simp only [bindP]
          refine h5.run 300 ?_
          simp (disch := omega) only [exec_succ, runR_next, runR_need, runR_stop, stepS, runOp, toSR, sop, rNew, sAlloc, sAlloc0, sStoreIn, sStore, ev, svs, Env.get, Heap.get, Heap.set, over, paste, cellsS, one, ones, Value.oneCell', OutOK_need, OutOK_stop, undefS, undef, List.size_toArray, List.length_cons, List.length_nil, List.range, List.range.loop, List.getElem?_toArray, List.getElem?_cons_succ, List.getElem?_cons_zero, List.map_cons, List.map_nil, ↓reduceIte, Nat.reduceAdd, Nat.reduceLT, Nat.reduceEqDiff, Nat.zero_add, Int.reduceNeg, true_and, and_self, forall_const, gl0, Try.sz27, Try.ze27, Try.ar27, Try.sz46, Try.ze46, Try.ar46]
          refine h5.beg rfl ?_
          simp only [Heap.set, Nat.reduceEqDiff, ↓reduceIte]
          refine h5.run 300 ?_
          simp (disch := omega) only [exec_succ, runR_next, runR_call, stepS, runOp, toSR, sop, rOf, sLoadIn, sLoad, ev, evs, Env.get, Heap.get, takeN, cut, aggOf, OutOK_call, List.size_toArray, List.length_cons, List.length_nil, List.range, List.range.loop, List.getElem?_toArray, List.getElem?_cons_succ, List.getElem?_cons_zero, ↓reduceIte, Nat.reduceAdd, Nat.reduceLT, Nat.reduceEqDiff, Nat.zero_add, Int.reduceNeg, gl0, Try.sz3, Try.ag3, Try.sz27, Try.ag27]
          refine Does.ret h5.hP h5.hgl (c5) ⟨trivial, by simp [SV.bnd, SV.bndL], by first | (simp [SV.bnd, SV.bndL]; done) | assumption⟩ ?_
          refine h5.run 300 ?_
          simp (disch := omega) only [sBuiltin, sMinMax, exec_succ, runR_next, runR_need, runR_fork_true, runR_guard_tt, runR_stop, stepS, runOp, guardS, condS, toSR, sop, rOf, rNew, sPick, sAlloc, sAlloc0, sLoadIn, sLoad, sStoreIn, sStore, sInt, sBin, sFieldAddr, sExtract, ev, svs, Env.get, Heap.get, Heap.set, takeN, cut, over, paste, aggOf, cellsS, one, ones, setO, Value.cells, Value.oneCell', OutOK_need, OutOK_stop, undefS, undef, Bool.false_eq_true, List.size_toArray, List.length_cons, List.length_nil, List.range, List.range.loop, List.getElem?_toArray, List.getElem?_cons_succ, List.getElem?_cons_zero, List.map_cons, List.map_nil, Option.bind_some, List.toList_toArray, ↓reduceIte, Nat.reduceAdd, Nat.reduceLT, Nat.reduceEqDiff, Nat.zero_add, Nat.add_zero, Nat.add_one_ne_zero, Int.reduceNeg, Bool.not_true, decide_true, true_and, and_self, forall_const, wrap_i64, gl0, Try.sz2, Try.ag2, Try.sz3, Try.ag3, Try.fd46f0, Try.fd46f1, Try.sz65, Try.ze65, Try.ar65, Try.fd65f4, eX, e3]
          rw [ec]
          refine h5.fin rfl ?_
          simp only [Heap.set, Nat.reduceEqDiff, ↓reduceIte]
          simp (disch := omega) only [sop, rOf, sLoadIn, sLoad, sUn, ev, Env.get, Heap.get, takeN, cut, aggOf, setO, drawP_fin, drawP_q, dnext, dq, dqn, slotR, ag, guardP, R1Q, dstOK, again, again1, slotIs, R1OK, List.getElem?_toArray, List.getElem?_cons_succ, List.getElem?_cons_zero, ↓reduceIte, Nat.reduceLT, Nat.reduceEqDiff, Bool.not_true, true_and, and_self, reduceCtorEq, Try.sz2, Try.ag2, Try.sz24, Try.ag24]
          refine h4.run 300 ?_
          simp (disch := omega) only [exec_succ, runR_next, runR_fork_false, runR_stop, stepS, runOp, condS, toSR, sop, rOf, sInt, sBin, ev, Env.get, OutOK_stop, List.size_toArray, List.length_cons, List.length_nil, List.range, List.range.loop, List.getElem?_toArray, List.getElem?_cons_succ, List.getElem?_cons_zero, ↓reduceIte, Nat.reduceAdd, Nat.reduceLT, Nat.reduceEqDiff, Nat.zero_add, wrap_i64, gl0]
          refine Sat.via (fun i => i) (hz) (by intro i j; (repeat (first | omega | split))) (by repeat' (first | exact EnvVia.nil | refine EnvVia.cons (by first | trivial | decide | (simp [SV.bnd, SV.bndL]; done)) rfl ?_)) (by repeat' (first | exact HeapVia.nil | refine HeapVia.cons (by decide) (by first | trivial | (simp [Blk.bnd, SV.bnd, SV.bndL]; done) | exact bndL_mapV _ _ _ | exact LR.bnd (by rw [l2]; simp [bndE, SV.bnd, SV.bndL]) (by rw [l6]; decide)) (by first | rfl | (simp only [Blk.ren, renL_mapV]; rfl) | (rw [LR.ren (by rw [l2] <;> rfl) (by rw [l6] <;> rfl)]; rfl)) ?_)) ⟨by have := h4.hm; (try dsimp only at this); (first | done | omega), fun i hi => by have := h4.hm; (try dsimp only at this); (first | omega | (dsimp only; omega) | (rw [if_neg (by omega)]))⟩ ⟨by simp, rfl⟩
        · rw [if_neg e3, Int.add_zero] at hz
          refine DCall.of (Does.roundL h4.hP h4.hgl Try.mixed (L := L) rfl l1 l2 l3 l4 l5 rfl rfl fun κ_h5 x_h5 h5 => ?_)
          simp only [bindP]
          refine h5.run 300 ?_
          simp (disch := omega) only [exec_succ, runR_next, runR_need, runR_stop, stepS, runOp, toSR, sop, rNew, sAlloc, sAlloc0, sStoreIn, sStore, ev, svs, Env.get, Heap.get, Heap.set, over, paste, cellsS, one, ones, Value.oneCell', OutOK_need, OutOK_stop, undefS, undef, List.size_toArray, List.length_cons, List.length_nil, List.range, List.range.loop, List.getElem?_toArray, List.getElem?_cons_succ, List.getElem?_cons_zero, List.map_cons, List.map_nil, ↓reduceIte, Nat.reduceAdd, Nat.reduceLT, Nat.reduceEqDiff, Nat.zero_add, Int.reduceNeg, true_and, and_self, forall_const, gl0, Try.sz27, Try.ze27, Try.ar27, Try.sz46, Try.ze46, Try.ar46]
          refine h5.beg rfl ?_
          simp only [Heap.set, Nat.reduceEqDiff, ↓reduceIte]
          refine h5.run 300 ?_
          simp (disch := omega) only [exec_succ, runR_next, runR_call, stepS, runOp, toSR, sop, rOf, sLoadIn, sLoad, ev, evs, Env.get, Heap.get, takeN, cut, aggOf, OutOK_call, List.size_toArray, List.length_cons, List.length_nil, List.range, List.range.loop, List.getElem?_toArray, List.getElem?_cons_succ, List.getElem?_cons_zero, ↓reduceIte, Nat.reduceAdd, Nat.reduceLT, Nat.reduceEqDiff, Nat.zero_add, Int.reduceNeg, gl0, Try.sz3, Try.ag3, Try.sz27, Try.ag27]
          refine Does.ret h5.hP h5.hgl (c5) ⟨trivial, by simp [SV.bnd, SV.bndL], by first | (simp [SV.bnd, SV.bndL]; done) | assumption⟩ ?_
          refine h5.run 300 ?_
          simp (disch := omega) only [exec_succ, runR_next, runR_need, runR_fork_false, runR_guard_tt, runR_stop, stepS, runOp, guardS, condS, toSR, sop, rOf, rNew, sPick, sAlloc, sAlloc0, sLoadIn, sLoad, sStoreIn, sStore, sInt, sBin, sFieldAddr, sExtract, ev, svs, Env.get, Heap.get, Heap.set, takeN, cut, over, paste, aggOf, cellsS, one, ones, setO, Value.oneCell', OutOK_need, OutOK_stop, undefS, undef, List.size_toArray, List.length_cons, List.length_nil, List.range, List.range.loop, List.getElem?_toArray, List.getElem?_cons_succ, List.getElem?_cons_zero, List.map_cons, List.map_nil, Option.bind_some, ↓reduceIte, Nat.reduceAdd, Nat.reduceLT, Nat.reduceEqDiff, Nat.zero_add, Nat.add_one_ne_zero, Int.reduceNeg, Bool.not_true, decide_false, true_and, and_self, forall_const, gl0, Try.sz3, Try.ag3, Try.sz65, Try.ze65, Try.ar65, Try.fd65f4, eX, e3]
          refine h5.fin rfl ?_
          simp only [Heap.set, Nat.reduceEqDiff, ↓reduceIte]
          simp (disch := omega) only [sop, rOf, sLoadIn, sLoad, sUn, ev, Env.get, Heap.get, takeN, cut, aggOf, setO, drawP_fin, drawP_q, dnext, dq, dqn, slotR, ag, guardP, R1Q, dstOK, again, again1, slotIs, R1OK, List.getElem?_toArray, List.getElem?_cons_succ, List.getElem?_cons_zero, ↓reduceIte, Nat.reduceLT, Nat.reduceEqDiff, Bool.not_true, true_and, and_self, reduceCtorEq, Try.sz2, Try.ag2, Try.sz24, Try.ag24]
          refine h4.run 300 ?_
          simp (disch := omega) only [exec_succ, runR_next, runR_fork_false, runR_stop, stepS, runOp, condS, toSR, sop, rOf, sInt, sBin, ev, Env.get, OutOK_stop, List.size_toArray, List.length_cons, List.length_nil, List.range, List.range.loop, List.getElem?_toArray, List.getElem?_cons_succ, List.getElem?_cons_zero, ↓reduceIte, Nat.reduceAdd, Nat.reduceLT, Nat.reduceEqDiff, Nat.zero_add, wrap_i64, gl0]
          refine Sat.via (fun i => i) (hz) (by intro i j; (repeat (first | omega | split))) (by repeat' (first | exact EnvVia.nil | refine EnvVia.cons (by first | trivial | decide | (simp [SV.bnd, SV.bndL]; done)) rfl ?_)) (by repeat' (first | exact HeapVia.nil | refine HeapVia.cons (by decide) (by first | trivial | (simp [Blk.bnd, SV.bnd, SV.bndL]; done) | exact bndL_mapV _ _ _ | exact LR.bnd (by rw [l2]; simp [bndE, SV.bnd, SV.bndL]) (by rw [l6]; decide)) (by first | rfl | (simp only [Blk.ren, renL_mapV]; rfl) | (rw [LR.ren (by rw [l2] <;> rfl) (by rw [l6] <;> rfl)]; rfl)) ?_)) ⟨by have := h4.hm; (try dsimp only at this); (first | done | omega), fun i hi => by have := h4.hm; (try dsimp only at this); (first | omega | (dsimp only; omega) | (rw [if_neg (by omega)]))⟩ ⟨by simp, rfl⟩
    · simp (disch := omega) only [runR_next, runR_stop, stepS, goS, exitTo, OutOK_stop, halt, isAt, atC, execA_succ, ↓reduceIte, beq_self_eq_true]
      obtain rfl : k = ms.length := by omega
      refine h4.fin _ _ _ _ _ trivial rfl ?_
      refine ⟨_, _, rfl, by decide, ?_⟩
      simp only [Option.map_none, Option.map_some, Option.toList, List.nil_append, List.cons_append, Heap.drop, Nat.reduceEqDiff, ↓reduceIte]
      refine hκ.run 300 ?_
      simp (disch := omega) only [exec_succ, runR_next, runR_stop, stepS, runOp, toSR, sop, rOf, sLoadIn, sLoad, ev, Env.get, Heap.get, Heap.drop, takeN, cut, aggOf, OutOK_stop, dropL, List.size_toArray, List.length_cons, List.length_nil, List.range, List.range.loop, List.getElem?_toArray, List.getElem?_cons_succ, List.getElem?_cons_zero, ↓reduceIte, Nat.reduceAdd, Nat.reduceLT, Nat.reduceEqDiff, Nat.zero_add, gl0, Try.sz2, Try.ag2]
      refine hκ.ret _ _ _ _ _ _ ⟨rfl, trivial⟩ rfl ?_
      exact .ret (by simp [SV.bnd, SV.bndL])
end Go.Proofs.Ytbjhphjpdeblnaa

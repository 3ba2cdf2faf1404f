/- The walk of the law TraceSpans. No condition. -/
import Derived.Test.YtcpanpkhdcifoaaLb
namespace Go.Proofs.Ytcpanpkhdcifoaa
open Go Go.Sy
set_option maxRecDepth 100000
set_option linter.unusedSimpArgs false
set_option linter.unusedVariables false

theorem cutK_mem {fs : List Fr} {en f t : Int} (hf : ∀ f ∈ fs, inFr f) (hff : i64 f) : ∀ k, k ≤ fs.length → ∀ x ∈ (cutK fs en f t k).1, inFr x
  | 0, _, x, hx => by cases hx
  | k + 1, hk, x, hx => by
    rw [cutK] at hx
    split at hx
    · rcases List.mem_append.1 hx with hx | hx
      · exact cutK_mem hf hff k (by omega) x hx
      · obtain rfl := List.mem_singleton.1 hx
        obtain ⟨h1, h2⟩ := hf _ (getD_mem (show k < fs.length by omega))
        refine ⟨?_, h2⟩
        dsimp only
        unfold maxI
        split
        · exact hff
        · exact h1
    · exact cutK_mem hf hff k (by omega) x hx
theorem spans_law (fs : List Fr) (en v t0 t1 : Int) (hf : ∀ f ∈ fs, inFr f) (he : i64 en) (hv : i64 v) (ht0 : i64 t0) (ht1 : i64 t1) (hn : fs.length < 2 ^ 46) : Law Try.prog gl0 8 [Tr fs en, I v, .agg [I t0, I t1]] := by
  refine Law.of (nt := 143) (res := [.tmp 6]) Try.mixed Try.func8 rfl rfl rfl rfl fun κ xc hκ => hκ.run 300 ?_
  simp (disch := omega) only [exec_succ, runR_next, runR_call, stepS, runOp, toSR, sop, rOf, rNew, sBox, isArr, ev, evs, Env.get, cellsS, envOf, OutOK_call, Bool.false_eq_true, List.size_toArray, List.length_cons, List.length_nil, List.range, List.range.loop, List.getElem?_toArray, List.getElem?_cons_succ, List.getElem?_cons_zero, ↓reduceIte, Nat.reduceAdd, Nat.reduceLT, Nat.reduceEqDiff, Nat.zero_add, reduceCtorEq, gl0]
  refine Does.ret hκ.hP hκ.hgl (wakes_ok) ⟨trivial, by simp [SV.bnd, SV.bndL], by first | (simp [SV.bnd, SV.bndL]; done) | assumption⟩ ?_
  refine hκ.run 300 ?_
  simp (disch := omega) only [exec_succ, runR_next, runR_fork_false, runR_call, stepS, runOp, condS, toSR, sop, rOf, sLoadIn, sLoad, sUn, ev, evs, Env.get, Heap.get, takeN, cut, aggOf, setO, OutOK_call, List.size_toArray, List.length_cons, List.length_nil, List.range, List.range.loop, List.getElem?_toArray, List.getElem?_cons_succ, List.getElem?_cons_zero, ↓reduceIte, Nat.reduceAdd, Nat.reduceLT, Nat.reduceEqDiff, Nat.zero_add, Nat.add_one_ne_zero, Bool.not_true, gl0, Try.sz24, Try.ag24]
  refine Does.ret hκ.hP hκ.hgl (over_ok fs en hf hn) ⟨trivial, by simp [SV.bnd, SV.bndL], by first | (simp [SV.bnd, SV.bndL]; done) | assumption⟩ ?_
  cases ho : overT fs
  case true =>
    refine hκ.run 300 ?_
    simp (disch := omega) only [exec_succ, runR_next, runR_fork_true, runR_stop, stepS, runOp, condS, toSR, sop, rOf, ev, Env.get, setO, OutOK_stop, List.size_toArray, List.length_cons, List.length_nil, List.range, List.range.loop, List.getElem?_toArray, List.getElem?_cons_zero, ↓reduceIte, Nat.reduceLT, Nat.zero_add, gl0]
    refine hκ.ret _ _ _ _ _ _ trivial rfl ?_
    rfl
  obtain ⟨hn3, hs3⟩ := overT_no ho
  have hs : ∀ f ∈ fs, f.2.length < 2 ^ 40 := fun f hf => by have := hs3 f hf; omega
  have c1 := tspans_ok fs en v hf hs he hv hn
  have c2 := moves_ok fs en v hf hs he hv hn
  have c3 := cut_ok fs en t0 t1 hf hs he ht0 ht1 hn
  have c4 := right_ok fs en hf he hn
  have c6 := rtime_ok t0
  have c7 := rtime_ok t1
  have c8 := tsame_ok fs fs en en hf hn
  rw [decide_eq_true rfl, decide_eq_true rfl] at c8
  have hX := cutK_mem (en := en) (f := t0) (t := t1) hf ht0 fs.length (Nat.le_refl _)
  have hXn := cutK_len fs en t0 t1 fs.length
  have c9 := rcut_ok fs en t0 t1 hf (by omega) he ht0 ht1
  have c10 := rsame_ok (cutT fs en t0 t1).1 (cutT fs en t0 t1).1 (cutT fs en t0 t1).2 (cutT fs en t0 t1).2 hX hX (show (cutK fs en t0 t1 fs.length).1.length < 2 ^ 46 by omega)
  rw [sameT_refl] at c10
  refine hκ.run 300 ?_
  simp (disch := omega) only [exec_succ, runR_next, runR_fork_false, runR_call, stepS, runOp, condS, toSR, sop, rOf, sLoadIn, sLoad, ev, evs, Env.get, Heap.get, takeN, cut, aggOf, setO, OutOK_call, List.size_toArray, List.length_cons, List.length_nil, List.range, List.range.loop, List.getElem?_toArray, List.getElem?_cons_succ, List.getElem?_cons_zero, ↓reduceIte, Nat.reduceAdd, Nat.reduceLT, Nat.reduceEqDiff, Nat.zero_add, Nat.add_one_ne_zero, gl0, Try.sz24, Try.ag24]
  refine Does.ret hκ.hP hκ.hgl (copied_ok fs en hf hs (by omega)) ⟨trivial, by simp [SV.bnd, SV.bndL], by first | (simp [SV.bnd, SV.bndL]; done) | assumption⟩ ?_
  refine hκ.runD 300 ?_
  simp (disch := omega) only [runR_next, runR_need, stepS, runOp, toSR, sop, rNew, sAlloc, sAlloc0, sStoreIn, sStore, ev, svs, Env.get, Heap.get, Heap.set, over, paste, cellsS, one, ones, setO, Value.oneCell', OutOK_need, OutOK_stop, undefS, undef, halt, isDraw, drawC, execD_succ, List.length_cons, List.length_nil, List.getElem?_toArray, List.getElem?_cons_succ, List.getElem?_cons_zero, List.map_cons, List.map_nil, ↓reduceIte, Nat.reduceAdd, Nat.reduceLT, Nat.reduceEqDiff, Nat.zero_add, true_and, and_self, forall_const, gl0, Try.sz24, Try.ze24, Try.ar24]
  by_cases hr : rightT fs en = true
  case neg =>
    have h1 : spansT fs en v = [] := by rw [spansT, if_neg hr]
    have h2 : longE fs en t0 t1 = 330 := by rw [longE, if_neg hr]
    rw [h1] at c1 c2
    rw [h2, if_neg (by decide), if_neg (by decide)] at c3
    rw [if_neg hr] at c4
    refine hκ.draw (.q 0 (.q 1 (.q 3 (.q 4 (.l 2 [3] (.l 5 [0] (.q 6 (.q 7 (.fin))))))))) [0, 1, 3, 4, 6, 7] (by kernel_rfl) (by kernel_rfl) rfl ?_
    simp (disch := omega) only [sop, rOf, sLoadIn, sLoad, ev, evs, Env.get, Heap.get, takeN, cut, aggOf, setO, drawP_q, drawP_l, dq, dqn, dl, guardP, R1Q, dstOK, loudP, List.getElem?_toArray, List.getElem?_cons_succ, List.getElem?_cons_zero, ↓reduceIte, Nat.reduceLT, Nat.reduceEqDiff, true_and, reduceCtorEq, gl0, Try.sz24, Try.ag24]
    refine DCall.of (Does.ret hκ.hP hκ.hgl (c1) ⟨trivial, by simp [SV.bnd, SV.bndL], by first | (simp [SV.bnd, SV.bndL]; done) | assumption⟩ ?_)
    simp (disch := omega) only [sop, rOf, sLoadIn, sLoad, ev, evs, Env.get, Heap.get, takeN, cut, aggOf, setO, drawP_l, dnext, dl, slotR, ag, guardP, dstOK, loudP, again, again1, slotIs, R1OK, List.getElem?_toArray, List.getElem?_cons_succ, List.getElem?_cons_zero, List.map_nil, ↓reduceIte, Nat.reduceLT, Nat.reduceEqDiff, true_and, and_self, Try.sz24, Try.ag24]
    refine DCall.of (Does.ret hκ.hP hκ.hgl (c2) ⟨trivial, by simp [SV.bnd, SV.bndL], by first | (simp [SV.bnd, SV.bndL]; done) | assumption⟩ ?_)
    simp (disch := omega) only [sop, rOf, sLoadIn, sLoad, ev, Env.get, Heap.get, takeN, cut, aggOf, setO, drawP_fin, drawP_q, dnext, dq, dqn, slotR, ag, guardP, R1Q, dstOK, again, again1, slotIs, R1OK, List.length_nil, List.getElem?_toArray, List.getElem?_cons_succ, List.getElem?_cons_zero, ↓reduceIte, Nat.reduceLT, Nat.reduceEqDiff, true_and, and_self, Try.sz24, Try.ag24]
    refine hκ.run 300 ?_
    simp (disch := omega) only [exec_succ, runR_next, runR_need, runR_call, stepS, runOp, toSR, sop, rOf, sLoadIn, sLoad, sIndexAddr, elemT, obind, ev, evs, Env.get, Heap.get, takeN, cut, aggOf, OutOK_need, OutOK_call, Int.cast_ofNat_Int, List.size_toArray, List.length_cons, List.length_nil, List.range, List.range.loop, List.getElem?_toArray, List.getElem?_cons_succ, List.getElem?_cons_zero, ↓reduceIte, Nat.reduceAdd, Nat.reduceLT, Nat.reduceEqDiff, Nat.zero_add, Int.reduceToNat, Int.reduceLT, Int.reduceLE, true_and, and_self, forall_const, gl0, Try.sz2, Try.ag2, Try.sz24, Try.ag24, Try.underlying54]
    refine Does.ret hκ.hP hκ.hgl (c3) ⟨trivial, by simp [SV.bnd, SV.bndL], by first | (simp [SV.bnd, SV.bndL]; done) | assumption⟩ ?_
    refine hκ.run 300 ?_
    simp (disch := omega) only [exec_succ, runR_next, runR_need, runR_call, stepS, runOp, toSR, sop, rOf, rNew, sAlloc, sAlloc0, sLoadIn, sLoad, sStoreIn, sStore, sExtract, ev, evs, svs, Env.get, Heap.get, Heap.set, takeN, cut, over, paste, aggOf, cellsS, one, ones, setO, Value.oneCell', OutOK_need, OutOK_call, undefS, undef, List.size_toArray, List.length_cons, List.length_nil, List.range, List.range.loop, List.getElem?_toArray, List.getElem?_cons_succ, List.getElem?_cons_zero, List.map_cons, List.map_nil, ↓reduceIte, Nat.reduceAdd, Nat.reduceLT, Nat.reduceEqDiff, Nat.zero_add, Nat.add_one_ne_zero, true_and, and_self, forall_const, gl0, Try.sz24, Try.ag24, Try.ze24, Try.ar24]
    refine Does.ret hκ.hP hκ.hgl (c4) ⟨trivial, by simp [SV.bnd, SV.bndL], by first | (simp [SV.bnd, SV.bndL]; done) | assumption⟩ ?_
    refine hκ.run 300 ?_
    simp (disch := omega) only [sBuiltin, exec_succ, runR_next, runR_fork_true, runR_guard_tt, stepS, runOp, guardS, condS, toSR, sop, rOf, sPick, sInt, sBin, sUn, sFieldAddr, sLen, ev, Env.get, setO, undefS, undef, Int.cast_ofNat_Int, List.size_toArray, List.length_cons, List.length_nil, List.range, List.range.loop, List.getElem?_toArray, List.getElem?_cons_succ, List.getElem?_cons_zero, Option.bind_some, ↓reduceIte, Nat.reduceAdd, Nat.reduceLT, Nat.reduceEqDiff, Nat.zero_add, Nat.add_zero, Nat.add_one_ne_zero, Bool.not_true, Bool.not_false, decide_true, and_self, gl0, Try.fd24f0, Try.underlying39]
    refine hκ.ret _ _ _ _ _ _ trivial rfl ?_
    rfl
  rw [if_pos hr] at c4
  have hrt := (RT.iff fs en).1 hr
  have h1 : spansT fs en v = spansK fs en v fs.length := by rw [spansT, if_pos hr]
  have c5 := (rspans_ok fs en v hf hrt hv).toRd
  have hSl := spansK_len fs en v fs.length
  rw [h1] at c1 c2
  generalize spansK fs en v fs.length = S at c1 c2 c5 hSl
  have hml := movK_le S
  obtain ⟨E, hE⟩ : ∃ E, longE fs en t0 t1 = E := ⟨_, rfl⟩
  rw [hE] at c3
  obtain ⟨X, hX1⟩ : ∃ X, (if E = 0 then (cutT fs en t0 t1).1 else []) = X := ⟨_, rfl⟩
  obtain ⟨Y, hY1⟩ : ∃ Y, (if E = 0 then (cutT fs en t0 t1).2 else 0) = Y := ⟨_, rfl⟩
  rw [hX1, hY1] at c3
  refine hκ.draw (.q 0 (.q 1 (.q 3 (.q 4 (.l 2 [3] (.l 5 [0] (.q 6 (.q 7 (.fin))))))))) [0, 1, 3, 4, 6, 7] (by kernel_rfl) (by kernel_rfl) rfl ?_
  simp (disch := omega) only [sop, rOf, sLoadIn, sLoad, ev, evs, Env.get, Heap.get, takeN, cut, aggOf, setO, drawP_q, drawP_l, dq, dqn, dl, guardP, R1Q, dstOK, loudP, List.getElem?_toArray, List.getElem?_cons_succ, List.getElem?_cons_zero, ↓reduceIte, Nat.reduceLT, Nat.reduceEqDiff, true_and, reduceCtorEq, gl0, Try.sz24, Try.ag24]
  refine DCall.of (Does.ret hκ.hP hκ.hgl (c1) ⟨trivial, by simp [SV.bnd, SV.bndL], by first | (simp [SV.bnd, SV.bndL]; done) | assumption⟩ ?_)
  simp (disch := omega) only [sop, rOf, sLoadIn, sLoad, ev, evs, Env.get, Heap.get, takeN, cut, aggOf, setO, drawP_l, dnext, dl, slotR, ag, guardP, dstOK, loudP, again, again1, slotIs, R1OK, List.getElem?_toArray, List.getElem?_cons_succ, List.getElem?_cons_zero, ↓reduceIte, Nat.reduceLT, Nat.reduceEqDiff, true_and, and_self, Try.sz24, Try.ag24]
  refine DCall.of (Does.ret hκ.hP hκ.hgl (c2) ⟨trivial, by simp [SV.bnd, SV.bndL], by first | (simp [SV.bnd, SV.bndL]; done) | assumption⟩ ?_)
  simp (disch := omega) only [sop, rOf, sLoadIn, sLoad, ev, Env.get, Heap.get, takeN, cut, aggOf, setO, drawP_fin, drawP_q, dnext, dq, dqn, slotR, ag, guardP, R1Q, dstOK, again, again1, slotIs, R1OK, List.getElem?_toArray, List.getElem?_cons_succ, List.getElem?_cons_zero, ↓reduceIte, Nat.reduceLT, Nat.reduceEqDiff, true_and, and_self, Try.sz24, Try.ag24]
  refine hκ.run 300 ?_
  simp (disch := omega) only [exec_succ, runR_next, runR_need, runR_call, stepS, runOp, toSR, sop, rOf, sLoadIn, sLoad, sIndexAddr, elemT, obind, ev, evs, Env.get, Heap.get, takeN, cut, aggOf, OutOK_need, OutOK_call, Int.cast_ofNat_Int, List.size_toArray, List.length_cons, List.length_nil, List.range, List.range.loop, List.getElem?_toArray, List.getElem?_cons_succ, List.getElem?_cons_zero, ↓reduceIte, Nat.reduceAdd, Nat.reduceLT, Nat.reduceEqDiff, Nat.zero_add, Int.reduceToNat, Int.reduceLT, Int.reduceLE, true_and, and_self, forall_const, gl0, Try.sz2, Try.ag2, Try.sz24, Try.ag24, Try.underlying54]
  refine Does.ret hκ.hP hκ.hgl (c3) ⟨trivial, by simp [SV.bnd, SV.bndL], by first | (simp [SV.bnd, SV.bndL]; done) | assumption⟩ ?_
  refine hκ.run 300 ?_
  simp (disch := omega) only [exec_succ, runR_next, runR_need, runR_call, stepS, runOp, toSR, sop, rOf, rNew, sAlloc, sAlloc0, sLoadIn, sLoad, sStoreIn, sStore, sExtract, ev, evs, svs, Env.get, Heap.get, Heap.set, takeN, cut, over, paste, aggOf, cellsS, one, ones, setO, Value.oneCell', OutOK_need, OutOK_call, undefS, undef, List.size_toArray, List.length_cons, List.length_nil, List.range, List.range.loop, List.getElem?_toArray, List.getElem?_cons_succ, List.getElem?_cons_zero, List.map_cons, List.map_nil, ↓reduceIte, Nat.reduceAdd, Nat.reduceLT, Nat.reduceEqDiff, Nat.zero_add, Nat.add_one_ne_zero, true_and, and_self, forall_const, gl0, Try.sz24, Try.ag24, Try.ze24, Try.ar24]
  refine Does.ret hκ.hP hκ.hgl (c4) ⟨trivial, by simp [SV.bnd, SV.bndL], by first | (simp [SV.bnd, SV.bndL]; done) | assumption⟩ ?_
  refine hκ.run 300 ?_
  simp (disch := omega) only [exec_succ, runR_next, runR_fork_false, runR_call, stepS, runOp, condS, toSR, sop, rOf, sLoadIn, sLoad, sUn, ev, evs, Env.get, Heap.get, takeN, cut, aggOf, setO, OutOK_call, List.size_toArray, List.length_cons, List.length_nil, List.range, List.range.loop, List.getElem?_toArray, List.getElem?_cons_succ, List.getElem?_cons_zero, ↓reduceIte, Nat.reduceAdd, Nat.reduceLT, Nat.reduceEqDiff, Nat.zero_add, Nat.add_one_ne_zero, Bool.not_true, reduceCtorEq, gl0, Try.sz24, Try.ag24]
  refine Does.ret hκ.hP hκ.hgl (c5) ⟨trivial, by simp [SV.bnd, SV.bndL], by first | (simp [SV.bnd, SV.bndL]; done) | assumption⟩ ?_
  refine hκ.run 300 ?_
  simp (disch := omega) only [sBuiltin, exec_succ, runR_next, runR_guard_ff, runR_call, stepS, runOp, guardS, toSR, sop, rOf, sLoadIn, sLoad, sInt, sBin, sLen, ev, evs, Env.get, Heap.get, takeN, cut, aggOf, setO, OutOK_call, undefS, undef, List.size_toArray, List.length_cons, List.length_nil, List.length_map, List.range, List.range.loop, List.getElem?_toArray, List.getElem?_cons_succ, List.getElem?_cons_zero, Option.bind_some, ↓reduceIte, Nat.reduceAdd, Nat.reduceLT, Nat.reduceEqDiff, Nat.zero_add, Nat.add_one_ne_zero, Bool.not_true, Bool.not_false, decide_true, and_self, gl0, Try.sz24, Try.ag24, Try.underlying39]
  refine Does.ret hκ.hP hκ.hgl (c8) ⟨trivial, by simp [SV.bnd, SV.bndL], by first | (simp [SV.bnd, SV.bndL]; done) | assumption⟩ ?_
  refine hκ.run 300 ?_
  simp (disch := omega) only [sBuiltin, exec_succ, runR_next, runR_fork_false, runR_guard_ff, runR_stop, stepS, runOp, guardS, condS, toSR, sop, rOf, sPick, sUn, sLen, ev, Env.get, setO, OutOK_stop, undefS, undef, Bool.and_true, List.size_toArray, List.length_cons, List.length_nil, List.length_map, List.range, List.range.loop, List.getElem?_toArray, List.getElem?_cons_succ, List.getElem?_cons_zero, Option.bind_some, ↓reduceIte, Nat.reduceAdd, Nat.reduceLT, Nat.reduceEqDiff, Nat.zero_add, Bool.not_true, Bool.not_false, and_self, gl0, Try.underlying39]
  refine Sat.less (Sat.loop (γ := Nat) (fun k => ([(72, I k), (71, I S.length), (13, I (movK S k)), (12, .rd 3 (S.map eN)), (8, .rd 3 (S.map eN)), (9, I (movK S S.length)), (11, I E), (10, .ptr 3 0 0 0), (5, .ptr 1 0 0 0), (3, .ptr 0 0 0 0)], [(3, .own [Fs X, I Y] 24), (1, .own [I t0, I t1] 54), (0, .own [Fs fs, I en] 24)], 4)) (fun k => S.length - k) (fun k => k ≤ S.length) ?round 0 (Nat.zero_le _)) (by repeat' (first | exact EnvSub.nil _ | exact HeapSub.nil _ | refine EnvSub.cons rfl ?_ | refine HeapSub.cons rfl ?_ | (refine EnvSub.cons (by simp [Env.get]; done) ?_) | (refine HeapSub.cons (by simp [Heap.get]; done) ?_))) (by repeat' (first | exact EnvSub.nil _ | exact HeapSub.nil _ | refine EnvSub.cons rfl ?_ | refine HeapSub.cons rfl ?_ | (refine EnvSub.cons (by simp [Env.get]; done) ?_) | (refine HeapSub.cons (by simp [Heap.get]; done) ?_)))
  case round =>
    intro k hk ih
    dsimp only at ih ⊢
    refine hκ.runD 300 ?_
    simp (disch := omega) only [runR_next, stepS, runOp, condS, toSR, sop, sInt, sBin, ev, Env.get, halt, isDraw, drawC, execD_succ, List.size_toArray, List.length_cons, List.length_nil, List.range, List.range.loop, List.getElem?_toArray, List.getElem?_cons_zero, ↓reduceIte, Nat.reduceLT, Nat.reduceEqDiff, Nat.zero_add, gl0]
    refine OutOK_fork (fun h => ?_) (fun h => ?_) <;> try simp only [Bool.not_true, Bool.not_false, decide_eq_true_eq, decide_eq_false_iff_not, Bool.not_eq_true', Bool.not_eq_false', Bool.and_eq_true, Bool.or_eq_false_iff, Bool.or_eq_true, Bool.and_eq_false_iff] at h
    · have hz := ih (k + 1) (by omega) (by omega)
      have hmk := hml k
      rw [movK] at hz
      simp (disch := omega) only [runR_next, stepS, runOp, toSR, sop, rOf, ev, Env.get, OutOK_stop, halt, isDraw, drawC, execD_succ, List.size_toArray, List.length_cons, List.length_nil, List.range, List.range.loop, List.getElem?_toArray, List.getElem?_cons_succ, List.getElem?_cons_zero, ↓reduceIte, Nat.reduceAdd, Nat.reduceLT, Nat.reduceEqDiff, Nat.zero_add]
      refine hκ.draw (.q 0 (.q 1 (.q 2 (.q 3 (.q 4 (.q 5 (.q 6 (.q 7 (.q 8 (.fin)))))))))) [0, 1, 2, 3, 4, 5, 6, 7, 8] (by kernel_rfl) (by kernel_rfl) rfl ?_
      simp (disch := omega) only [sop, rOf, sLoad, sEqAgg, aggS, eqCells, sBin, sIndexAddr, elemT, obind, ev, Env.get, takeN, cut, aggOf, setO, drawP_fin, drawP_q, dq, dqn, guardP, R1Q, dstOK, Bool.true_and, List.length_map, List.getElem?_toArray, List.getElem?_cons_succ, List.getElem?_cons_zero, Option.map_some, ↓reduceIte, Nat.reduceLT, Nat.reduceEqDiff, Int.toNat_natCast, Bool.not_true, decide_true, true_and, getD_map, gl0, Try.underlying39, Try.sz42, Try.ag42, Try.eq42, eN]
      (repeat (refine ⟨by first | omega | (refine ⟨?_, ?_⟩ <;> omega) | trivial | (simp; done) | decide +kernel, fun _ => ?_⟩))
      refine hκ.runD 300 ?_
      simp (disch := omega) only [runR_next, runR_fork_false, stepS, condS, ev, Env.get, OutOK_stop, halt, isDraw, drawC, execD_succ, ↓reduceIte, gl0]
      by_cases h0 : k = 0
      · have e0 : ((0 : Int) < (k : Int)) = False := by first | (simp only [eq_iff_iff, iff_false]; first | assumption | omega) | (simp; omega)
        rw [if_neg (fun h => h.1 h0), Nat.add_zero] at hz
        refine hκ.draw (.q 0 (.q 1 (.q 2 (.q 3 (.q 4 (.q 5 (.q 6 (.q 7 (.q 8 (.q 9 (.q 10 (.q 11 (.q 12 (.q 13 (.q 14 (.q 15 (.fin))))))))))))))))) [0, 1, 2, 3, 4, 5, 6, 7, 8, 9, 10, 11, 12, 13, 14, 15] (by kernel_rfl) (by kernel_rfl) rfl ?_
        simp (disch := omega) only [sop, rOf, sPick, sInt, sBin, ev, Env.get, setO, drawP_fin, drawP_q, dq, dqn, GF.ft, guardP, R1Q, dstOK, undefS, undef, List.getElem?_toArray, List.getElem?_cons_succ, List.getElem?_cons_zero, Option.bind_some, ↓reduceIte, Nat.reduceLT, Nat.reduceEqDiff, decide_false, true_and, gl0, e0]
        refine hκ.run 300 ?_
        simp (disch := omega) only [exec_succ, runR_next, runR_fork_false, runR_stop, stepS, runOp, condS, toSR, sop, rOf, sInt, sBin, ev, Env.get, OutOK_stop, List.size_toArray, List.length_cons, List.length_nil, List.range, List.range.loop, List.getElem?_toArray, List.getElem?_cons_succ, List.getElem?_cons_zero, ↓reduceIte, Nat.reduceAdd, Nat.reduceLT, Nat.reduceEqDiff, Nat.zero_add, wrap_i64, gl0]
        refine Sat.via (fun i => i) (hz) (by intro i j; (repeat (first | omega | split))) (by repeat' (first | exact EnvVia.nil | refine EnvVia.cons (by first | trivial | decide | (simp [SV.bnd, SV.bndL]; done)) rfl ?_)) (by repeat' (first | exact HeapVia.nil | refine HeapVia.cons (by decide) (by first | trivial | (simp [Blk.bnd, SV.bnd, SV.bndL]; done) | exact bndL_mapV _ _ _ | exact LR.bnd (by rw [l2]; simp [bndE, SV.bnd, SV.bndL]) (by rw [l6]; decide)) (by first | rfl | (simp only [Blk.ren, renL_mapV]; rfl) | (rw [LR.ren (by rw [l2] <;> rfl) (by rw [l6] <;> rfl)]; rfl)) ?_)) ⟨by have := hκ.hm; (try dsimp only at this); (first | done | omega), fun i hi => by have := hκ.hm; (try dsimp only at this); (first | omega | (dsimp only; omega) | (rw [if_neg (by omega)]))⟩ ⟨by simp, rfl⟩
      · have e0 : ((0 : Int) < (k : Int)) = True := by first | (simp only [eq_iff_iff, iff_true]; first | assumption | omega) | (simp; omega)
        have hk1 : (k : Int) - 1 = ((k - 1 : Nat) : Int) := by omega
        by_cases e1 : (S.getD (k - 1) default).2.2 = (S.getD k default).2.1
        · rw [if_pos ⟨h0, e1⟩] at hz
          have e1t : ((S.getD (k - 1) default).2.2 = (S.getD k default).2.1) = True := by first | (simp only [eq_iff_iff, iff_true]; first | assumption | omega) | (simp; omega)
          refine hκ.draw (.q 0 (.q 1 (.q 2 (.q 3 (.q 4 (.q 5 (.q 6 (.q 7 (.q 8 (.q 9 (.q 10 (.q 11 (.q 12 (.q 13 (.q 14 (.q 15 (.fin))))))))))))))))) [0, 1, 2, 3, 4, 5, 6, 7, 8, 9, 10, 11, 12, 13, 14, 15] (by kernel_rfl) (by kernel_rfl) rfl ?_
          simp (disch := omega) only [sop, rOf, sPick, sLoad, sInt, sBin, sFieldAddr, sIndexAddr, elemT, obind, ev, Env.get, takeN, cut, aggOf, setO, drawP_fin, drawP_q, dq, dqn, GF.tt, guardP, R1Q, dstOK, List.length_map, List.getElem?_toArray, List.getElem?_cons_succ, List.getElem?_cons_zero, Option.bind_some, ↓reduceIte, Nat.reduceLT, Nat.reduceEqDiff, Nat.zero_add, Nat.add_one_ne_zero, Int.toNat_natCast, decide_true, true_and, getD_map, wrap_i64, gl0, Try.sz2, Try.ag2, Try.underlying39, Try.sz42, Try.fd42f1, Try.fd42f2, e0, hk1, eN, e1t]
          (repeat (refine ⟨by first | omega | (refine ⟨?_, ?_⟩ <;> omega) | trivial | (simp; done) | decide +kernel, fun _ => ?_⟩))
          refine hκ.run 300 ?_
          simp (disch := omega) only [exec_succ, runR_next, runR_fork_true, runR_stop, stepS, runOp, condS, toSR, sop, rOf, sInt, sBin, ev, Env.get, OutOK_stop, List.size_toArray, List.length_cons, List.length_nil, List.range, List.range.loop, List.getElem?_toArray, List.getElem?_cons_succ, List.getElem?_cons_zero, ↓reduceIte, Nat.reduceAdd, Nat.reduceLT, Nat.reduceEqDiff, Nat.zero_add, wrap_i64, gl0]
          simp only [List.length_append, List.length_cons, List.length_nil, List.length_singleton, List.length_map, List.length_set, List.length_replicate, Nat.zero_add, Nat.add_zero, Int.natCast_add, Int.natCast_one, Int.ofNat_eq_natCast, List.map_append, List.map_cons, List.map_nil, List.take_length, eI, eB] at hz ⊢
          refine Sat.via (fun i => i) (hz) (by intro i j; (repeat (first | omega | split))) (by repeat' (first | exact EnvVia.nil | refine EnvVia.cons (by first | trivial | decide | (simp [SV.bnd, SV.bndL]; done)) rfl ?_)) (by repeat' (first | exact HeapVia.nil | refine HeapVia.cons (by decide) (by first | trivial | (simp [Blk.bnd, SV.bnd, SV.bndL]; done) | exact bndL_mapV _ _ _ | exact LR.bnd (by rw [l2]; simp [bndE, SV.bnd, SV.bndL]) (by rw [l6]; decide)) (by first | rfl | (simp only [Blk.ren, renL_mapV]; rfl) | (rw [LR.ren (by rw [l2] <;> rfl) (by rw [l6] <;> rfl)]; rfl)) ?_)) ⟨by have := hκ.hm; (try dsimp only at this); (first | done | omega), fun i hi => by have := hκ.hm; (try dsimp only at this); (first | omega | (dsimp only; omega) | (rw [if_neg (by omega)]))⟩ ⟨by simp, rfl⟩
        · rw [if_neg (fun h => e1 h.2), Nat.add_zero] at hz
          refine hκ.draw (.q 0 (.q 1 (.q 2 (.q 3 (.q 4 (.q 5 (.q 6 (.q 7 (.q 8 (.q 9 (.q 10 (.q 11 (.q 12 (.q 13 (.q 14 (.q 15 (.fin))))))))))))))))) [0, 1, 2, 3, 4, 5, 6, 7, 8, 9, 10, 11, 12, 13, 14, 15] (by kernel_rfl) (by kernel_rfl) rfl ?_
          simp (disch := omega) only [sop, rOf, sPick, sLoad, sInt, sBin, sFieldAddr, sIndexAddr, elemT, obind, ev, Env.get, takeN, cut, aggOf, setO, drawP_fin, drawP_q, dq, dqn, GF.tt, guardP, R1Q, dstOK, List.length_map, List.getElem?_toArray, List.getElem?_cons_succ, List.getElem?_cons_zero, Option.bind_some, ↓reduceIte, Nat.reduceLT, Nat.reduceEqDiff, Nat.zero_add, Nat.add_one_ne_zero, Int.toNat_natCast, decide_true, decide_false, true_and, getD_map, wrap_i64, gl0, Try.sz2, Try.ag2, Try.underlying39, Try.sz42, Try.fd42f1, Try.fd42f2, e0, hk1, eN, e1]
          (repeat (refine ⟨by first | omega | (refine ⟨?_, ?_⟩ <;> omega) | trivial | (simp; done) | decide +kernel, fun _ => ?_⟩))
          refine hκ.run 300 ?_
          simp (disch := omega) only [exec_succ, runR_next, runR_fork_false, runR_stop, stepS, runOp, condS, toSR, sop, rOf, sInt, sBin, ev, Env.get, OutOK_stop, List.size_toArray, List.length_cons, List.length_nil, List.range, List.range.loop, List.getElem?_toArray, List.getElem?_cons_succ, List.getElem?_cons_zero, ↓reduceIte, Nat.reduceAdd, Nat.reduceLT, Nat.reduceEqDiff, Nat.zero_add, wrap_i64, gl0]
          refine Sat.via (fun i => i) (hz) (by intro i j; (repeat (first | omega | split))) (by repeat' (first | exact EnvVia.nil | refine EnvVia.cons (by first | trivial | decide | (simp [SV.bnd, SV.bndL]; done)) rfl ?_)) (by repeat' (first | exact HeapVia.nil | refine HeapVia.cons (by decide) (by first | trivial | (simp [Blk.bnd, SV.bnd, SV.bndL]; done) | exact bndL_mapV _ _ _ | exact LR.bnd (by rw [l2]; simp [bndE, SV.bnd, SV.bndL]) (by rw [l6]; decide)) (by first | rfl | (simp only [Blk.ren, renL_mapV]; rfl) | (rw [LR.ren (by rw [l2] <;> rfl) (by rw [l6] <;> rfl)]; rfl)) ?_)) ⟨by have := hκ.hm; (try dsimp only at this); (first | done | omega), fun i hi => by have := hκ.hm; (try dsimp only at this); (first | omega | (dsimp only; omega) | (rw [if_neg (by omega)]))⟩ ⟨by simp, rfl⟩
    · simp (disch := omega) only [runR_next, stepS, runOp, condS, goS, toSR, sop, rOf, sInt, sBin, ev, Env.get, exitTo, halt, isDraw, drawC, execD_succ, List.size_toArray, List.length_cons, List.length_nil, List.range, List.range.loop, List.getElem?_toArray, List.getElem?_cons_succ, List.getElem?_cons_zero, ↓reduceIte, Nat.reduceAdd, Nat.reduceLT, Nat.reduceEqDiff, Nat.zero_add, beq_self_eq_true]
      obtain rfl : k = S.length := by omega
      refine OutOK_fork (fun h => absurd h (by simp)) (fun _ => ?_)
      simp (disch := omega) only [runR_next, runR_need, runR_call, stepS, runOp, toSR, sop, rOf, sLoadIn, sLoad, sIndexAddr, elemT, obind, ev, evs, Env.get, Heap.get, takeN, cut, aggOf, OutOK_need, OutOK_call, halt, isDraw, drawC, execD_succ, Int.cast_ofNat_Int, List.size_toArray, List.length_cons, List.length_nil, List.range, List.range.loop, List.getElem?_toArray, List.getElem?_cons_succ, List.getElem?_cons_zero, ↓reduceIte, Nat.reduceAdd, Nat.reduceLT, Nat.reduceEqDiff, Nat.zero_add, Int.reduceToNat, Int.reduceLT, Int.reduceLE, Bool.not_true, decide_true, true_and, and_self, forall_const, Try.sz2, Try.ag2, Try.underlying54]
      refine Does.ret hκ.hP hκ.hgl (c6) ⟨trivial, by simp [SV.bnd, SV.bndL], by first | (simp [SV.bnd, SV.bndL]; done) | assumption⟩ ?_
      cases h6 : timeB t0
      · have h2 : E = 2 := by rw [← hE, longE, if_pos hr, if_neg (by rw [h6]; simp)]
        subst h2
        rw [if_neg (by decide)] at hX1 hY1
        subst hX1 hY1
        refine hκ.run 300 ?_
        simp (disch := omega) only [sBuiltin, exec_succ, runR_next, runR_fork_true, runR_guard_tt, runR_guard_tf, runR_stop, stepS, runOp, guardS, condS, toSR, sop, rOf, sPick, sLoadIn, sLoad, sInt, sBin, sUn, sFieldAddr, sIndexAddr, sLen, elemT, obind, ev, evs, Env.get, Heap.get, takeN, cut, aggOf, setO, OutOK_stop, undefS, undef, Int.cast_ofNat_Int, List.size_toArray, List.length_cons, List.length_nil, List.range, List.range.loop, List.getElem?_toArray, List.getElem?_cons_succ, List.getElem?_cons_zero, List.map_nil, Option.bind_some, ↓reduceIte, Nat.reduceAdd, Nat.reduceLT, Nat.reduceEqDiff, Nat.zero_add, Nat.add_zero, Nat.add_one_ne_zero, Int.reduceToNat, Int.reduceLT, Int.reduceLE, Bool.not_true, Bool.not_false, decide_true, and_self, gl0, Try.sz2, Try.underlying22, Try.sz22, Try.ag22, Try.fd24f0, Try.underlying54]
        refine hκ.ret _ _ _ _ _ _ trivial rfl ?_
        rfl
      refine hκ.run 300 ?_
      simp (disch := omega) only [exec_succ, runR_next, runR_need, runR_guard_ff, runR_call, stepS, runOp, guardS, toSR, sop, rOf, sLoadIn, sLoad, sUn, sIndexAddr, elemT, obind, ev, evs, Env.get, Heap.get, takeN, cut, aggOf, setO, OutOK_need, OutOK_call, undefS, undef, Int.cast_ofNat_Int, List.getElem?_toArray, List.getElem?_cons_succ, List.getElem?_cons_zero, Option.bind_some, ↓reduceIte, Nat.reduceLT, Nat.reduceEqDiff, Int.reduceToNat, Int.reduceLT, Int.reduceLE, Bool.not_true, Bool.not_false, true_and, and_self, forall_const, gl0, Try.sz2, Try.ag2, Try.underlying54]
      refine Does.ret hκ.hP hκ.hgl (c7) ⟨trivial, by simp [SV.bnd, SV.bndL], by first | (simp [SV.bnd, SV.bndL]; done) | assumption⟩ ?_
      cases h7 : timeB t1
      · have h2 : E = 2 := by rw [← hE, longE, if_pos hr, if_neg (by rw [h7]; simp)]
        subst h2
        rw [if_neg (by decide)] at hX1 hY1
        subst hX1 hY1
        refine hκ.run 300 ?_
        simp (disch := omega) only [sBuiltin, exec_succ, runR_next, runR_fork_true, runR_guard_tt, runR_guard_ff, runR_guard_tf, runR_stop, stepS, runOp, guardS, condS, toSR, sop, rOf, sPick, sLoadIn, sLoad, sInt, sBin, sUn, sFieldAddr, sIndexAddr, sLen, elemT, obind, ev, Env.get, Heap.get, takeN, cut, aggOf, setO, OutOK_stop, undefS, undef, Int.cast_ofNat_Int, List.size_toArray, List.length_cons, List.length_nil, List.range, List.range.loop, List.getElem?_toArray, List.getElem?_cons_succ, List.getElem?_cons_zero, List.map_nil, Option.bind_some, ↓reduceIte, Nat.reduceAdd, Nat.reduceLT, Nat.reduceEqDiff, Nat.zero_add, Nat.add_zero, Nat.add_one_ne_zero, Int.reduceToNat, Int.reduceLT, Int.reduceLE, Bool.not_true, Bool.not_false, decide_true, and_self, gl0, Try.sz2, Try.underlying22, Try.sz22, Try.ag22, Try.fd24f0, Try.underlying54]
        refine hκ.ret _ _ _ _ _ _ trivial rfl ?_
        rfl
      by_cases h8 : t1 < t0
      · have h2 : E = 2 := by rw [← hE, longE, if_pos hr, if_neg (fun h => by omega)]
        subst h2
        rw [if_neg (by decide)] at hX1 hY1
        subst hX1 hY1
        refine hκ.run 300 ?_
        simp (disch := omega) only [sBuiltin, exec_succ, runR_next, runR_need, runR_fork_true, runR_guard_tt, runR_guard_ff, runR_stop, stepS, runOp, guardS, condS, toSR, sop, rOf, sPick, sLoadIn, sLoad, sInt, sBin, sUn, sFieldAddr, sIndexAddr, sLen, elemT, obind, ev, Env.get, Heap.get, takeN, cut, aggOf, setO, OutOK_need, OutOK_stop, undefS, undef, Int.cast_ofNat_Int, List.size_toArray, List.length_cons, List.length_nil, List.range, List.range.loop, List.getElem?_toArray, List.getElem?_cons_succ, List.getElem?_cons_zero, List.map_nil, Option.bind_some, ↓reduceIte, Nat.reduceAdd, Nat.reduceLT, Nat.reduceEqDiff, Nat.zero_add, Nat.add_zero, Nat.add_one_ne_zero, Int.reduceToNat, Int.reduceLT, Int.reduceLE, Bool.not_true, Bool.not_false, decide_true, true_and, and_self, forall_const, gl0, Try.sz2, Try.ag2, Try.underlying22, Try.sz22, Try.ag22, Try.fd24f0, Try.underlying54, h8]
        refine hκ.ret _ _ _ _ _ _ trivial rfl ?_
        rfl
      have h2 : E = 0 := by rw [← hE, longE, if_pos hr, if_pos ⟨h6, h7, by omega⟩]
      subst h2
      rw [if_pos rfl] at hX1 hY1
      subst hX1 hY1
      refine hκ.runD 300 ?_
      simp (disch := omega) only [runR_next, runR_need, runR_fork_false, runR_guard_ff, stepS, runOp, guardS, condS, toSR, sop, rOf, sPick, sLoadIn, sLoad, sInt, sBin, sUn, sIndexAddr, elemT, obind, ev, Env.get, Heap.get, takeN, cut, aggOf, setO, OutOK_need, OutOK_stop, undefS, undef, halt, isDraw, drawC, execD_succ, Int.cast_ofNat_Int, List.getElem?_toArray, List.getElem?_cons_succ, List.getElem?_cons_zero, Option.bind_some, ↓reduceIte, Nat.reduceLT, Nat.reduceEqDiff, Int.reduceToNat, Int.reduceLT, Int.reduceLE, Bool.not_true, Bool.not_false, decide_false, true_and, and_self, forall_const, gl0, Try.sz2, Try.ag2, Try.underlying54, h8]
      refine hκ.draw (.q 0 (.q 1 (.q 2 (.q 3 (.q 4 (.q 5 (.q 6 (.q 7 (.q 8 (.l 9 [3] (.l 10 [4, 6, 8] (.q 11 (.q 12 (.fin)))))))))))))) [0, 1, 2, 3, 4, 5, 6, 7, 8, 11, 12] (by kernel_rfl) (by kernel_rfl) rfl ?_
      simp (disch := omega) only [sop, rOf, sLoadIn, sLoad, sInt, sBin, sIndexAddr, elemT, obind, ev, evs, Env.get, Heap.get, takeN, cut, aggOf, setO, drawP_q, drawP_l, dq, dqn, dl, GF.tt, guardP, R1Q, dstOK, loudP, Int.cast_ofNat_Int, List.getElem?_toArray, List.getElem?_cons_succ, List.getElem?_cons_zero, Option.bind_some, ↓reduceIte, Nat.reduceLT, Nat.reduceEqDiff, Nat.add_one_ne_zero, Int.reduceToNat, Int.reduceLT, Int.reduceLE, decide_true, true_and, and_self, forall_const, gl0, Try.sz2, Try.ag2, Try.sz24, Try.ag24, Try.underlying54]
      refine DCall.of (Does.ret hκ.hP hκ.hgl (c9) ⟨trivial, by simp [SV.bnd, SV.bndL], by first | (simp [SV.bnd, SV.bndL]; done) | assumption⟩ ?_)
      simp (disch := omega) only [sop, rOf, sLoadIn, sLoad, ev, evs, Env.get, Heap.get, takeN, cut, aggOf, setO, drawP_l, dnext, dl, slotR, ag, GF.tt, guardP, dstOK, loudP, again, again1, slotIs, R1OK, List.getElem?_toArray, List.getElem?_cons_succ, List.getElem?_cons_zero, Option.bind_some, ↓reduceIte, Nat.reduceLT, Nat.reduceEqDiff, true_and, and_self, Try.sz24, Try.ag24]
      refine DCall.of (Does.ret hκ.hP hκ.hgl (c10) ⟨trivial, by simp [SV.bnd, SV.bndL], by first | (simp [SV.bnd, SV.bndL]; done) | assumption⟩ ?_)
      simp (disch := omega) only [sop, rOf, sPick, sLoadIn, sLoad, ev, Env.get, Heap.get, takeN, cut, aggOf, setO, drawP_fin, drawP_q, dnext, dq, dqn, slotR, ag, GF.tt, guardP, R1Q, dstOK, again, again1, slotIs, R1OK, List.getElem?_toArray, List.getElem?_cons_succ, List.getElem?_cons_zero, Option.bind_some, ↓reduceIte, Nat.reduceLT, Nat.reduceEqDiff, Nat.add_one_ne_zero, true_and, and_self, Try.sz2, Try.ag2, Try.sz24, Try.ag24]
      refine hκ.run 300 ?_
      simp (disch := omega) only [exec_succ, runR_stop, stepS, OutOK_stop, gl0]
      refine hκ.ret _ _ _ _ _ _ trivial rfl ?_
      rfl
end Go.Proofs.Ytcpanpkhdcifoaa

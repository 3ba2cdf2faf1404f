/- Watches: a moment is added, as the document says it. No condition. -/
import Derived.Test.YtbjhphjpdeblnaaAf
namespace Go.Proofs.Ytbjhphjpdeblnaa
open Go Go.Sy
set_option maxRecDepth 100000
set_option linter.unusedSimpArgs false
set_option linter.unusedVariables false

theorem keepW_filter {ms : List Mo} {en t : Int} (h : WT ms en) (hn : en ≤ t) : ms.filter (fun m => decide (¬ m.1 = t)) = ms.take (keepW ms t) := by
  have hin : ∀ k, k < keepW ms t → ¬ aW ms k = t := fun k hk e => by
    unfold keepW at hk
    split at hk
    · rename_i h1
      have := h.mono (i := k) (j := ms.length - 1) (by omega) (by omega)
      omega
    · rename_i h1
      by_cases e2 : k = ms.length - 1
      · subst e2; exact h1 ⟨by omega, e⟩
      · have := h.mono (i := k) (j := ms.length - 1) (by omega) (by omega)
        have := h.atE (ms.length - 1) (by omega)
        omega
  have hall : (ms.take (keepW ms t)).filter (fun m => decide (¬ m.1 = t)) = ms.take (keepW ms t) := by
    rw [List.filter_eq_self]
    intro m hm
    obtain ⟨i, hi, e⟩ := List.mem_iff_getElem.1 hm
    rw [List.getElem_take] at e
    rw [List.length_take] at hi
    have := hin i (by omega)
    rw [aW, getD_get (by omega), e] at this
    simpa using this
  by_cases e : ms.length ≠ 0 ∧ aW ms (ms.length - 1) = t
  · have ek : keepW ms t = ms.length - 1 := by rw [keepW, if_pos e]
    rw [ek] at hall ⊢
    have h7 := take_getD (l := ms) (k := ms.length - 1) (by omega)
    rw [show ms.length - 1 + 1 = ms.length by omega, List.take_length] at h7
    conv => lhs; rw [h7]
    rw [List.filter_append, hall, List.filter_cons_of_neg (by rw [decide_eq_true_eq]; exact fun h => h e.2)]
    simp
  · have ek : keepW ms t = ms.length := by rw [keepW, if_neg e]
    rw [ek, List.take_length] at hall
    rw [ek, List.take_length, hall]
theorem radd_ok (ms : List Mo) (en : Int) (m : Mo) (hf : ∀ m ∈ ms, inM m) (he : i64 en) (hm : inM m) (hn : ms.length < 2000) : Con Try.prog gl0 (fnv 12) [Wt ms en, .agg (eM m)] 0 [] (Ret (.tup [Wt (if addE ms en m = 0 then addW ms m else []) (if addE ms en m = 0 then m.1 else 0), I (addE ms en m)])) := by
  have c1 := wright_ok ms en hf he (by omega)
  have c2 := rmoment_ok m hm
  suffices H : Con Try.prog gl0 (fnv 12) [Wt ms en, .agg (eM m)] 0 [] (Ret (if addE ms en m = 0 then .tup [Wt (addW ms m) m.1, I 0] else .tup [noT, I (addE ms en m)])) by
    by_cases h : addE ms en m = 0
    · rw [if_pos h] at H; rw [if_pos h, if_pos h, h]; exact H
    · rw [if_neg h] at H; rw [if_neg h, if_neg h]; exact Con.repR (fun _ => Rel.tupMap (RelL.mapHead (Rel.aggMap nil1))) H
  obtain ⟨t, l⟩ := m
  obtain ⟨hm1, hm2, hm3⟩ := hm
  dsimp only at hm1 hm2 hm3
  refine Con.of Try.ok12 (nt := 58) (res := [.cell 4 24, .tmp 5]) Try.mixed Try.func12 rfl rfl rfl rfl fun κ xc hκ => hκ.run 300 ?_
  simp (disch := omega) only [exec_succ, runR_next, runR_call, stepS, runOp, toSR, sop, rOf, rNew, sAlloc, sAlloc0, sBox, isArr, sLoadIn, sLoad, ev, evs, svs, Env.get, Heap.get, takeN, cut, aggOf, cellsS, envOf, OutOK_call, Bool.false_eq_true, List.size_toArray, List.length_cons, List.length_nil, List.range, List.range.loop, List.getElem?_toArray, List.getElem?_cons_succ, List.getElem?_cons_zero, List.map_cons, List.map_nil, ↓reduceIte, Nat.reduceAdd, Nat.reduceLT, Nat.reduceEqDiff, Nat.zero_add, Nat.add_one_ne_zero, reduceCtorEq, gl0, Try.sz24, Try.ag24, Try.ze24, Try.ar24, eM]
  by_cases h1 : rightW ms en = true
  case neg =>
    have e1 : addE ms en (t, l) = 390 := by rw [addE, if_neg h1]
    rw [e1, if_neg (by decide)] at hκ
    rw [show rightW ms en = false by simpa using h1] at c1
    refine Does.ret hκ.hP hκ.hgl (c1) ⟨trivial, by simp [SV.bnd, SV.bndL], by first | (simp [SV.bnd, SV.bndL]; done) | assumption⟩ ?_
    refine hκ.run 300 ?_
    simp (disch := omega) only [exec_succ, runR_next, runR_need, runR_fork_true, runR_stop, stepS, runOp, condS, toSR, sop, rOf, sStoreIn, sStore, sUn, fillS, evps, sBuild, ev, svs, Env.get, Heap.get, Heap.set, over, paste, cellsS, one, ones, setO, Value.oneCell', OutOK_need, OutOK_stop, undefS, undef, List.size_toArray, List.length_cons, List.length_nil, List.range, List.range.loop, List.getElem?_toArray, List.getElem?_cons_succ, List.getElem?_cons_zero, List.map_cons, List.map_nil, ↓reduceIte, Nat.reduceAdd, Nat.reduceLT, Nat.reduceEqDiff, Nat.zero_add, Bool.not_false, true_and, and_self, forall_const, gl0, Try.sz24, Try.ze24, Try.pl24]
    refine hκ.ret _ _ _ _ _ _ trivial rfl ?_
    exact .ret (by simp [SV.bnd, SV.bndL])
  rw [h1] at c1
  have hwt := (WT.iff ms en).1 h1
  refine Does.ret hκ.hP hκ.hgl (c1) ⟨trivial, by simp [SV.bnd, SV.bndL], by first | (simp [SV.bnd, SV.bndL]; done) | assumption⟩ ?_
  refine hκ.run 300 ?_
  simp (disch := omega) only [exec_succ, runR_next, runR_fork_false, runR_call, stepS, runOp, condS, toSR, sop, rOf, sLoadIn, sLoad, sUn, ev, evs, Env.get, Heap.get, takeN, cut, aggOf, setO, OutOK_call, List.size_toArray, List.length_cons, List.length_nil, List.range, List.range.loop, List.getElem?_toArray, List.getElem?_cons_succ, List.getElem?_cons_zero, ↓reduceIte, Nat.reduceAdd, Nat.reduceLT, Nat.reduceEqDiff, Nat.zero_add, Bool.not_true, gl0, Try.sz27, Try.ag27]
  refine Does.ret hκ.hP hκ.hgl (c2) ⟨trivial, by simp [SV.bnd, SV.bndL], by first | (simp [SV.bnd, SV.bndL]; done) | assumption⟩ ?_
  cases h2 : rightM (t, l)
  · have e1 : addE ms en (t, l) = 2 := by rw [addE, if_pos h1, if_neg (fun h => by rw [h2] at h; cases h.1)]
    rw [e1, if_neg (by decide)] at hκ
    refine hκ.run 300 ?_
    simp (disch := omega) only [exec_succ, runR_next, runR_need, runR_fork_true, runR_guard_tf, runR_stop, stepS, runOp, guardS, condS, toSR, sop, rOf, sPick, sLoad, sStoreIn, sStore, sBin, sUn, sFieldAddr, fillS, evps, sBuild, ev, svs, Env.get, Heap.get, Heap.set, over, paste, cellsS, one, ones, setO, Value.oneCell', OutOK_need, OutOK_stop, undefS, undef, List.size_toArray, List.length_cons, List.length_nil, List.range, List.range.loop, List.getElem?_toArray, List.getElem?_cons_succ, List.getElem?_cons_zero, List.map_cons, List.map_nil, Option.bind_some, ↓reduceIte, Nat.reduceAdd, Nat.reduceLT, Nat.reduceEqDiff, Nat.zero_add, Nat.add_zero, Nat.add_one_ne_zero, Bool.not_false, true_and, and_self, forall_const, gl0, Try.sz24, Try.ze24, Try.pl24, Try.fd24f1, Try.fd27f0]
    refine hκ.ret _ _ _ _ _ _ trivial rfl ?_
    exact .ret (by simp [SV.bnd, SV.bndL])
  by_cases h3 : t < en
  · have e1 : addE ms en (t, l) = 2 := by rw [addE, if_pos h1, if_neg (fun h => by have := h.2; dsimp only at this; omega)]
    rw [e1, if_neg (by decide)] at hκ
    refine hκ.run 300 ?_
    simp (disch := omega) only [exec_succ, runR_next, runR_need, runR_fork_true, runR_guard_ff, runR_stop, stepS, runOp, guardS, condS, toSR, sop, rOf, sPick, sLoadIn, sLoad, sStoreIn, sStore, sInt, sBin, sUn, sFieldAddr, fillS, evps, sBuild, ev, svs, Env.get, Heap.get, Heap.set, takeN, cut, over, paste, aggOf, cellsS, one, ones, setO, Value.oneCell', OutOK_need, OutOK_stop, undefS, undef, List.size_toArray, List.length_cons, List.length_nil, List.range, List.range.loop, List.getElem?_toArray, List.getElem?_cons_succ, List.getElem?_cons_zero, List.map_cons, List.map_nil, Option.bind_some, ↓reduceIte, Nat.reduceAdd, Nat.reduceLT, Nat.reduceEqDiff, Nat.zero_add, Nat.add_zero, Nat.add_one_ne_zero, Bool.not_true, Bool.not_false, decide_true, true_and, and_self, forall_const, gl0, Try.sz2, Try.ag2, Try.sz24, Try.ze24, Try.pl24, Try.fd24f1, Try.fd27f0, h3]
    refine hκ.ret _ _ _ _ _ _ trivial rfl ?_
    exact .ret (by simp [SV.bnd, SV.bndL])
  have e1 : addE ms en (t, l) = 0 := by rw [addE, if_pos h1, if_pos ⟨h2, by dsimp only; omega⟩]
  rw [e1, if_pos rfl] at hκ
  refine hκ.run 300 ?_
  simp (disch := omega) only [exec_succ, runR_next, runR_fork_false, runR_guard_ff, runR_stop, stepS, runOp, guardS, condS, toSR, sop, rOf, sPick, sLoadIn, sLoad, sInt, sBin, sUn, sFieldAddr, ev, Env.get, Heap.get, takeN, cut, aggOf, setO, OutOK_stop, undefS, undef, List.size_toArray, List.length_cons, List.length_nil, List.range, List.range.loop, List.getElem?_toArray, List.getElem?_cons_succ, List.getElem?_cons_zero, Option.bind_some, ↓reduceIte, Nat.reduceLT, Nat.reduceEqDiff, Nat.zero_add, Nat.add_zero, Nat.add_one_ne_zero, Bool.not_true, Bool.not_false, decide_false, and_self, gl0, Try.sz2, Try.ag2, Try.fd24f1, Try.fd27f0, h3]
  refine Sat.nilRow 6 2 27 rfl ?_
  refine Sat.less (Sat.loop (γ := Nat × List Mo × Nat) (fun g => ([(7, I g.1), (6, .sl 3 2 0 g.2.1.length g.2.2), (4, .ptr 2 0 0 0), (3, .ptr 1 0 0 0), (2, .ptr 0 0 0 0)], [(3, .row 2 g.2.2 27 (g.2.1.map eM)), (2, .own [.v (.slice none 0 0), I 0] 24), (1, .own [I t, Xs l] 27), (0, .own [Ms ms, I en] 24)], 4)) (fun g => ms.length - g.1) (fun g => g.1 ≤ ms.length ∧ g.2.1 = (ms.take g.1).filter (fun m => decide (¬ m.1 = t)) ∧ g.2.1.length ≤ g.1) ?round (0, [], 0) ⟨Nat.zero_le _, rfl, Nat.le_refl _⟩) (by repeat' (first | exact EnvSub.nil _ | exact HeapSub.nil _ | refine EnvSub.cons rfl ?_ | refine HeapSub.cons rfl ?_ | (refine EnvSub.cons (by simp [Env.get]; done) ?_) | (refine HeapSub.cons (by simp [Heap.get]; done) ?_))) (by repeat' (first | exact EnvSub.nil _ | exact HeapSub.nil _ | refine EnvSub.cons rfl ?_ | refine HeapSub.cons rfl ?_ | (refine EnvSub.cons (by simp [Env.get]; done) ?_) | (refine HeapSub.cons (by simp [Heap.get]; done) ?_)))
  case round =>
    rintro ⟨k, L, cap⟩ ⟨hk, hL, hLn⟩ ih
    dsimp only at hk hL hLn ih ⊢
    refine Sat.room 3 rfl fun hroom => ?_
    rw [List.length_map] at hroom
    have em : List.take L.length (List.map eM L) = List.map eM L := List.take_of_length_le (by simp)
    refine hκ.runA 11 300 ?_
    simp (disch := omega) only [sBuiltin, runR_next, stepS, runOp, condS, toSR, sop, rOf, sLoadIn, sLoad, sInt, sBin, sFieldAddr, sLen, ev, Env.get, Heap.get, takeN, cut, aggOf, halt, isAt, atC, execA_succ, List.size_toArray, List.length_cons, List.length_nil, List.length_map, List.range, List.range.loop, List.getElem?_toArray, List.getElem?_cons_succ, List.getElem?_cons_zero, ↓reduceIte, Nat.reduceAdd, Nat.reduceLT, Nat.reduceEqDiff, Nat.zero_add, Nat.add_zero, Nat.add_one_ne_zero, Nat.reduceBEq, gl0, Try.underlying22, Try.sz22, Try.ag22, Try.fd24f0]
    refine OutOK_fork (fun h => ?_) (fun h => ?_) <;> try simp only [Bool.not_true, Bool.not_false, decide_eq_true_eq, decide_eq_false_iff_not, Bool.not_eq_true', Bool.not_eq_false', Bool.and_eq_true, Bool.or_eq_false_iff, Bool.or_eq_true, Bool.and_eq_false_iff] at h
    · obtain ⟨v1, v2, v3⟩ := hf _ (getD_mem (show k < ms.length by omega))
      have hz := fun L cap h1 h2 => ih (k + 1, L, cap) ⟨by dsimp only; omega, h1, h2⟩ (by dsimp only; omega)
      dsimp only at hz
      rw [take_getD (by omega), List.filter_append, ← hL] at hz
      simp (disch := omega) only [allQuiet, quietOp, drawS, drawGo, drawN, drawFin, runR_next, runR_need, stepS, condS, sop, rOf, sLoadIn, sLoad, sInt, sEq, sEqR, sEqAgg, aggS, sBin, sFieldAddr, sIndexAddr, elemT, obind, ev, svs, Env.get, Heap.get, takeN, cut, aggOf, OutOK_need, Option.isNone_none, halt, isAt, atC, execA_succ, Bool.and_true, Bool.false_eq_true, List.length_map, ↓reduceIte, Nat.reduceLT, Nat.reduceEqDiff, Nat.add_zero, Nat.add_one_ne_zero, Nat.reduceBEq, Int.toNat_natCast, getD_map, Try.underlying2, Try.sz2, Try.ag2, Try.underlying22, Try.sz22, Try.ag22, Try.fd24f0, Try.sz27, Try.fd27f0, eM]
      (repeat (refine ⟨by first | omega | (refine ⟨?_, ?_⟩ <;> omega) | trivial | (simp; done) | decide +kernel, fun _ => ?_⟩))
      by_cases e2 : (ms.getD k default).1 = t
      · have hy := hz L cap (by rw [List.filter_cons_of_neg (by simpa using e2)]; simp) (by omega)
        have e2t : ((ms.getD k default).1 = t) = True := by first | (simp only [eq_iff_iff, iff_true]; first | assumption | omega) | (simp; omega)
        simp (disch := omega) only [runR_next, runR_fork_false, runR_stop, stepS, runOp, toSR, sop, rOf, sInt, sBin, ev, Env.get, OutOK_stop, halt, isAt, atC, execA_succ, List.size_toArray, List.length_cons, List.length_nil, List.range, List.range.loop, List.getElem?_toArray, List.getElem?_cons_succ, List.getElem?_cons_zero, ↓reduceIte, Nat.reduceAdd, Nat.reduceLT, Nat.reduceEqDiff, Nat.zero_add, Nat.reduceBEq, Bool.not_true, decide_true, wrap_i64, e2t]
        refine Sat.via (fun i => i) (hy) (by intro i j; (repeat (first | omega | split))) (by repeat' (first | exact EnvVia.nil | refine EnvVia.cons (by first | trivial | decide | (simp [SV.bnd, SV.bndL]; done)) rfl ?_)) (by repeat' (first | exact HeapVia.nil | refine HeapVia.cons (by decide) (by first | trivial | (simp [Blk.bnd, SV.bnd, SV.bndL]; done) | exact bndL_mapV _ _ _ | exact LR.bnd (by rw [l2]; simp [bndE, SV.bnd, SV.bndL]) (by rw [l6]; decide)) (by first | rfl | (simp only [Blk.ren, renL_mapV]; rfl) | (rw [LR.ren (by rw [l2] <;> rfl) (by rw [l6] <;> rfl)]; rfl)) ?_)) ⟨by have := hκ.hm; (try dsimp only at this); (first | done | omega), fun i hi => by have := hκ.hm; (try dsimp only at this); (first | omega | (dsimp only; omega) | (rw [if_neg (by omega)]))⟩ ⟨by simp, rfl⟩
      · have hy := fun cap => hz (L ++ [ms.getD k default]) cap (by rw [List.filter_cons_of_pos (by simpa using e2)]; rfl) (by simp; omega)
        simp (disch := omega) only [sBuiltin, srcS, appArgS, sAppendTo, sAppend, runR_next, runR_need, runR_all, runR_fork_true, runR_stop, stepS, runOp, toSR, sop, rOf, rNew, isArr, sLoadIn, sLoad, sInt, sBin, sFieldAddr, sIndexAddr, elemT, sliceT, obind, fillS, evps, repeatL, sBuildSlice, chunk, ev, svs, Env.get, Heap.get, Heap.drop, takeN, cut, over, paste, aggOf, cellsS, one, ones, idFree, idFrees, Value.oneCell', OutOK_need, OutOK_all, OutOK_stop, halt, isAt, atC, execA_succ, Bool.and_true, List.drop_zero, List.take_succ_cons, List.take_nil, List.size_toArray, List.length_cons, List.length_nil, List.length_map, List.range, List.range.loop, List.getElem?_toArray, List.getElem?_cons_succ, List.getElem?_cons_zero, List.map_cons, List.map_nil, List.append_nil, ↓reduceIte, Nat.reduceAdd, Nat.reduceLT, Nat.reduceLeDiff, Nat.reduceEqDiff, Nat.zero_add, Nat.add_zero, Nat.zero_mul, Nat.one_mul, Nat.add_one_ne_zero, Nat.reduceBEq, Int.toNat_natCast, Bool.not_false, decide_false, ne_eq, not_false_eq_true, true_and, and_self, forall_const, reduceCtorEq, getD_map, wrap_i64, Try.underlying22, Try.sz22, Try.ag22, Try.fd24f0, Try.sz27, Try.ag27, Try.ze27, Try.by27, e2, eM]
        (repeat (refine ⟨by first | omega | (refine ⟨?_, ?_⟩ <;> omega) | trivial | (simp; done) | decide +kernel, fun _ => ?_⟩))
        (try (repeat (refine ⟨by first | omega | (refine ⟨?_, ?_⟩ <;> omega) | trivial | (simp; done) | decide +kernel, fun _ => ?_⟩)))
        intro c
        have hy := hy (L.length + 1 + c)
        simp only [List.length_append, List.length_cons, List.length_nil, List.length_singleton, List.length_map, List.length_set, List.length_replicate, Nat.zero_add, Nat.add_zero, Int.natCast_add, Int.natCast_one, Int.ofNat_eq_natCast, List.map_append, List.map_cons, List.map_nil, List.take_length, eI, eB] at hy ⊢
        rw [em]
        refine Sat.via (fun i => if i = 3 then 5 else i) (hy) (by intro i j; (repeat (first | omega | split))) (by repeat' (first | exact EnvVia.nil | refine EnvVia.cons (by first | trivial | decide | (simp [SV.bnd, SV.bndL]; done)) rfl ?_)) (by repeat' (first | exact HeapVia.nil | refine HeapVia.cons (by decide) (by first | trivial | (simp [Blk.bnd, SV.bnd, SV.bndL]; done) | exact bndL_mapV _ _ _ | exact LR.bnd (by rw [l2]; simp [bndE, SV.bnd, SV.bndL]) (by rw [l6]; decide)) (by first | rfl | (simp only [Blk.ren, renL_mapV]; rfl) | (rw [LR.ren (by rw [l2] <;> rfl) (by rw [l6] <;> rfl)]; rfl)) ?_)) ⟨by have := hκ.hm; (try dsimp only at this); (first | done | omega), fun i hi => by have := hκ.hm; (try dsimp only at this); (first | omega | (dsimp only; omega) | (rw [if_neg (by omega)]))⟩ ⟨by simp, rfl⟩
    · simp (disch := omega) only [runR_next, stepS, goS, exitTo, OutOK_stop, halt, isAt, atC, execA_succ, ↓reduceIte, beq_self_eq_true]
      obtain rfl : k = ms.length := by omega
      rw [List.take_length, keepW_filter hwt (by omega)] at hL
      have ea : addW ms (t, l) = L ++ [(t, l)] := by rw [hL]; rfl
      rw [ea] at hκ
      have e9 : List.take (L.length + 1) (List.map eM L ++ [[I t, Xs l]]) = List.map eM (L ++ [(t, l)]) := by rw [List.take_of_length_le (by simp), List.map_append]; rfl
      have e4 : ((L.length : Int) = 2000) = False := by first | (simp only [eq_iff_iff, iff_false]; first | assumption | omega) | (simp; omega)
      refine hκ.runD 300 ?_
      simp (disch := omega) only [sBuiltin, runR_next, runR_fork_false, stepS, runOp, condS, toSR, sop, rOf, sInt, sBin, sLen, ev, Env.get, OutOK_stop, halt, isDraw, drawC, execD_succ, List.size_toArray, List.length_cons, List.length_nil, List.range, List.range.loop, List.getElem?_toArray, List.getElem?_cons_succ, List.getElem?_cons_zero, ↓reduceIte, Nat.reduceAdd, Nat.reduceLT, Nat.reduceEqDiff, Nat.zero_add, decide_false, gl0, Try.underlying22, e4]
      refine hκ.draw (.q 0 (.q 1 (.q 4 (.q 5 (.l 2 [5] (.l 3 [1, 5] (.q 6 (.l 7 [] (.q 8 (.fin)))))))))) [0, 1, 4, 5, 6, 8] (by kernel_rfl) (by kernel_rfl) rfl ?_
      simp (disch := omega) only [sBuiltin, srcS, appArgS, sAppendTo, sAppend, sop, rOf, rNew, isArr, sLoadIn, sLoad, sStoreIn, sStore, sFieldAddr, sliceT, obind, fillS, evps, sBuild, repeatL, sBuildSlice, chunk, ev, svs, Env.get, Heap.get, Heap.set, Heap.drop, takeN, cut, over, paste, aggOf, cellsS, one, ones, idFree, idFrees, setO, Value.cells, Value.oneCell', drawP_fin, drawP_q, drawP_l, dnext, dq, dqn, dl, slotR, ag, guardP, R1Q, dstOK, loudP, again, again1, slotIs, R1OK, undefS, undef, Bool.and_true, List.drop_zero, List.take_succ_cons, List.take_nil, List.length_cons, List.length_nil, List.length_map, List.range, List.range.loop, List.getElem?_toArray, List.getElem?_cons_succ, List.getElem?_cons_zero, List.map_cons, List.map_nil, List.append_nil, List.toList_toArray, ↓reduceIte, Nat.reduceAdd, Nat.reduceLT, Nat.reduceLeDiff, Nat.reduceEqDiff, Nat.zero_add, Nat.add_zero, Nat.zero_mul, Nat.one_mul, Nat.add_one_ne_zero, ne_eq, not_false_eq_true, true_and, and_self, forall_const, reduceCtorEq, gl0, Try.sz2, Try.ag2, Try.underlying22, Try.sz24, Try.ze24, Try.pl24, Try.sz27, Try.ag27, Try.ze27, Try.by27, Try.fd27f0]
      (repeat (refine ⟨by first | omega | (refine ⟨?_, ?_⟩ <;> omega) | trivial | (simp; done) | decide +kernel, fun _ => ?_⟩))
      intro c
      rw [em]
      refine Sat.frzOwn [5] 2 _ _ rfl (by decide) (by first | (simp [lendPL, lendP, lendSlP, Heap.get]; done) | (simp only [lendPL, lendP, lendSlP, Heap.get, List.mem_singleton, List.mem_cons, List.not_mem_nil, or_false, or_true, true_or, Nat.reduceEqDiff, Nat.one_ne_zero, Nat.zero_ne_one, ↓reduceIte, and_true, true_and, List.length_map, List.length_append, List.length_cons, List.length_nil, List.length_replicate]; omega)) ?_
      simp only [lendL, lendS, lendSl, Heap.get, without, List.mem_singleton, List.mem_cons, List.not_mem_nil, or_false, or_true, true_or, List.drop_zero, List.take_length, List.take_succ_cons, List.take_zero, Nat.reduceAdd, Nat.reduceEqDiff, Nat.one_ne_zero, Nat.zero_ne_one, ↓reduceIte]
      simp only [Heap.set, Nat.reduceEqDiff, ↓reduceIte, e9]
      refine hκ.run 300 ?_
      simp (disch := omega) only [exec_succ, runR_stop, stepS, OutOK_stop, gl0]
      refine hκ.ret _ _ _ _ _ _ trivial rfl ?_
      exact .ret (by simp [SV.bnd, SV.bndL])
end Go.Proofs.Ytbjhphjpdeblnaa

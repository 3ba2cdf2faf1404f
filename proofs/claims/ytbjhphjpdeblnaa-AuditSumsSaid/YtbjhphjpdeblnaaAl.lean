/- Watches: the times in which a vCPU waits alone, as the document says them. No condition. -/
import Derived.Test.YtbjhphjpdeblnaaAk
namespace Go.Proofs.Ytbjhphjpdeblnaa
open Go Go.Sy
set_option maxRecDepth 100000
set_option linter.unusedSimpArgs false
set_option linter.unusedVariables false

theorem rwaitsW_ok (ms : List Mo) (en v : Int) (hf : ∀ m ∈ ms, inM m) (hwt : WT ms en) (hv : i64 v) : Con Try.prog gl0 (fnv 18) [Wt ms en, I v] 0 [] (RetRow 46 2 ((waitsK ms en v ms.length).map eT)) := by
  have hlen := hwt.len
  have hen := hwt.en1
  refine Con.of Try.ok18 (nt := 81) (res := [.tmp 4]) Try.mixed Try.func18 rfl rfl rfl rfl fun κ xc hκ => hκ.run 300 ?_
  simp (disch := omega) only [exec_succ, runR_next, runR_stop, stepS, runOp, toSR, sop, rOf, rNew, sBox, isArr, ev, Env.get, cellsS, envOf, OutOK_stop, Bool.false_eq_true, List.size_toArray, List.length_cons, List.length_nil, List.range, List.range.loop, List.getElem?_toArray, List.getElem?_cons_succ, List.getElem?_cons_zero, ↓reduceIte, Nat.reduceAdd, Nat.reduceLT, Nat.zero_add, gl0]
  refine Sat.nilRow 5 2 46 rfl ?_
  refine Sat.less (Sat.loop (γ := Nat × Nat) (fun g => ([(6, I g.1), (5, .sl 1 2 0 (waitsK ms en v g.1).length g.2), (2, .ptr 0 0 0 0), (1, I v)], [(1, .row 2 g.2 46 ((waitsK ms en v g.1).map eT)), (0, .own [Ms ms, I en] 24)], 2)) (fun g => ms.length - g.1) (fun g => g.1 ≤ ms.length) ?round (0, 0) (Nat.zero_le _)) (by repeat' (first | exact EnvSub.nil _ | exact HeapSub.nil _ | refine EnvSub.cons rfl ?_ | refine HeapSub.cons rfl ?_ | (refine EnvSub.cons (by simp [Env.get]; done) ?_) | (refine HeapSub.cons (by simp [Heap.get]; done) ?_))) (by repeat' (first | exact EnvSub.nil _ | exact HeapSub.nil _ | refine EnvSub.cons rfl ?_ | refine HeapSub.cons rfl ?_ | (refine EnvSub.cons (by simp [Env.get]; done) ?_) | (refine HeapSub.cons (by simp [Heap.get]; done) ?_)))
  case round =>
    rintro ⟨k, cap⟩ hk ih
    dsimp only at hk ih ⊢
    refine Sat.room 1 rfl fun hroom => ?_
    rw [List.length_map] at hroom
    have hsl := waitsK_len ms en v k
    refine hκ.run 300 ?_
    simp (disch := omega) only [sBuiltin, exec_succ, runR_next, stepS, runOp, condS, toSR, sop, rOf, sLoadIn, sLoad, sInt, sBin, sFieldAddr, sLen, ev, Env.get, Heap.get, takeN, cut, aggOf, List.size_toArray, List.length_cons, List.length_nil, List.length_map, List.range, List.range.loop, List.getElem?_toArray, List.getElem?_cons_succ, List.getElem?_cons_zero, ↓reduceIte, Nat.reduceAdd, Nat.reduceLT, Nat.reduceEqDiff, Nat.zero_add, Nat.add_zero, Nat.add_one_ne_zero, gl0, Try.underlying22, Try.sz22, Try.ag22, Try.fd24f0]
    refine OutOK_fork (fun h => ?_) (fun h => ?_) <;> try simp only [Bool.not_true, Bool.not_false, decide_eq_true_eq, decide_eq_false_iff_not, Bool.not_eq_true', Bool.not_eq_false', Bool.and_eq_true, Bool.or_eq_false_iff, Bool.or_eq_true, Bool.and_eq_false_iff] at h
    · have hm := hf _ (getD_mem (show k < ms.length by omega))
      have hsee := seenB_of hwt (show k < ms.length by omega)
      have hz := fun cap => ih (k + 1, cap) (by dsimp only; omega) (by dsimp only; omega)
      have hub := hwt.until (k := k) (by omega)
      have c1 := rfind_ok _ v hm hv
      have c2 := runtil_ok ms en k hf (by omega) (by omega)
      dsimp only at hz
      rw [waitsK, waitV] at hz
      generalize waitsK ms en v k = S at hz hroom hsl ⊢
      obtain ⟨⟨a, l⟩, hmm⟩ : ∃ m : Mo, ms.getD k default = m := ⟨_, rfl⟩
      simp only [aW, hmm] at hm hz hub c1 hsee
      generalize untilW ms en k = u at hz hub c2
      have gk0 : (List.map eM ms).getD k [] = eM (a, l) := by rw [← hmm]; exact getD_map _ _ _ (by omega)
      obtain ⟨hm1, hm2, hm3⟩ := hm
      dsimp only at hm1 hm2 hm3
      have et : List.take S.length (List.map eT S) = List.map eT S := List.take_of_length_le (by simp)
      simp (disch := omega) only [exec_succ, runR_next, runR_need, runR_call, stepS, runOp, toSR, sop, rOf, sLoadIn, sLoad, sFieldAddr, sIndexAddr, elemT, obind, ev, evs, Env.get, Heap.get, takeN, cut, aggOf, OutOK_need, OutOK_call, List.size_toArray, List.length_cons, List.length_nil, List.length_map, List.range, List.range.loop, List.getElem?_toArray, List.getElem?_cons_succ, List.getElem?_cons_zero, ↓reduceIte, Nat.reduceAdd, Nat.reduceLT, Nat.reduceEqDiff, Nat.zero_add, Nat.add_zero, Nat.add_one_ne_zero, Int.toNat_natCast, Try.underlying22, Try.sz22, Try.ag22, Try.fd24f0, Try.sz27, Try.ag27, eM, gk0]
      (repeat (refine ⟨by first | omega | (refine ⟨?_, ?_⟩ <;> omega) | trivial | (simp; done) | decide +kernel, fun _ => ?_⟩))
      refine Does.ret hκ.hP hκ.hgl (c1) ⟨trivial, by simp [SV.bnd, SV.bndL], by first | (simp [SV.bnd, SV.bndL]; done) | assumption⟩ ?_
      refine hκ.runD 300 ?_
      simp (disch := omega) only [runR_next, stepS, runOp, toSR, sop, rOf, ev, Env.get, setO, OutOK_stop, halt, isDraw, drawC, execD_succ, List.getElem?_toArray, List.getElem?_cons_succ, List.getElem?_cons_zero, ↓reduceIte, Nat.reduceLT, gl0]
      refine hκ.draw (.q 0 (.q 1 (.q 2 (.q 3 (.q 4 (.q 5 (.q 6 (.q 7 (.l 8 [1, 5] (.q 9 (.q 10 (.fin)))))))))))) [0, 1, 2, 3, 4, 5, 6, 7, 9, 10] (by kernel_rfl) (by kernel_rfl) rfl ?_
      simp (disch := omega) only [sop, rOf, sLoadIn, sLoad, sFieldAddr, sIndexAddr, elemT, obind, ev, evs, Env.get, Heap.get, takeN, cut, aggOf, setO, drawP_q, drawP_l, dq, dqn, dl, guardP, R1Q, dstOK, loudP, List.length_map, List.getElem?_toArray, List.getElem?_cons_succ, List.getElem?_cons_zero, ↓reduceIte, Nat.reduceLT, Nat.reduceEqDiff, Nat.add_zero, Nat.add_one_ne_zero, Int.toNat_natCast, true_and, gl0, Try.sz2, Try.ag2, Try.underlying22, Try.sz22, Try.ag22, Try.sz24, Try.ag24, Try.fd24f0, Try.sz27, Try.fd27f0, eM, gk0]
      (repeat (refine ⟨by first | omega | (refine ⟨?_, ?_⟩ <;> omega) | trivial | (simp; done) | decide +kernel, fun _ => ?_⟩))
      refine DCall.of (Does.ret hκ.hP hκ.hgl (c2) ⟨trivial, by simp [SV.bnd, SV.bndL], by first | (simp [SV.bnd, SV.bndL]; done) | assumption⟩ ?_)
      simp (disch := omega) only [sop, rOf, sLoadIn, sLoad, ev, Env.get, Heap.get, takeN, cut, aggOf, setO, drawP_fin, drawP_q, dnext, dq, dqn, slotR, ag, guardP, R1Q, dstOK, again, again1, slotIs, R1OK, List.getElem?_toArray, List.getElem?_cons_succ, List.getElem?_cons_zero, ↓reduceIte, Nat.reduceLT, Nat.reduceEqDiff, Nat.add_one_ne_zero, true_and, and_self, Try.sz2, Try.ag2, Try.sz22, Try.ag22]
      rcases idx_find v l with ⟨e0, e1⟩ | ⟨e0, e1⟩
      · simp only [e0, Option.map_none, Option.getD_none, Bool.false_eq_true, false_and, if_false] at hz
        have hy := hz cap
        rw [seenI, e1, if_neg (Nat.lt_irrefl _)]
        refine hκ.run 300 ?_
        simp (disch := omega) only [exec_succ, runR_next, runR_fork_true, runR_guard_tf, runR_stop, stepS, runOp, guardS, condS, goS, toSR, sop, rOf, sPick, sLoad, sInt, sEq, sEqR, sBin, sUn, sFieldAddr, sIndexAddr, ev, evs, Env.get, exitTo, OutOK_stop, undefS, undef, List.size_toArray, List.length_cons, List.length_nil, List.range, List.range.loop, List.getElem?_toArray, List.getElem?_cons_succ, List.getElem?_cons_zero, Option.bind_some, ↓reduceIte, Nat.reduceAdd, Nat.reduceLT, Nat.reduceEqDiff, Nat.zero_add, Nat.add_zero, Nat.add_one_ne_zero, Int.reduceLT, Int.reduceNeg, Bool.not_false, decide_true, beq_self_eq_true, and_self, wrap_i64, gl0, Try.fd24f0]
        refine Sat.via (fun i => i) (hy) (by intro i j; (repeat (first | omega | split))) (by repeat' (first | exact EnvVia.nil | refine EnvVia.cons (by first | trivial | decide | (simp [SV.bnd, SV.bndL]; done)) rfl ?_)) (by repeat' (first | exact HeapVia.nil | refine HeapVia.cons (by decide) (by first | trivial | (simp [Blk.bnd, SV.bnd, SV.bndL]; done) | exact bndL_mapV _ _ _ | exact LR.bnd (by rw [l2]; simp [bndE, SV.bnd, SV.bndL]) (by rw [l6]; decide)) (by first | rfl | (simp only [Blk.ren, renL_mapV]; rfl) | (rw [LR.ren (by rw [l2] <;> rfl) (by rw [l6] <;> rfl)]; rfl)) ?_)) ⟨by have := hκ.hm; (try dsimp only at this); (first | done | omega), fun i hi => by have := hκ.hm; (try dsimp only at this); (first | omega | (dsimp only; omega) | (rw [if_neg (by omega)]))⟩ ⟨by simp, rfl⟩
      simp only [e1, Option.map_some, Option.getD_some] at hz
      rw [seenI, if_pos e0]
      generalize idxX l v = i at e0 e1 hz ⊢
      have hxm := hm2 _ (getD_mem e0)
      have hxs := (seenB_iff _).1 (hsee _ (getD_mem e0))
      have c3 := rwaits_ok (l.getD i default) (by omega)
      have gk1 : (List.map eX l).getD i [] = eX (l.getD i default) := getD_map _ _ _ e0
      have ei : ((i : Int) < 0) = False := by first | (simp only [eq_iff_iff, iff_false]; first | assumption | omega) | (simp; omega)
      cases hw : waitB (l.getD i default)
      · rw [hw] at c3
        simp only [hw, Bool.false_eq_true, false_and, if_false] at hz
        have hy := hz cap
        refine hκ.run 300 ?_
        simp (disch := omega) only [exec_succ, runR_next, runR_need, runR_guard_ff, runR_call, stepS, runOp, guardS, toSR, sop, rOf, sLoadIn, sLoad, sInt, sBin, sFieldAddr, sIndexAddr, elemT, obind, ev, evs, Env.get, Heap.get, takeN, cut, aggOf, OutOK_need, OutOK_call, undefS, undef, List.size_toArray, List.length_cons, List.length_nil, List.length_map, List.range, List.range.loop, List.getElem?_toArray, List.getElem?_cons_succ, List.getElem?_cons_zero, Option.bind_some, ↓reduceIte, Nat.reduceAdd, Nat.reduceLT, Nat.reduceEqDiff, Nat.zero_add, Nat.add_zero, Nat.add_one_ne_zero, Int.toNat_natCast, Bool.not_false, decide_false, and_self, gl0, Try.underlying22, Try.sz22, Try.ag22, Try.fd24f0, Try.underlying25, Try.sz25, Try.ag25, Try.sz27, Try.fd27f1, Try.sz65, Try.ag65, ei, gk1, eM, eX, gk0]
        (repeat (refine ⟨by first | omega | (refine ⟨?_, ?_⟩ <;> omega) | trivial | (simp; done) | decide +kernel, fun _ => ?_⟩))
        (try (repeat (refine ⟨by first | omega | (refine ⟨?_, ?_⟩ <;> omega) | trivial | (simp; done) | decide +kernel, fun _ => ?_⟩)))
        refine Does.ret hκ.hP hκ.hgl c3 ⟨trivial, by simp [SV.bnd, SV.bndL, eX], by simp [SV.bnd]⟩ ?_
        refine hκ.run 300 ?_
        simp (disch := omega) only [exec_succ, runR_next, runR_fork_true, runR_guard_ff, runR_guard_tf, runR_stop, stepS, runOp, guardS, condS, goS, toSR, sop, rOf, sPick, sInt, sEq, sEqR, sBin, sUn, ev, Env.get, setO, exitTo, OutOK_stop, undefS, undef, List.size_toArray, List.length_cons, List.length_nil, List.range, List.range.loop, List.getElem?_toArray, List.getElem?_cons_succ, List.getElem?_cons_zero, Option.bind_some, ↓reduceIte, Nat.reduceAdd, Nat.reduceLT, Nat.reduceEqDiff, Nat.zero_add, Bool.not_false, beq_self_eq_true, and_self, wrap_i64, gl0]
        refine Sat.via (fun i => i) (hy) (by intro i j; (repeat (first | omega | split))) (by repeat' (first | exact EnvVia.nil | refine EnvVia.cons (by first | trivial | decide | (simp [SV.bnd, SV.bndL]; done)) rfl ?_)) (by repeat' (first | exact HeapVia.nil | refine HeapVia.cons (by decide) (by first | trivial | (simp [Blk.bnd, SV.bnd, SV.bndL]; done) | exact bndL_mapV _ _ _ | exact LR.bnd (by rw [l2]; simp [bndE, SV.bnd, SV.bndL]) (by rw [l6]; decide)) (by first | rfl | (simp only [Blk.ren, renL_mapV]; rfl) | (rw [LR.ren (by rw [l2] <;> rfl) (by rw [l6] <;> rfl)]; rfl)) ?_)) ⟨by have := hκ.hm; (try dsimp only at this); (first | done | omega), fun i hi => by have := hκ.hm; (try dsimp only at this); (first | omega | (dsimp only; omega) | (rw [if_neg (by omega)]))⟩ ⟨by simp, rfl⟩
      rw [hw] at c3
      simp only [hw, true_and] at hz
      by_cases e2 : a = u
      · rw [if_neg (fun h => h e2)] at hz
        have hy := hz cap
        have e2t : (a = u) = True := by first | (simp only [eq_iff_iff, iff_true]; first | assumption | omega) | (simp; omega)
        refine hκ.run 300 ?_
        simp (disch := omega) only [exec_succ, runR_next, runR_need, runR_guard_ff, runR_call, stepS, runOp, guardS, toSR, sop, rOf, sLoadIn, sLoad, sInt, sBin, sFieldAddr, sIndexAddr, elemT, obind, ev, evs, Env.get, Heap.get, takeN, cut, aggOf, OutOK_need, OutOK_call, undefS, undef, List.size_toArray, List.length_cons, List.length_nil, List.length_map, List.range, List.range.loop, List.getElem?_toArray, List.getElem?_cons_succ, List.getElem?_cons_zero, Option.bind_some, ↓reduceIte, Nat.reduceAdd, Nat.reduceLT, Nat.reduceEqDiff, Nat.zero_add, Nat.add_zero, Nat.add_one_ne_zero, Int.toNat_natCast, Bool.not_false, decide_false, and_self, gl0, Try.underlying22, Try.sz22, Try.ag22, Try.fd24f0, Try.underlying25, Try.sz25, Try.ag25, Try.sz27, Try.fd27f1, Try.sz65, Try.ag65, ei, gk1, eM, eX, gk0]
        (repeat (refine ⟨by first | omega | (refine ⟨?_, ?_⟩ <;> omega) | trivial | (simp; done) | decide +kernel, fun _ => ?_⟩))
        (try (repeat (refine ⟨by first | omega | (refine ⟨?_, ?_⟩ <;> omega) | trivial | (simp; done) | decide +kernel, fun _ => ?_⟩)))
        refine Does.ret hκ.hP hκ.hgl c3 ⟨trivial, by simp [SV.bnd, SV.bndL, eX], by simp [SV.bnd]⟩ ?_
        refine hκ.run 300 ?_
        simp (disch := omega) only [exec_succ, runR_next, runR_fork_true, runR_guard_ff, runR_stop, stepS, runOp, guardS, condS, goS, toSR, sop, rOf, sPick, sInt, sBin, sUn, ev, Env.get, setO, exitTo, OutOK_stop, undefS, undef, List.size_toArray, List.length_cons, List.length_nil, List.range, List.range.loop, List.getElem?_toArray, List.getElem?_cons_succ, List.getElem?_cons_zero, Option.bind_some, ↓reduceIte, Nat.reduceAdd, Nat.reduceLT, Nat.reduceEqDiff, Nat.zero_add, Bool.not_true, Bool.not_false, decide_true, beq_self_eq_true, and_self, wrap_i64, gl0, e2t]
        refine Sat.via (fun i => i) (hy) (by intro i j; (repeat (first | omega | split))) (by repeat' (first | exact EnvVia.nil | refine EnvVia.cons (by first | trivial | decide | (simp [SV.bnd, SV.bndL]; done)) rfl ?_)) (by repeat' (first | exact HeapVia.nil | refine HeapVia.cons (by decide) (by first | trivial | (simp [Blk.bnd, SV.bnd, SV.bndL]; done) | exact bndL_mapV _ _ _ | exact LR.bnd (by rw [l2]; simp [bndE, SV.bnd, SV.bndL]) (by rw [l6]; decide)) (by first | rfl | (simp only [Blk.ren, renL_mapV]; rfl) | (rw [LR.ren (by rw [l2] <;> rfl) (by rw [l6] <;> rfl)]; rfl)) ?_)) ⟨by have := hκ.hm; (try dsimp only at this); (first | done | omega), fun i hi => by have := hκ.hm; (try dsimp only at this); (first | omega | (dsimp only; omega) | (rw [if_neg (by omega)]))⟩ ⟨by simp, rfl⟩
      rw [if_pos e2] at hz
      by_cases e3 : S.length = 0
      · have ep : pushW S a u = S ++ [(a, u)] := by rw [pushW, if_neg (fun h => h.1 e3)]
        rw [ep] at hz
        have e3t : ((0 : Int) < (S.length : Int)) = False := by first | (simp only [eq_iff_iff, iff_false]; first | assumption | omega) | (simp; omega)
        refine hκ.run 300 ?_
        simp (disch := omega) only [exec_succ, runR_next, runR_need, runR_guard_ff, runR_call, stepS, runOp, guardS, toSR, sop, rOf, sLoadIn, sLoad, sInt, sBin, sFieldAddr, sIndexAddr, elemT, obind, ev, evs, Env.get, Heap.get, takeN, cut, aggOf, OutOK_need, OutOK_call, undefS, undef, List.size_toArray, List.length_cons, List.length_nil, List.length_map, List.range, List.range.loop, List.getElem?_toArray, List.getElem?_cons_succ, List.getElem?_cons_zero, Option.bind_some, ↓reduceIte, Nat.reduceAdd, Nat.reduceLT, Nat.reduceEqDiff, Nat.zero_add, Nat.add_zero, Nat.add_one_ne_zero, Int.toNat_natCast, Bool.not_false, decide_false, and_self, gl0, Try.underlying22, Try.sz22, Try.ag22, Try.fd24f0, Try.underlying25, Try.sz25, Try.ag25, Try.sz27, Try.fd27f1, Try.sz65, Try.ag65, ei, gk1, eM, eX, gk0]
        (repeat (refine ⟨by first | omega | (refine ⟨?_, ?_⟩ <;> omega) | trivial | (simp; done) | decide +kernel, fun _ => ?_⟩))
        (try (repeat (refine ⟨by first | omega | (refine ⟨?_, ?_⟩ <;> omega) | trivial | (simp; done) | decide +kernel, fun _ => ?_⟩)))
        refine Does.ret hκ.hP hκ.hgl c3 ⟨trivial, by simp [SV.bnd, SV.bndL, eX], by simp [SV.bnd]⟩ ?_
        refine hκ.run 300 ?_
        simp (disch := omega) only [sBuiltin, srcS, appArgS, sAppendTo, sAppend, exec_succ, runR_next, runR_need, runR_all, runR_fork_false, runR_guard_ff, runR_guard_ft, runR_stop, stepS, runOp, guardS, condS, toSR, sop, rOf, rNew, sPick, isArr, sLoad, sInt, sEq, sEqR, sBin, sUn, sFieldAddr, sIndexAddr, sLen, sliceT, obind, fillS, evps, sBuild, repeatL, sBuildSlice, chunk, ev, svs, Env.get, Heap.get, Heap.drop, over, paste, cellsS, one, ones, idFree, idFrees, setO, Value.cells, Value.oneCell', OutOK_need, OutOK_all, OutOK_stop, undefS, undef, Bool.and_true, List.drop_zero, List.take_succ_cons, List.take_nil, List.size_toArray, List.length_cons, List.length_nil, List.length_map, List.range, List.range.loop, List.getElem?_toArray, List.getElem?_cons_succ, List.getElem?_cons_zero, List.map_cons, List.map_nil, List.append_nil, Option.bind_some, List.toList_toArray, ↓reduceIte, Nat.reduceAdd, Nat.reduceLT, Nat.reduceLeDiff, Nat.reduceEqDiff, Nat.zero_add, Nat.zero_mul, Nat.one_mul, Nat.add_one_ne_zero, Bool.not_true, Bool.not_false, decide_false, ne_eq, not_false_eq_true, true_and, and_self, forall_const, reduceCtorEq, wrap_i64, gl0, Try.underlying41, Try.sz46, Try.ze46, Try.pl46, Try.by46, e2, e3t]
        (repeat (refine ⟨by first | omega | (refine ⟨?_, ?_⟩ <;> omega) | trivial | (simp; done) | decide +kernel, fun _ => ?_⟩))
        intro c
        have hy := hz (S.length + 1 + c)
        simp only [List.length_append, List.length_cons, List.length_nil, List.length_singleton, List.length_map, List.length_set, List.length_replicate, Nat.zero_add, Nat.add_zero, Int.natCast_add, Int.natCast_one, Int.ofNat_eq_natCast, List.map_append, List.map_cons, List.map_nil, List.take_length, eI, eB] at hy ⊢
        rw [et]
        refine Sat.via (fun i => if i = 1 then 3 else i) (hy) (by intro i j; (repeat (first | omega | split))) (by repeat' (first | exact EnvVia.nil | refine EnvVia.cons (by first | trivial | decide | (simp [SV.bnd, SV.bndL]; done)) rfl ?_)) (by repeat' (first | exact HeapVia.nil | refine HeapVia.cons (by decide) (by first | trivial | (simp [Blk.bnd, SV.bnd, SV.bndL]; done) | exact bndL_mapV _ _ _ | exact LR.bnd (by rw [l2]; simp [bndE, SV.bnd, SV.bndL]) (by rw [l6]; decide)) (by first | rfl | (simp only [Blk.ren, renL_mapV]; rfl) | (rw [LR.ren (by rw [l2] <;> rfl) (by rw [l6] <;> rfl)]; rfl)) ?_)) ⟨by have := hκ.hm; (try dsimp only at this); (first | done | omega), fun i hi => by have := hκ.hm; (try dsimp only at this); (first | omega | (dsimp only; omega) | (rw [if_neg (by omega)]))⟩ ⟨by simp, rfl⟩
      have hS1 : (S.length : Int) - 1 = ((S.length - 1 : Nat) : Int) := by omega
      have gk : (List.map eT S).getD (S.length - 1) [] = eT (lastT S) := getD_map _ _ _ (by omega)
      have e3t : ((0 : Int) < (S.length : Int)) = True := by first | (simp only [eq_iff_iff, iff_true]; first | assumption | omega) | (simp; omega)
      by_cases e4 : (lastT S).2 = a
      · have ep : pushW S a u = S.set (S.length - 1) ((lastT S).1, u) := by rw [pushW, if_pos ⟨e3, e4⟩]
        rw [ep] at hz
        have e4t : ((lastT S).2 = a) = True := by first | (simp only [eq_iff_iff, iff_true]; first | assumption | omega) | (simp; omega)
        refine hκ.run 300 ?_
        simp (disch := omega) only [exec_succ, runR_next, runR_need, runR_guard_ff, runR_call, stepS, runOp, guardS, toSR, sop, rOf, sLoadIn, sLoad, sInt, sBin, sFieldAddr, sIndexAddr, elemT, obind, ev, evs, Env.get, Heap.get, takeN, cut, aggOf, OutOK_need, OutOK_call, undefS, undef, List.size_toArray, List.length_cons, List.length_nil, List.length_map, List.range, List.range.loop, List.getElem?_toArray, List.getElem?_cons_succ, List.getElem?_cons_zero, Option.bind_some, ↓reduceIte, Nat.reduceAdd, Nat.reduceLT, Nat.reduceEqDiff, Nat.zero_add, Nat.add_zero, Nat.add_one_ne_zero, Int.toNat_natCast, Bool.not_false, decide_false, and_self, gl0, Try.underlying22, Try.sz22, Try.ag22, Try.fd24f0, Try.underlying25, Try.sz25, Try.ag25, Try.sz27, Try.fd27f1, Try.sz65, Try.ag65, ei, gk1, eM, eX, gk0]
        (repeat (refine ⟨by first | omega | (refine ⟨?_, ?_⟩ <;> omega) | trivial | (simp; done) | decide +kernel, fun _ => ?_⟩))
        (try (repeat (refine ⟨by first | omega | (refine ⟨?_, ?_⟩ <;> omega) | trivial | (simp; done) | decide +kernel, fun _ => ?_⟩)))
        refine Does.ret hκ.hP hκ.hgl c3 ⟨trivial, by simp [SV.bnd, SV.bndL, eX], by simp [SV.bnd]⟩ ?_
        refine hκ.run 300 ?_
        simp (disch := omega) only [sBuiltin, exec_succ, runR_next, runR_need, runR_fork_true, runR_fork_false, runR_guard_tt, runR_guard_ff, runR_stop, stepS, runOp, guardS, condS, toSR, sop, rOf, sPick, sLoadIn, sLoad, sStoreIn, sStore, sInt, sBin, sUn, sFieldAddr, sIndexAddr, sLen, elemT, obind, ev, svs, Env.get, Heap.get, Heap.set, takeN, cut, over, paste, aggOf, cellsS, one, ones, idFree, idFrees, setO, Value.cells, Value.oneCell', OutOK_need, OutOK_stop, undefS, undef, Bool.and_true, List.size_toArray, List.length_cons, List.length_nil, List.length_map, List.range, List.range.loop, List.getElem?_toArray, List.getElem?_cons_succ, List.getElem?_cons_zero, List.map_cons, List.map_nil, Option.bind_some, List.toList_toArray, ↓reduceIte, Nat.reduceAdd, Nat.reduceLT, Nat.reduceEqDiff, Nat.zero_add, Nat.add_one_ne_zero, Int.toNat_natCast, Bool.not_true, Bool.not_false, decide_true, decide_false, and_true, and_self, wrap_i64, gl0, Try.sz2, Try.ag2, Try.underlying41, Try.sz46, Try.fd46f1, e2, e3t, hS1, gk, eT, e4t]
        (repeat (refine ⟨by first | omega | (refine ⟨?_, ?_⟩ <;> omega) | trivial | (simp; done) | decide +kernel, fun _ => ?_⟩))
        have hy := hz cap
        rw [List.map_set] at hy
        simp only [List.length_append, List.length_cons, List.length_nil, List.length_singleton, List.length_map, List.length_set, List.length_replicate, Nat.zero_add, Nat.add_zero, Int.natCast_add, Int.natCast_one, Int.ofNat_eq_natCast, List.map_append, List.map_cons, List.map_nil, List.take_length, eI, eB] at hy ⊢
        refine Sat.via (fun i => i) (hy) (by intro i j; (repeat (first | omega | split))) (by repeat' (first | exact EnvVia.nil | refine EnvVia.cons (by first | trivial | decide | (simp [SV.bnd, SV.bndL]; done)) rfl ?_)) (by repeat' (first | exact HeapVia.nil | refine HeapVia.cons (by decide) (by first | trivial | (simp [Blk.bnd, SV.bnd, SV.bndL]; done) | exact bndL_mapV _ _ _ | exact LR.bnd (by rw [l2]; simp [bndE, SV.bnd, SV.bndL]) (by rw [l6]; decide)) (by first | rfl | (simp only [Blk.ren, renL_mapV]; rfl) | (rw [LR.ren (by rw [l2] <;> rfl) (by rw [l6] <;> rfl)]; rfl)) ?_)) ⟨by have := hκ.hm; (try dsimp only at this); (first | done | omega), fun i hi => by have := hκ.hm; (try dsimp only at this); (first | omega | (dsimp only; omega) | (rw [if_neg (by omega)]))⟩ ⟨by simp, rfl⟩
      · have ep : pushW S a u = S ++ [(a, u)] := by rw [pushW, if_neg (fun h => e4 h.2)]
        rw [ep] at hz
        refine hκ.run 300 ?_
        simp (disch := omega) only [exec_succ, runR_next, runR_need, runR_guard_ff, runR_call, stepS, runOp, guardS, toSR, sop, rOf, sLoadIn, sLoad, sInt, sBin, sFieldAddr, sIndexAddr, elemT, obind, ev, evs, Env.get, Heap.get, takeN, cut, aggOf, OutOK_need, OutOK_call, undefS, undef, List.size_toArray, List.length_cons, List.length_nil, List.length_map, List.range, List.range.loop, List.getElem?_toArray, List.getElem?_cons_succ, List.getElem?_cons_zero, Option.bind_some, ↓reduceIte, Nat.reduceAdd, Nat.reduceLT, Nat.reduceEqDiff, Nat.zero_add, Nat.add_zero, Nat.add_one_ne_zero, Int.toNat_natCast, Bool.not_false, decide_false, and_self, gl0, Try.underlying22, Try.sz22, Try.ag22, Try.fd24f0, Try.underlying25, Try.sz25, Try.ag25, Try.sz27, Try.fd27f1, Try.sz65, Try.ag65, ei, gk1, eM, eX, gk0]
        (repeat (refine ⟨by first | omega | (refine ⟨?_, ?_⟩ <;> omega) | trivial | (simp; done) | decide +kernel, fun _ => ?_⟩))
        (try (repeat (refine ⟨by first | omega | (refine ⟨?_, ?_⟩ <;> omega) | trivial | (simp; done) | decide +kernel, fun _ => ?_⟩)))
        refine Does.ret hκ.hP hκ.hgl c3 ⟨trivial, by simp [SV.bnd, SV.bndL, eX], by simp [SV.bnd]⟩ ?_
        refine hκ.run 300 ?_
        simp (disch := omega) only [sBuiltin, srcS, appArgS, sAppendTo, sAppend, exec_succ, runR_next, runR_need, runR_all, runR_fork_false, runR_guard_tt, runR_guard_ff, runR_stop, stepS, runOp, guardS, condS, toSR, sop, rOf, rNew, sPick, isArr, sLoadIn, sLoad, sInt, sBin, sUn, sFieldAddr, sIndexAddr, sLen, elemT, sliceT, obind, fillS, evps, sBuild, repeatL, sBuildSlice, chunk, ev, svs, Env.get, Heap.get, Heap.drop, takeN, cut, over, paste, aggOf, cellsS, one, ones, idFree, idFrees, setO, Value.cells, Value.oneCell', OutOK_need, OutOK_all, OutOK_stop, undefS, undef, Bool.and_true, List.drop_zero, List.take_succ_cons, List.take_nil, List.size_toArray, List.length_cons, List.length_nil, List.length_map, List.range, List.range.loop, List.getElem?_toArray, List.getElem?_cons_succ, List.getElem?_cons_zero, List.map_cons, List.map_nil, List.append_nil, Option.bind_some, List.toList_toArray, ↓reduceIte, Nat.reduceAdd, Nat.reduceLT, Nat.reduceLeDiff, Nat.reduceEqDiff, Nat.zero_add, Nat.zero_mul, Nat.one_mul, Nat.add_one_ne_zero, Int.toNat_natCast, Bool.not_true, Bool.not_false, decide_true, decide_false, ne_eq, not_false_eq_true, true_and, and_self, forall_const, reduceCtorEq, wrap_i64, gl0, Try.sz2, Try.ag2, Try.underlying41, Try.sz46, Try.ze46, Try.pl46, Try.by46, Try.fd46f1, e2, e3t, hS1, gk, eT, e4]
        (repeat (refine ⟨by first | omega | (refine ⟨?_, ?_⟩ <;> omega) | trivial | (simp; done) | decide +kernel, fun _ => ?_⟩))
        intro c
        have hy := hz (S.length + 1 + c)
        simp only [List.length_append, List.length_cons, List.length_nil, List.length_singleton, List.length_map, List.length_set, List.length_replicate, Nat.zero_add, Nat.add_zero, Int.natCast_add, Int.natCast_one, Int.ofNat_eq_natCast, List.map_append, List.map_cons, List.map_nil, List.take_length, eI, eB] at hy ⊢
        rw [et]
        refine Sat.via (fun i => if i = 1 then 3 else i) (hy) (by intro i j; (repeat (first | omega | split))) (by repeat' (first | exact EnvVia.nil | refine EnvVia.cons (by first | trivial | decide | (simp [SV.bnd, SV.bndL]; done)) rfl ?_)) (by repeat' (first | exact HeapVia.nil | refine HeapVia.cons (by decide) (by first | trivial | (simp [Blk.bnd, SV.bnd, SV.bndL]; done) | exact bndL_mapV _ _ _ | exact LR.bnd (by rw [l2]; simp [bndE, SV.bnd, SV.bndL]) (by rw [l6]; decide)) (by first | rfl | (simp only [Blk.ren, renL_mapV]; rfl) | (rw [LR.ren (by rw [l2] <;> rfl) (by rw [l6] <;> rfl)]; rfl)) ?_)) ⟨by have := hκ.hm; (try dsimp only at this); (first | done | omega), fun i hi => by have := hκ.hm; (try dsimp only at this); (first | omega | (dsimp only; omega) | (rw [if_neg (by omega)]))⟩ ⟨by simp, rfl⟩
    · simp (disch := omega) only [exec_succ, runR_next, runR_stop, stepS, runOp, goS, toSR, sop, rOf, ev, Env.get, exitTo, OutOK_stop, List.size_toArray, List.length_cons, List.length_nil, List.range, List.range.loop, List.getElem?_toArray, List.getElem?_cons_succ, List.getElem?_cons_zero, ↓reduceIte, Nat.reduceAdd, Nat.reduceLT, Nat.reduceEqDiff, Nat.zero_add, beq_self_eq_true]
      obtain rfl : k = ms.length := by omega
      refine hκ.run 300 ?_
      simp (disch := omega) only [exec_succ, runR_stop, stepS, OutOK_stop, gl0]
      refine hκ.ret _ _ _ _ _ _ trivial rfl ?_
      exact Post.row rfl (by simp)
end Go.Proofs.Ytbjhphjpdeblnaa

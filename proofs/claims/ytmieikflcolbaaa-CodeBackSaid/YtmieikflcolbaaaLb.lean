/- CodeBack: the walk of the law. No condition. -/
import Derived.Test.YtmieikflcolbaaaLa
namespace Go.Proofs.Ytmieikflcolbaaa
open Go Go.Sy
set_option maxRecDepth 100000
set_option linter.unusedSimpArgs false
set_option linter.unusedVariables false
set_option maxHeartbeats 4000000

theorem back_tail (b : List Int) (hb : isY b) (hl : b.length < 2 ^ 46) : (decE b = 0 ∧ encE (decA b) = 0 ∧ encB (decA b) = b ∧ wf (decA b)) ∨ (decE b ≠ 0 ∧ (decE b = 7 ∨ decE b = 361) ∧ decA b = ev0) := by
  by_cases h : decE b = 0
  · obtain ⟨h1, h2, h3⟩ := enc_dec hb h
    exact Or.inl ⟨h, h2, h3, h1⟩
  · obtain ⟨h1, h2⟩ := dec_err hb h
    exact Or.inr ⟨h, h1, h2⟩
theorem back_law (x : Evt) (b0 : List Int) (hx : wf0 x) (hb0 : isY b0) (hl0 : b0.length < 2 ^ 47) : Law Try.prog gl0 6 [Ev x, By b0] := by
  have f1 := few_okw x hx
  have wa := wf_few hx
  generalize few x = a at *
  have e1 := encode_ok a wa
  have k1 := check_ok a wa
  have hmin : (min (b0.length : Int) 300).toNat = min 300 b0.length := by omega
  have hmt : List.take (min 300 b0.length) (List.map (eI .u8) b0) = (b0.take 300).map (eI .u8) := by
    rw [List.map_take]
    rcases Nat.le_total b0.length 300 with h | h
    · rw [Nat.min_eq_right h, List.take_of_length_le (by simp), List.take_of_length_le (by simpa using h)]
    · rw [Nat.min_eq_left h]
  have hb : isY (b0.take 300) := fun y hy => hb0 y (List.mem_of_mem_take hy)
  have hl : (b0.take 300).length ≤ 300 := by rw [List.length_take]; omega
  have bt := back_tail (b0.take 300) hb (by omega)
  generalize b0.take 300 = b at *
  have cb := decode_ok b hb (by omega)
  refine Law.of (nt := 106) (res := [.tmp 4]) Try.mixed Try.func6 rfl rfl rfl rfl fun κ xc hκ => hκ.run 300 ?_
  simp (disch := omega) only [exec_succ, runR_next, runR_call, stepS, runOp, toSR, sop, rOf, rNew, sBox, isArr, ev, evs, Env.get, cellsS, envOf, OutOK_call, Bool.false_eq_true, List.size_toArray, List.length_cons, List.length_nil, List.range, List.range.loop, List.getElem?_toArray, List.getElem?_cons_succ, List.getElem?_cons_zero, ↓reduceIte, Nat.reduceAdd, Nat.reduceLT, Nat.zero_add, gl0]
  refine Does.ret hκ.hP hκ.hgl wakes_ok ⟨trivial, by first | (simp [SV.bnd, SV.bndL]; done) | (simp [SV.bnd, SV.bndL, ec_bnd]; done), by first | (simp [SV.bnd, SV.bndL]; done) | (simp [SV.bnd, SV.bndL, ec_bnd]; done) | assumption⟩ ?_
  refine hκ.run 300 ?_
  simp (disch := omega) only [exec_succ, runR_next, runR_fork_false, runR_call, stepS, runOp, condS, toSR, sop, rOf, sLoadIn, sLoad, sUn, ev, evs, Env.get, Heap.get, cut, aggOf, setO, OutOK_call, List.size_toArray, List.length_cons, List.length_nil, List.range, List.range.loop, List.getElem?_toArray, List.getElem?_cons_succ, List.getElem?_cons_zero, ↓reduceIte, Nat.reduceAdd, Nat.reduceLT, Nat.reduceEqDiff, Nat.zero_add, Nat.add_zero, Nat.mul_zero, Bool.not_true, gl0, Try.sz37, Try.ag37, tec]
  refine Does.ret hκ.hP hκ.hgl f1 ⟨trivial, by first | (simp [SV.bnd, SV.bndL]; done) | (simp [SV.bnd, SV.bndL, ec_bnd]; done), by first | (simp [SV.bnd, SV.bndL]; done) | (simp [SV.bnd, SV.bndL, ec_bnd]; done) | assumption⟩ ?_
  refine hκ.runA 19 300 ?_
  simp (disch := omega) only [runR_next, runR_need, runR_call, stepS, runOp, toSR, sop, rOf, rNew, sAlloc, sAlloc0, sLoadIn, sLoad, sStoreIn, sStore, ev, evs, svs, Env.get, Heap.get, Heap.set, cut, paste, aggOf, cellsS, setO, OutOK_need, OutOK_call, undefS, undef, halt, isAt, atC, execA_succ, List.size_toArray, List.length_cons, List.length_nil, List.range, List.range.loop, List.getElem?_toArray, List.getElem?_cons_succ, List.getElem?_cons_zero, List.map_cons, List.map_nil, ↓reduceIte, Nat.reduceAdd, Nat.reduceLT, Nat.reduceEqDiff, Nat.zero_add, Nat.add_zero, Nat.mul_zero, Nat.reduceBEq, true_and, forall_const, gl0, Try.sz37, Try.ag37, Try.ze37, Try.ar37, tec, lec, oec, ones_ec]
  apply Sat.join (α := Unit) (nx := 0) (dfs := []) (fun _ => True) (fun _ => ([(1, By b0)], []))
  · intro hj
    have hj := hj () trivial
    dsimp only at hj
    rcases encE_or wa with ha | ha
    · rw [ha] at e1 k1
      obtain ⟨q1, q2⟩ := dec_enc wa ha
      have hYa := encB_Y a
      have hla : (encB a).length < 2 ^ 45 := by
        rw [encB, if_pos ha]
        have := encP_len wa
        omega
      have d1 := decode_ok (encB a) hYa (by omega)
      rw [q1, q2] at d1
      have s1 := same_okw a a wa
      rw [(same_iff wa wa).2 rfl] at s1
      have hless := dec_less wa ha
      have hmore := dec_more wa ha
      have d2 := decode_ok (encB a ++ [0]) (fun y hy => by
        rcases List.mem_append.1 hy with hy | hy
        · exact hYa y hy
        · rw [List.mem_singleton.1 hy]; decide) (by simp; omega)
      rw [hmore] at d2
      refine Does.ret hκ.hP hκ.hgl e1 ⟨trivial, by first | (simp [SV.bnd, SV.bndL]; done) | (simp [SV.bnd, SV.bndL, ec_bnd]; done), by first | (simp [SV.bnd, SV.bndL]; done) | (simp [SV.bnd, SV.bndL, ec_bnd]; done) | assumption⟩ ?_
      refine hκ.runA 19 300 ?_
      simp (disch := omega) only [runR_next, runR_fork_true, runR_call, stepS, runOp, condS, toSR, sop, rOf, sInt, sBin, sExtract, ev, evs, Env.get, setO, OutOK_call, halt, isAt, atC, execA_succ, List.size_toArray, List.length_cons, List.length_nil, List.range, List.range.loop, List.getElem?_toArray, List.getElem?_cons_succ, List.getElem?_cons_zero, ↓reduceIte, Nat.reduceAdd, Nat.reduceLT, Nat.reduceEqDiff, Nat.zero_add, Nat.reduceBEq, decide_true, gl0]
      refine Does.ret hκ.hP hκ.hgl d1 ⟨trivial, by first | (simp [SV.bnd, SV.bndL]; done) | (simp [SV.bnd, SV.bndL, ec_bnd]; done), by first | (simp [SV.bnd, SV.bndL]; done) | (simp [SV.bnd, SV.bndL, ec_bnd]; done) | assumption⟩ ?_
      refine hκ.runA 19 300 ?_
      simp (disch := omega) only [runR_next, runR_need, runR_guard_ff, runR_call, stepS, runOp, guardS, toSR, sop, rOf, rNew, sAlloc, sAlloc0, sLoadIn, sLoad, sStoreIn, sStore, sInt, sBin, sExtract, ev, evs, svs, Env.get, Heap.get, Heap.set, cut, paste, aggOf, cellsS, setO, OutOK_need, OutOK_call, undefS, undef, halt, isAt, atC, execA_succ, List.size_toArray, List.length_cons, List.length_nil, List.range, List.range.loop, List.getElem?_toArray, List.getElem?_cons_succ, List.getElem?_cons_zero, List.map_cons, List.map_nil, Option.bind_some, ↓reduceIte, Nat.reduceAdd, Nat.reduceLT, Nat.reduceEqDiff, Nat.zero_add, Nat.add_zero, Nat.mul_zero, Nat.reduceBEq, Bool.not_true, Bool.not_false, decide_true, true_and, and_self, forall_const, gl0, Try.sz37, Try.ag37, Try.ze37, Try.ar37, tec, lec, oec, ones_ec]
      refine Does.ret hκ.hP hκ.hgl s1 ⟨trivial, by first | (simp [SV.bnd, SV.bndL]; done) | (simp [SV.bnd, SV.bndL, ec_bnd]; done), by first | (simp [SV.bnd, SV.bndL]; done) | (simp [SV.bnd, SV.bndL, ec_bnd]; done) | assumption⟩ ?_
      refine hκ.runA 19 300 ?_
      simp (disch := omega) only [runR_next, runR_guard_ff, runR_call, stepS, runOp, guardS, toSR, sop, rOf, sPick, sLoadIn, sLoad, sUn, ev, evs, Env.get, Heap.get, cut, aggOf, setO, OutOK_call, undefS, undef, halt, isAt, execA_succ, List.getElem?_toArray, List.getElem?_cons_succ, List.getElem?_cons_zero, Option.bind_some, ↓reduceIte, Nat.reduceLT, Nat.reduceEqDiff, Nat.add_zero, Nat.mul_zero, Bool.not_true, Bool.not_false, and_self, gl0, Try.sz37, Try.ag37, tec]
      refine Does.ret hκ.hP hκ.hgl k1 ⟨trivial, by first | (simp [SV.bnd, SV.bndL]; done) | (simp [SV.bnd, SV.bndL, ec_bnd]; done), by first | (simp [SV.bnd, SV.bndL]; done) | (simp [SV.bnd, SV.bndL, ec_bnd]; done) | assumption⟩ ?_
      refine hκ.runA 19 300 ?_
      simp (disch := omega) only [sBuiltin, runR_next, runR_fork_false, runR_guard_ff, runR_stop, stepS, runOp, guardS, condS, toSR, sop, rOf, sPick, sInt, sBin, sLen, ev, Env.get, setO, OutOK_stop, undefS, undef, halt, isAt, atC, execA_succ, List.size_toArray, List.length_cons, List.length_nil, List.length_map, List.range, List.range.loop, List.getElem?_toArray, List.getElem?_cons_succ, List.getElem?_cons_zero, Option.bind_some, ↓reduceIte, Nat.reduceAdd, Nat.reduceLT, Nat.reduceEqDiff, Nat.zero_add, Nat.reduceBEq, Bool.not_true, Bool.not_false, decide_true, and_self, gl0, Try.underlying24]
      refine Sat.less (Sat.loop (γ := Nat) (fun k => ([(47, I k), (46, I (encB a).length), (45, By (encB a)), (6, By (encB a)), (1, By b0)], [], 3)) (fun k => (encB a).length - k) (fun k => k ≤ (encB a).length) ?round 0 (Nat.zero_le _)) (by repeat' (first | exact EnvSub.nil _ | exact HeapSub.nil _ | refine EnvSub.cons rfl ?_ | refine HeapSub.cons rfl ?_ | (refine EnvSub.cons (by simp [Env.get]; done) ?_) | (refine HeapSub.cons (by simp [Heap.get]; done) ?_))) (by repeat' (first | exact EnvSub.nil _ | exact HeapSub.nil _ | refine EnvSub.cons rfl ?_ | refine HeapSub.cons rfl ?_ | (refine EnvSub.cons (by simp [Env.get]; done) ?_) | (refine HeapSub.cons (by simp [Heap.get]; done) ?_)))
      case round =>
        intro k hk ih
        dsimp only at hk ih ⊢
        have mt : List.take k (List.map (eI .u8) (encB a)) = ((encB a).take k).map (eI .u8) := List.map_take.symm
        by_cases hkl : k < (encB a).length
        · have q3 : ((k : Int) < (encB a).length) = True := by first | (simp only [eq_iff_iff, iff_true]; first | assumption | omega) | (simp; omega)
          refine hκ.runA 19 300 ?_
          simp (disch := omega) only [runR_next, runR_need, runR_fork_true, runR_call, stepS, runOp, condS, toSR, sop, rOf, sInt, sBin, optI, sSlice, cutL, elemT, obind, ev, evs, Env.get, OutOK_need, OutOK_call, halt, isAt, atC, execA_succ, List.size_toArray, List.length_cons, List.length_nil, List.length_map, List.range, List.range.loop, List.getElem?_toArray, List.getElem?_cons_succ, List.getElem?_cons_zero, Option.map_some, Option.map_none, Option.getD_some, Option.getD_none, ↓reduceIte, Nat.reduceAdd, Nat.reduceLT, Nat.reduceEqDiff, Nat.zero_add, Nat.reduceBEq, Int.reduceLE, Int.toNat_natCast, decide_true, true_and, gl0, Try.sz5, Try.underlying24, q3, mt]
          (repeat (refine ⟨by first | omega | (refine ⟨?_, ?_⟩ <;> omega) | trivial | (simp; done) | decide +kernel, fun _ => ?_⟩))
          have dk := decode_ok ((encB a).take k) (fun y hy => hYa y (List.mem_of_mem_take hy)) (by rw [List.length_take]; omega)
          rw [hless k hkl] at dk
          refine Does.ret hκ.hP hκ.hgl dk ⟨trivial, by first | (simp [SV.bnd, SV.bndL]; done) | (simp [SV.bnd, SV.bndL, ec_bnd]; done), by first | (simp [SV.bnd, SV.bndL]; done) | (simp [SV.bnd, SV.bndL, ec_bnd]; done) | assumption⟩ ?_
          refine hκ.runA 19 300 ?_
          simp (disch := omega) only [runR_next, runR_need, runR_fork_false, runR_stop, stepS, runOp, condS, toSR, sop, rOf, rNew, sAlloc, sAlloc0, sStoreIn, sStore, sInt, sBin, sExtract, ev, svs, Env.get, Heap.get, Heap.set, paste, cellsS, setO, OutOK_need, OutOK_stop, undefS, undef, halt, isAt, atC, execA_succ, List.size_toArray, List.length_cons, List.length_nil, List.range, List.range.loop, List.getElem?_toArray, List.getElem?_cons_succ, List.getElem?_cons_zero, List.map_cons, List.map_nil, ↓reduceIte, Nat.reduceAdd, Nat.reduceLT, Nat.reduceEqDiff, Nat.zero_add, Nat.reduceBEq, Bool.not_true, decide_true, true_and, forall_const, wrap_i64, gl0, Try.sz37, Try.ze37, Try.ar37, lec, oec, ones_ec]
          have hy := ih (k + 1) (by omega) (by omega)
          simp only [List.length_append, List.length_cons, List.length_nil, List.length_singleton, List.length_map, List.length_set, List.length_replicate, Nat.zero_add, Nat.add_zero, Int.natCast_add, Int.natCast_one, Int.ofNat_eq_natCast, List.map_append, List.map_cons, List.map_nil, List.take_length, eI, eB] at hy ⊢
          refine Sat.via (fun i => i) (hy) (by intro i j; (repeat (first | omega | split))) (by repeat' (first | exact EnvVia.nil | refine EnvVia.cons (by first | trivial | decide | (simp [SV.bnd, SV.bndL]; done)) rfl ?_)) (by repeat' (first | exact HeapVia.nil | refine HeapVia.cons (by decide) (by first | trivial | exact Blk.bnd_own0 (by assumption) | (simp [Blk.bnd, SV.bnd, SV.bndL]; done) | exact bndL_mapV _ _ _ | exact LR.bnd (by rw [l2]; simp [bndE, SV.bnd, SV.bndL]) (by rw [l6]; decide)) (by first | (rw [Blk.ren_own0 (by assumption)]; rfl) | rfl | (simp only [Blk.ren, renL_mapV]; rfl) | (rw [LR.ren (by rw [l2] <;> rfl) (by rw [l6] <;> rfl)]; rfl)) ?_)) ⟨by have := hκ.hm; (try dsimp only at this); (first | done | omega), fun i hi => by have := hκ.hm; (try dsimp only at this); (first | omega | (dsimp only; omega) | (rw [if_neg (by omega)]))⟩ ⟨by simp, rfl⟩
        · have q3 : ((k : Int) < (encB a).length) = False := by first | (simp only [eq_iff_iff, iff_false]; first | assumption | omega) | (simp; omega)
          refine hκ.runA 19 300 ?_
          simp (disch := omega) only [sBuiltin, srcS, appArgS, sAppendTo, sAppend, runR_next, runR_need, runR_all, runR_fork_false, runR_call, stepS, runOp, condS, goS, toSR, sop, rOf, rNew, isArr, sInt, sBin, sliceT, obind, fillS, evps, repeatL, sBuildSlice, chunk, ev, evs, svs, Env.get, Heap.get, Heap.drop, over, paste, cellsS, one, ones, idFree, idFrees, exitTo, Value.cells, Value.oneCell', OutOK_need, OutOK_all, OutOK_call, halt, isAt, atC, execA_succ, Bool.and_true, List.drop_zero, List.take_succ_cons, List.take_nil, List.size_toArray, List.length_cons, List.length_nil, List.length_map, List.range, List.range.loop, List.getElem?_toArray, List.getElem?_cons_succ, List.getElem?_cons_zero, List.map_cons, List.map_nil, List.append_nil, List.nil_append, List.toList_toArray, ↓reduceIte, Nat.reduceAdd, Nat.reduceLT, Nat.reduceLeDiff, Nat.reduceEqDiff, Nat.zero_add, Nat.mul_one, Nat.add_one_ne_zero, Nat.reduceBEq, decide_false, beq_self_eq_true, ne_eq, not_false_eq_true, true_and, and_self, forall_const, gl0, Try.sz5, Try.ze5, Try.by5, Try.underlying24, q3]
          (repeat (refine ⟨by first | omega | (refine ⟨?_, ?_⟩ <;> omega) | trivial | (simp; done) | decide +kernel, fun _ => ?_⟩))
          intro i1
          (repeat (refine ⟨by first | omega | (refine ⟨?_, ?_⟩ <;> omega) | trivial | (simp; done) | decide +kernel, fun _ => ?_⟩))
          intro i2
          have et : List.take (encB a).length (List.map (eI .u8) (encB a)) = List.map (eI .u8) (encB a) := List.take_of_length_le (by simp)
          have em : List.map (eI .u8) (encB a) ++ [[.v (.int .u8 0)]] = (encB a ++ [0]).map (eI .u8) := by rw [List.map_append]; rfl
          have el : (encB a).length + 1 = (encB a ++ [0]).length := by simp
          have et2 : List.take (encB a ++ [0]).length ((encB a ++ [0]).map (eI .u8)) = (encB a ++ [0]).map (eI .u8) := List.take_of_length_le (by simp)
          rw [et, em, el]
          refine Does.frz [6] ⟨trivial, rfl⟩ (by simp [lendPL, lendP, lendSlP, Heap.get]) ?_
          simp only [lendL, lendS, lendSl, Heap.get, without, List.mem_singleton, List.mem_cons, List.not_mem_nil, or_false, or_true, true_or, List.drop_zero, List.take_length, List.take_succ_cons, List.take_zero, Nat.reduceAdd, Nat.reduceEqDiff, Nat.one_ne_zero, Nat.zero_ne_one, ↓reduceIte]
          rw [et2]
          refine Does.ret hκ.hP hκ.hgl d2 ⟨trivial, by first | (simp [SV.bnd, SV.bndL]; done) | (simp [SV.bnd, SV.bndL, ec_bnd]; done), by first | (simp [SV.bnd, SV.bndL]; done) | (simp [SV.bnd, SV.bndL, ec_bnd]; done) | assumption⟩ ?_
          refine hκ.runA 19 300 ?_
          simp (disch := omega) only [runR_next, runR_need, runR_fork_false, stepS, runOp, condS, toSR, sop, rOf, rNew, sAlloc, sAlloc0, sStoreIn, sStore, sInt, sBin, sExtract, ev, svs, Env.get, Heap.get, Heap.set, paste, cellsS, setO, OutOK_need, OutOK_stop, undefS, undef, halt, isAt, atC, execA_succ, List.size_toArray, List.length_cons, List.length_nil, List.length_append, List.range, List.range.loop, List.getElem?_toArray, List.getElem?_cons_succ, List.getElem?_cons_zero, List.map_cons, List.map_nil, ↓reduceIte, Nat.reduceAdd, Nat.reduceLT, Nat.reduceEqDiff, Nat.zero_add, Nat.reduceBEq, Bool.not_true, decide_true, beq_self_eq_true, true_and, forall_const, gl0, Try.sz37, Try.ze37, Try.ar37, lec, oec, ones_ec]
          refine Sat.via (fun i => i) (hj) (by intro i j; (repeat (first | omega | split))) (by repeat' (first | exact EnvVia.nil | refine EnvVia.cons (by first | trivial | decide | (simp [SV.bnd, SV.bndL]; done)) rfl ?_)) (by repeat' (first | exact HeapVia.nil | refine HeapVia.cons (by decide) (by first | trivial | exact Blk.bnd_own0 (by assumption) | (simp [Blk.bnd, SV.bnd, SV.bndL]; done) | exact bndL_mapV _ _ _ | exact LR.bnd (by rw [l2]; simp [bndE, SV.bnd, SV.bndL]) (by rw [l6]; decide)) (by first | (rw [Blk.ren_own0 (by assumption)]; rfl) | rfl | (simp only [Blk.ren, renL_mapV]; rfl) | (rw [LR.ren (by rw [l2] <;> rfl) (by rw [l6] <;> rfl)]; rfl)) ?_)) ⟨by have := hκ.hm; (try dsimp only at this); (first | done | omega), fun i hi => by have := hκ.hm; (try dsimp only at this); (first | omega | (dsimp only; omega) | (rw [if_neg (by omega)]))⟩ ⟨by simp, rfl⟩
    · rw [ha] at e1
      refine Does.ret hκ.hP hκ.hgl e1 ⟨trivial, by first | (simp [SV.bnd, SV.bndL]; done) | (simp [SV.bnd, SV.bndL, ec_bnd]; done), by first | (simp [SV.bnd, SV.bndL]; done) | (simp [SV.bnd, SV.bndL, ec_bnd]; done) | assumption⟩ ?_
      refine hκ.runA 19 300 ?_
      simp (disch := omega) only [runR_next, runR_fork_false, stepS, runOp, condS, toSR, sop, rOf, sInt, sBin, sExtract, ev, Env.get, setO, OutOK_stop, halt, isAt, atC, execA_succ, List.size_toArray, List.length_cons, List.length_nil, List.range, List.range.loop, List.getElem?_toArray, List.getElem?_cons_succ, List.getElem?_cons_zero, ↓reduceIte, Nat.reduceAdd, Nat.reduceLT, Nat.reduceEqDiff, Nat.zero_add, Nat.reduceBEq, Int.reduceEq, decide_false, beq_self_eq_true, gl0]
      refine Sat.via (fun i => i) (hj) (by intro i j; (repeat (first | omega | split))) (by repeat' (first | exact EnvVia.nil | refine EnvVia.cons (by first | trivial | decide | (simp [SV.bnd, SV.bndL]; done)) rfl ?_)) (by repeat' (first | exact HeapVia.nil | refine HeapVia.cons (by decide) (by first | trivial | exact Blk.bnd_own0 (by assumption) | (simp [Blk.bnd, SV.bnd, SV.bndL]; done) | exact bndL_mapV _ _ _ | exact LR.bnd (by rw [l2]; simp [bndE, SV.bnd, SV.bndL]) (by rw [l6]; decide)) (by first | (rw [Blk.ren_own0 (by assumption)]; rfl) | rfl | (simp only [Blk.ren, renL_mapV]; rfl) | (rw [LR.ren (by rw [l2] <;> rfl) (by rw [l6] <;> rfl)]; rfl)) ?_)) ⟨by have := hκ.hm; (try dsimp only at this); (first | done | omega), fun i hi => by have := hκ.hm; (try dsimp only at this); (first | omega | (dsimp only; omega) | (rw [if_neg (by omega)]))⟩ ⟨by simp, rfl⟩
  intro _ _
  dsimp only
  refine hκ.run 300 ?_
  simp (disch := omega) only [sBuiltin, sMinMax, exec_succ, runR_next, runR_need, runR_call, stepS, runOp, toSR, sop, rOf, sLen, optI, sSlice, cutL, elemT, obind, ev, evs, Env.get, OutOK_need, OutOK_call, Bool.false_eq_true, List.size_toArray, List.length_cons, List.length_nil, List.length_map, List.range, List.range.loop, List.getElem?_toArray, List.getElem?_cons_succ, List.getElem?_cons_zero, List.map_cons, List.map_nil, Option.map_some, Option.map_none, Option.getD_some, Option.getD_none, ↓reduceIte, Nat.reduceAdd, Nat.reduceLT, Nat.reduceEqDiff, Nat.zero_add, Int.reduceLE, true_and, gl0, Try.sz5, Try.underlying24, hmin, hmt]
  (repeat (refine ⟨by first | omega | (refine ⟨?_, ?_⟩ <;> omega) | trivial | (simp; done) | decide +kernel, fun _ => ?_⟩))
  rcases bt with ⟨t1, t2, t3, t4⟩ | ⟨t1, t2, t3⟩
  · have e2 := encode_ok (decA b) t4
    rw [t2, t3] at e2
    rw [t1] at cb
    have b1 := bequal_ok b b (isB_Y hb) (isB_Y hb)
    rw [decide_eq_true rfl] at b1
    refine Does.ret hκ.hP hκ.hgl (cb) ⟨trivial, by first | (simp [SV.bnd, SV.bndL]; done) | (simp [SV.bnd, SV.bndL, ec_bnd]; done), by first | (simp [SV.bnd, SV.bndL]; done) | (simp [SV.bnd, SV.bndL, ec_bnd]; done) | assumption⟩ ?_
    refine hκ.run 300 ?_
    simp (disch := omega) only [exec_succ, runR_next, runR_need, runR_fork_false, runR_call, stepS, runOp, condS, toSR, sop, rOf, rNew, sAlloc, sAlloc0, sLoadIn, sLoad, sStoreIn, sStore, sInt, sBin, sExtract, ev, evs, svs, Env.get, Heap.get, Heap.set, cut, paste, aggOf, cellsS, setO, OutOK_need, OutOK_call, undefS, undef, List.size_toArray, List.length_cons, List.length_nil, List.range, List.range.loop, List.getElem?_toArray, List.getElem?_cons_succ, List.getElem?_cons_zero, List.map_cons, List.map_nil, ↓reduceIte, Nat.reduceAdd, Nat.reduceLT, Nat.reduceEqDiff, Nat.zero_add, Nat.add_zero, Nat.mul_zero, Bool.not_true, decide_true, true_and, forall_const, gl0, Try.sz37, Try.ag37, Try.ze37, Try.ar37, tec, lec, oec, ones_ec]
    refine Does.ret hκ.hP hκ.hgl (e2) ⟨trivial, by first | (simp [SV.bnd, SV.bndL]; done) | (simp [SV.bnd, SV.bndL, ec_bnd]; done), by first | (simp [SV.bnd, SV.bndL]; done) | (simp [SV.bnd, SV.bndL, ec_bnd]; done) | assumption⟩ ?_
    refine hκ.run 300 ?_
    simp (disch := omega) only [exec_succ, runR_next, runR_guard_tt, runR_call, stepS, runOp, guardS, toSR, sop, rOf, sInt, sBin, sExtract, ev, evs, Env.get, setO, OutOK_call, undefS, undef, List.size_toArray, List.length_cons, List.length_nil, List.range, List.range.loop, List.getElem?_toArray, List.getElem?_cons_succ, List.getElem?_cons_zero, Option.bind_some, ↓reduceIte, Nat.reduceAdd, Nat.reduceLT, Nat.reduceEqDiff, Nat.zero_add, Bool.not_true, decide_true, and_self, gl0]
    refine Does.ret hκ.hP hκ.hgl (b1) ⟨trivial, by first | (simp [SV.bnd, SV.bndL]; done) | (simp [SV.bnd, SV.bndL, ec_bnd]; done), by first | (simp [SV.bnd, SV.bndL]; done) | (simp [SV.bnd, SV.bndL, ec_bnd]; done) | assumption⟩ ?_
    refine hκ.run 300 ?_
    simp (disch := omega) only [exec_succ, runR_next, runR_stop, stepS, runOp, toSR, sop, rOf, sPick, ev, Env.get, setO, OutOK_stop, List.getElem?_toArray, List.getElem?_cons_succ, List.getElem?_cons_zero, ↓reduceIte, Nat.reduceLT, Nat.reduceEqDiff, gl0]
    refine hκ.ret _ _ _ _ _ _ trivial rfl ?_
    rfl
  · rw [t3] at cb
    have e3 : Con Try.prog gl0 (fnv 16) [Ev ev0, .agg [I 0, I 0, I 0, I 0, I 0, Bo false, .v (.slice none 0 0), I 0, I 0, I 0, I 0, I 0, I 0, U 0, U 0, I 0, I 0, I 0, I 0, I 0, I 0, I 0, I 0, I 0, U 0, U 0, U 0, .v (.slice none 0 0), I 0]] 0 [] (Ret (Bo true)) := by
      have h := same_ok ev0 ev0 ⟨by decide, by decide⟩
      rw [(same_iff wf_ev0 wf_ev0).2 rfl] at h
      exact Con.argR (fun ν => RelL.keep (RelL.mapHead (Rel.aggMap (zero_ec ν)))) h
    rcases t2 with t2 | t2
    · rw [t2] at cb
      refine Does.ret hκ.hP hκ.hgl (cb) ⟨trivial, by first | (simp [SV.bnd, SV.bndL]; done) | (simp [SV.bnd, SV.bndL, ec_bnd]; done), by first | (simp [SV.bnd, SV.bndL]; done) | (simp [SV.bnd, SV.bndL, ec_bnd]; done) | assumption⟩ ?_
      refine hκ.run 300 ?_
      simp (disch := omega) only [sBuild0, exec_succ, runR_next, runR_need, runR_fork_true, runR_call, stepS, runOp, condS, toSR, sop, rOf, rNew, sAlloc, sAlloc0, sLoadIn, sLoad, sStoreIn, sStore, sInt, sBin, sExtract, fillS, evps, sBuild, ev, evs, svs, Env.get, Heap.get, Heap.set, cut, paste, aggOf, cellsS, setO, OutOK_need, OutOK_call, undefS, undef, List.size_toArray, List.length_cons, List.length_nil, List.range, List.range.loop, List.getElem?_toArray, List.getElem?_cons_succ, List.getElem?_cons_zero, List.map_cons, List.map_nil, ↓reduceIte, Nat.reduceAdd, Nat.reduceLT, Nat.reduceEqDiff, Nat.zero_add, Nat.add_zero, Nat.mul_zero, Int.reduceEq, Bool.not_false, decide_false, true_and, forall_const, gl0, Try.sz37, Try.ag37, Try.ze37, Try.pl37, Try.ar37, tec, lec, oec, ones_ec]
      refine Does.ret hκ.hP hκ.hgl (e3) ⟨trivial, by first | (simp [SV.bnd, SV.bndL]; done) | (simp [SV.bnd, SV.bndL, ec_bnd]; done), by first | (simp [SV.bnd, SV.bndL]; done) | (simp [SV.bnd, SV.bndL, ec_bnd]; done) | assumption⟩ ?_
      refine hκ.run 300 ?_
      simp (disch := omega) only [exec_succ, runR_next, runR_guard_tt, runR_guard_tf, runR_stop, stepS, runOp, guardS, toSR, sop, rOf, sPick, sInt, sEq, sEqR, sBin, ev, Env.get, setO, OutOK_stop, undefS, undef, List.getElem?_toArray, List.getElem?_cons_succ, List.getElem?_cons_zero, Option.bind_some, ↓reduceIte, Nat.reduceLT, Nat.reduceEqDiff, Bool.not_true, Bool.not_false, decide_true, and_self, gl0]
      refine hκ.ret _ _ _ _ _ _ trivial rfl ?_
      rfl
    · rw [t2] at cb
      refine Does.ret hκ.hP hκ.hgl (cb) ⟨trivial, by first | (simp [SV.bnd, SV.bndL]; done) | (simp [SV.bnd, SV.bndL, ec_bnd]; done), by first | (simp [SV.bnd, SV.bndL]; done) | (simp [SV.bnd, SV.bndL, ec_bnd]; done) | assumption⟩ ?_
      refine hκ.run 300 ?_
      simp (disch := omega) only [sBuild0, exec_succ, runR_next, runR_need, runR_fork_true, runR_call, stepS, runOp, condS, toSR, sop, rOf, rNew, sAlloc, sAlloc0, sLoadIn, sLoad, sStoreIn, sStore, sInt, sBin, sExtract, fillS, evps, sBuild, ev, evs, svs, Env.get, Heap.get, Heap.set, cut, paste, aggOf, cellsS, setO, OutOK_need, OutOK_call, undefS, undef, List.size_toArray, List.length_cons, List.length_nil, List.range, List.range.loop, List.getElem?_toArray, List.getElem?_cons_succ, List.getElem?_cons_zero, List.map_cons, List.map_nil, ↓reduceIte, Nat.reduceAdd, Nat.reduceLT, Nat.reduceEqDiff, Nat.zero_add, Nat.add_zero, Nat.mul_zero, Int.reduceEq, Bool.not_false, decide_false, true_and, forall_const, gl0, Try.sz37, Try.ag37, Try.ze37, Try.pl37, Try.ar37, tec, lec, oec, ones_ec]
      refine Does.ret hκ.hP hκ.hgl (e3) ⟨trivial, by first | (simp [SV.bnd, SV.bndL]; done) | (simp [SV.bnd, SV.bndL, ec_bnd]; done), by first | (simp [SV.bnd, SV.bndL]; done) | (simp [SV.bnd, SV.bndL, ec_bnd]; done) | assumption⟩ ?_
      refine hκ.run 300 ?_
      simp (disch := omega) only [exec_succ, runR_next, runR_guard_tt, runR_guard_ff, runR_stop, stepS, runOp, guardS, toSR, sop, rOf, sPick, sInt, sBin, ev, Env.get, setO, OutOK_stop, undefS, undef, List.getElem?_toArray, List.getElem?_cons_succ, List.getElem?_cons_zero, Option.bind_some, ↓reduceIte, Nat.reduceLT, Nat.reduceEqDiff, Int.reduceEq, Bool.not_true, Bool.not_false, decide_true, decide_false, and_self, gl0]
      refine hκ.ret _ _ _ _ _ _ trivial rfl ?_
      rfl
end Go.Proofs.Ytmieikflcolbaaa

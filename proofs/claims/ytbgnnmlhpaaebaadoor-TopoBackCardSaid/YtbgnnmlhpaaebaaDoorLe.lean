/- TopoBack: the walk of the law. No condition. -/
import Derived.Test.YtbgnnmlhpaaebaaDoorLd
namespace Go.Proofs.YtbgnnmlhpaaebaaDoor
open Go Go.Sy
set_option maxRecDepth 100000
set_option linter.unusedSimpArgs false
set_option linter.unusedVariables false

theorem back_law (x : List Sea) (b : List Int) (hx : ∀ s ∈ x, inT s) (hb : isB b) (hn : x.length < 2 ^ 46) (hn2 : b.length < 2 ^ 62) : Law Tryd.prog gl0 9 [To x, By b] := by
  refine Law.of (nt := 89) (res := [.tmp 4]) Tryd.mixed Tryd.func9 rfl rfl rfl rfl fun κ xc hκ => hκ.run 300 ?_
  simp (disch := omega) only [exec_succ, runR_next, runR_call, stepS, runOp, toSR, sop, rOf, rNew, sBox, isArr, ev, evs, Env.get, cellsS, envOf, OutOK_call, Bool.false_eq_true, List.size_toArray, List.length_cons, List.length_nil, List.range, List.range.loop, List.getElem?_toArray, List.getElem?_cons_succ, List.getElem?_cons_zero, ↓reduceIte, Nat.reduceAdd, Nat.reduceLT, Nat.zero_add, gl0]
  refine Does.ret hκ.hP hκ.hgl (wakes_ok) ⟨trivial, by simp [SV.bnd, SV.bndL], by first | (simp [SV.bnd, SV.bndL]; done) | assumption⟩ ?_
  refine hκ.run 300 ?_
  simp (disch := omega) only [exec_succ, runR_next, runR_fork_false, runR_call, stepS, runOp, condS, toSR, sop, rOf, sLoadIn, sLoad, sUn, ev, evs, Env.get, Heap.get, takeN, cut, aggOf, setO, OutOK_call, List.size_toArray, List.length_cons, List.length_nil, List.range, List.range.loop, List.getElem?_toArray, List.getElem?_cons_succ, List.getElem?_cons_zero, ↓reduceIte, Nat.reduceAdd, Nat.reduceLT, Nat.reduceEqDiff, Nat.zero_add, Bool.not_true, gl0, Tryd.sz24, Tryd.ag24]
  have cx := short_ok x hn
  have ht := cut9_in hx
  have htl := cut9_len x
  generalize cut9 x = t at cx ht htl
  have c1 := encode_ok t ht (by omega)
  have etk : List.take (min (b.length : Int) 600).toNat (List.map (eI .u8) b) = List.map (eI .u8) (b.take 600) := by
    rw [List.map_take, show (min (b.length : Int) 600).toNat = min 600 (List.map (eI .u8) b).length by rw [List.length_map]; omega, ← List.take_take, List.take_length]
  have hyB := isB_take hb 600
  have hyl : (b.take 600).length ≤ 600 := by rw [List.length_take]; omega
  generalize b.take 600 = y at etk hyB hyl
  refine Does.ret hκ.hP hκ.hgl (cx) ⟨trivial, by simp [SV.bnd, SV.bndL], by first | (simp [SV.bnd, SV.bndL]; done) | assumption⟩ ?_
  refine hκ.run 300 ?_
  simp (disch := omega) only [exec_succ, runR_next, runR_need, runR_call, stepS, runOp, toSR, sop, rOf, rNew, sAlloc, sAlloc0, sLoadIn, sLoad, sStoreIn, sStore, ev, evs, svs, Env.get, Heap.get, Heap.set, takeN, cut, over, paste, aggOf, cellsS, one, ones, setO, OutOK_need, OutOK_call, undefS, undef, List.size_toArray, List.length_cons, List.length_nil, List.range, List.range.loop, List.getElem?_toArray, List.getElem?_cons_succ, List.getElem?_cons_zero, List.map_cons, List.map_nil, ↓reduceIte, Nat.reduceAdd, Nat.reduceLT, Nat.reduceEqDiff, Nat.zero_add, true_and, and_self, forall_const, gl0, Tryd.sz24, Tryd.ag24, Tryd.ze24, Tryd.ar24]
  apply Sat.join (α := Unit) (nx := 0) (dfs := []) (fun _ => True) (fun _ => ([(1, By b)], []))
  · intro hj
    have hj := hj () trivial
    refine Does.ret hκ.hP hκ.hgl (c1) ⟨trivial, by simp [SV.bnd, SV.bndL], by first | (simp [SV.bnd, SV.bndL]; done) | assumption⟩ ?_
    cases ho : okTs t
    · rw [if_neg (by decide), if_neg (by decide)]
      refine hκ.runA 16 300 ?_
      simp (disch := omega) only [runR_next, runR_fork_false, stepS, runOp, condS, toSR, sop, rOf, sInt, sBin, sExtract, ev, Env.get, setO, OutOK_stop, halt, isAt, atC, execA_succ, List.size_toArray, List.length_cons, List.length_nil, List.range, List.range.loop, List.getElem?_toArray, List.getElem?_cons_succ, List.getElem?_cons_zero, ↓reduceIte, Nat.reduceAdd, Nat.reduceLT, Nat.reduceEqDiff, Nat.zero_add, Nat.reduceBEq, Int.reduceEq, decide_false, beq_self_eq_true, gl0]
      refine Sat.via (fun i => i) (hj) (by intro i j; (repeat (first | omega | split))) (by repeat' (first | exact EnvVia.nil | refine EnvVia.cons (by first | trivial | decide | (simp [SV.bnd, SV.bndL]; done)) rfl ?_)) (by repeat' (first | exact HeapVia.nil | refine HeapVia.cons (by decide) (by first | trivial | (simp [Blk.bnd, SV.bnd, SV.bndL]; done) | exact bndL_mapV _ _ _ | exact LR.bnd (by rw [l2]; simp [bndE, SV.bnd, SV.bndL]) (by rw [l6]; decide)) (by first | rfl | (simp only [Blk.ren, renL_mapV]; rfl) | (rw [LR.ren (by rw [l2] <;> rfl) (by rw [l6] <;> rfl)]; rfl)) ?_)) ⟨by have := hκ.hm; (try dsimp only at this); (first | done | omega), fun i hi => by have := hκ.hm; (try dsimp only at this); (first | omega | (dsimp only; omega) | (rw [if_neg (by omega)]))⟩ ⟨by simp, rfl⟩
    rw [if_pos rfl, if_pos rfl]
    have hB := encB_isB ho
    obtain ⟨d1, d2⟩ := dec_enc ho
    have hsh := fun i => dec_short (l := t) (i := i)
    have hle := enc_len t
    generalize encB t = z at hB d1 d2 hsh hle ⊢
    have c2 := decode_ok z hB (by omega)
    rw [d1, d2] at c2
    have c3 := tsame_ok t t (by omega)
    rw [decide_eq_true rfl] at c3
    refine hκ.runA 16 300 ?_
    simp (disch := omega) only [runR_next, runR_fork_true, runR_call, stepS, runOp, condS, toSR, sop, rOf, sInt, sBin, sExtract, ev, evs, Env.get, setO, OutOK_call, halt, isAt, atC, execA_succ, List.size_toArray, List.length_cons, List.length_nil, List.range, List.range.loop, List.getElem?_toArray, List.getElem?_cons_succ, List.getElem?_cons_zero, ↓reduceIte, Nat.reduceAdd, Nat.reduceLT, Nat.reduceEqDiff, Nat.zero_add, Nat.reduceBEq, decide_true, gl0]
    refine Does.ret hκ.hP hκ.hgl (c2) ⟨trivial, by simp [SV.bnd, SV.bndL], by first | (simp [SV.bnd, SV.bndL]; done) | assumption⟩ ?_
    refine hκ.runA 16 300 ?_
    simp (disch := omega) only [runR_next, runR_need, runR_guard_ff, runR_call, stepS, runOp, guardS, toSR, sop, rOf, rNew, sAlloc, sAlloc0, sLoadIn, sLoad, sStoreIn, sStore, sInt, sBin, sExtract, ev, evs, svs, Env.get, Heap.get, Heap.set, takeN, cut, over, paste, aggOf, cellsS, one, ones, setO, OutOK_need, OutOK_call, undefS, undef, halt, isAt, atC, execA_succ, List.size_toArray, List.length_cons, List.length_nil, List.range, List.range.loop, List.getElem?_toArray, List.getElem?_cons_succ, List.getElem?_cons_zero, List.map_cons, List.map_nil, Option.bind_some, ↓reduceIte, Nat.reduceAdd, Nat.reduceLT, Nat.reduceEqDiff, Nat.zero_add, Nat.reduceBEq, Bool.not_true, Bool.not_false, decide_true, true_and, and_self, forall_const, gl0, Tryd.sz24, Tryd.ag24, Tryd.ze24, Tryd.ar24]
    refine Does.ret hκ.hP hκ.hgl (c3) ⟨trivial, by simp [SV.bnd, SV.bndL], by first | (simp [SV.bnd, SV.bndL]; done) | assumption⟩ ?_
    refine hκ.runA 16 300 ?_
    simp (disch := omega) only [sBuiltin, runR_next, runR_fork_false, runR_guard_ff, runR_stop, stepS, runOp, guardS, condS, toSR, sop, rOf, sPick, sUn, sLen, ev, Env.get, setO, OutOK_stop, undefS, undef, halt, isAt, atC, execA_succ, List.size_toArray, List.length_cons, List.length_nil, List.length_map, List.range, List.range.loop, List.getElem?_toArray, List.getElem?_cons_succ, List.getElem?_cons_zero, Option.bind_some, ↓reduceIte, Nat.reduceAdd, Nat.reduceLT, Nat.reduceEqDiff, Nat.zero_add, Nat.reduceBEq, Bool.not_true, Bool.not_false, and_self, gl0, Tryd.underlying67]
    refine Sat.less (Sat.loop (γ := Nat) (fun k => ([(40, I k), (39, I z.length), (6, By z), (1, By b)], [], 3)) (fun k => z.length - k) (fun k => k ≤ z.length) ?round 0 (Nat.zero_le _)) (by repeat' (first | exact EnvSub.nil _ | exact HeapSub.nil _ | refine EnvSub.cons rfl ?_ | refine HeapSub.cons rfl ?_ | (refine EnvSub.cons (by simp [Env.get]; done) ?_) | (refine HeapSub.cons (by simp [Heap.get]; done) ?_))) (by repeat' (first | exact EnvSub.nil _ | exact HeapSub.nil _ | refine EnvSub.cons rfl ?_ | refine HeapSub.cons rfl ?_ | (refine EnvSub.cons (by simp [Env.get]; done) ?_) | (refine HeapSub.cons (by simp [Heap.get]; done) ?_)))
    case round =>
      intro k hk ih
      dsimp only at hk ih ⊢
      refine hκ.runA 16 300 ?_
      simp (disch := omega) only [runR_next, stepS, runOp, condS, toSR, sop, sInt, sBin, ev, Env.get, halt, isAt, atC, execA_succ, List.size_toArray, List.length_cons, List.length_nil, List.range, List.range.loop, List.getElem?_toArray, List.getElem?_cons_zero, ↓reduceIte, Nat.reduceLT, Nat.reduceEqDiff, Nat.zero_add, Nat.reduceBEq, gl0]
      refine OutOK_fork (fun h => ?_) (fun h => ?_) <;> try simp only [Bool.not_true, Bool.not_false, decide_eq_true_eq, decide_eq_false_iff_not, Bool.not_eq_true', Bool.not_eq_false', Bool.and_eq_true, Bool.or_eq_false_iff, Bool.or_eq_true, Bool.and_eq_false_iff] at h
      · have hz := ih (k + 1) (by omega) (by omega)
        have h7 := hsh k (by omega)
        have c4 := decode_ok (z.take k) (isB_take hB k) (by rw [List.length_take]; omega)
        rw [decS, h7, if_neg (by decide)] at c4
        have etz : List.take k (List.map (eI .u8) z) = List.map (eI .u8) (z.take k) := List.map_take.symm
        simp (disch := omega) only [runR_next, runR_need, runR_call, stepS, runOp, toSR, sop, rOf, optI, sSlice, cutL, elemT, obind, ev, evs, Env.get, OutOK_need, OutOK_call, halt, isAt, atC, execA_succ, List.size_toArray, List.length_cons, List.length_nil, List.length_map, List.range, List.range.loop, List.getElem?_toArray, List.getElem?_cons_succ, List.getElem?_cons_zero, Option.map_some, Option.map_none, Option.getD_some, Option.getD_none, ↓reduceIte, Nat.reduceAdd, Nat.reduceLT, Nat.reduceEqDiff, Nat.zero_add, Nat.reduceBEq, Int.reduceLE, Int.toNat_natCast, true_and, Tryd.sz5, Tryd.underlying67, etz]
        (repeat (refine ⟨by first | omega | (refine ⟨?_, ?_⟩ <;> omega) | trivial | (simp; done) | decide +kernel, fun _ => ?_⟩))
        refine Does.ret hκ.hP hκ.hgl (c4) ⟨trivial, by simp [SV.bnd, SV.bndL], by first | (simp [SV.bnd, SV.bndL]; done) | assumption⟩ ?_
        refine hκ.run 300 ?_
        simp (disch := omega) only [exec_succ, runR_next, runR_need, runR_fork_false, runR_stop, stepS, runOp, condS, toSR, sop, rOf, rNew, sAlloc, sAlloc0, sStoreIn, sStore, sInt, sBin, sExtract, ev, svs, Env.get, Heap.get, Heap.set, over, paste, cellsS, one, ones, setO, OutOK_need, OutOK_stop, undefS, undef, List.size_toArray, List.length_cons, List.length_nil, List.range, List.range.loop, List.getElem?_toArray, List.getElem?_cons_succ, List.getElem?_cons_zero, List.map_cons, List.map_nil, ↓reduceIte, Nat.reduceAdd, Nat.reduceLT, Nat.reduceEqDiff, Nat.zero_add, Bool.not_true, decide_true, true_and, and_self, forall_const, wrap_i64, gl0, Tryd.sz24, Tryd.ze24, Tryd.ar24]
        refine Sat.via (fun i => i) (hz) (by intro i j; (repeat (first | omega | split))) (by repeat' (first | exact EnvVia.nil | refine EnvVia.cons (by first | trivial | decide | (simp [SV.bnd, SV.bndL]; done)) rfl ?_)) (by repeat' (first | exact HeapVia.nil | refine HeapVia.cons (by decide) (by first | trivial | (simp [Blk.bnd, SV.bnd, SV.bndL]; done) | exact bndL_mapV _ _ _ | exact LR.bnd (by rw [l2]; simp [bndE, SV.bnd, SV.bndL]) (by rw [l6]; decide)) (by first | rfl | (simp only [Blk.ren, renL_mapV]; rfl) | (rw [LR.ren (by rw [l2] <;> rfl) (by rw [l6] <;> rfl)]; rfl)) ?_)) ⟨by have := hκ.hm; (try dsimp only at this); (first | done | omega), fun i hi => by have := hκ.hm; (try dsimp only at this); (first | omega | (dsimp only; omega) | (rw [if_neg (by omega)]))⟩ ⟨by simp, rfl⟩
      · simp (disch := omega) only [runR_next, stepS, goS, exitTo, OutOK_stop, halt, isAt, atC, execA_succ, ↓reduceIte, beq_self_eq_true]
        refine Sat.via (fun i => i) (hj) (by intro i j; (repeat (first | omega | split))) (by repeat' (first | exact EnvVia.nil | refine EnvVia.cons (by first | trivial | decide | (simp [SV.bnd, SV.bndL]; done)) rfl ?_)) (by repeat' (first | exact HeapVia.nil | refine HeapVia.cons (by decide) (by first | trivial | (simp [Blk.bnd, SV.bnd, SV.bndL]; done) | exact bndL_mapV _ _ _ | exact LR.bnd (by rw [l2]; simp [bndE, SV.bnd, SV.bndL]) (by rw [l6]; decide)) (by first | rfl | (simp only [Blk.ren, renL_mapV]; rfl) | (rw [LR.ren (by rw [l2] <;> rfl) (by rw [l6] <;> rfl)]; rfl)) ?_)) ⟨by have := hκ.hm; (try dsimp only at this); (first | done | omega), fun i hi => by have := hκ.hm; (try dsimp only at this); (first | omega | (dsimp only; omega) | (rw [if_neg (by omega)]))⟩ ⟨by simp, rfl⟩
  intro _ _
  dsimp only
  have c5 := decode_ok y hyB (by omega)
  have hdl := decS_len y
  have hcs := decE_cases y
  refine hκ.runA 17 300 ?_
  simp (disch := omega) only [sBuiltin, sMinMax, runR_next, runR_need, stepS, runOp, toSR, sop, rOf, sLen, optI, sSlice, cutL, elemT, obind, ev, Env.get, OutOK_need, OutOK_stop, halt, isAt, atC, execA_succ, Bool.false_eq_true, List.size_toArray, List.length_cons, List.length_nil, List.length_map, List.range, List.range.loop, List.getElem?_toArray, List.getElem?_cons_succ, List.getElem?_cons_zero, List.map_cons, List.map_nil, Option.map_some, Option.map_none, Option.getD_some, Option.getD_none, ↓reduceIte, Nat.reduceAdd, Nat.reduceLT, Nat.reduceEqDiff, Nat.zero_add, Nat.reduceBEq, Int.reduceLE, beq_self_eq_true, true_and, gl0, Tryd.sz5, Tryd.underlying67, etk]
  (repeat (refine ⟨by first | omega | (refine ⟨?_, ?_⟩ <;> omega) | trivial | (simp; done) | decide +kernel, fun _ => ?_⟩))
  refine hκ.run 300 ?_
  simp (disch := omega) only [exec_succ, runR_next, runR_call, stepS, runOp, toSR, sop, rOf, ev, evs, Env.get, OutOK_call, List.size_toArray, List.length_cons, List.length_nil, List.range, List.range.loop, List.getElem?_toArray, List.getElem?_cons_succ, List.getElem?_cons_zero, ↓reduceIte, Nat.reduceAdd, Nat.reduceLT, Nat.zero_add, gl0]
  refine Does.ret hκ.hP hκ.hgl (c5) ⟨trivial, by simp [SV.bnd, SV.bndL], by first | (simp [SV.bnd, SV.bndL]; done) | assumption⟩ ?_
  rcases hcs with h | h | h
  · obtain ⟨b1, b2⟩ := dec_back h
    rw [h]
    have c6 := encode_ok (decS y) (by rw [decS, if_pos h]; exact seatsN_in hyB _) (by omega)
    rw [if_pos b1, if_pos b1, b2] at c6
    have c7 := bequal_ok y y hyB hyB
    rw [decide_eq_true rfl] at c7
    refine hκ.run 300 ?_
    simp (disch := omega) only [exec_succ, runR_next, runR_need, runR_fork_false, runR_call, stepS, runOp, condS, toSR, sop, rOf, rNew, sAlloc, sAlloc0, sLoadIn, sLoad, sStoreIn, sStore, sInt, sBin, sExtract, ev, evs, svs, Env.get, Heap.get, Heap.set, takeN, cut, over, paste, aggOf, cellsS, one, ones, setO, OutOK_need, OutOK_call, undefS, undef, List.size_toArray, List.length_cons, List.length_nil, List.range, List.range.loop, List.getElem?_toArray, List.getElem?_cons_succ, List.getElem?_cons_zero, List.map_cons, List.map_nil, ↓reduceIte, Nat.reduceAdd, Nat.reduceLT, Nat.reduceEqDiff, Nat.zero_add, Bool.not_true, decide_true, true_and, and_self, forall_const, gl0, Tryd.sz24, Tryd.ag24, Tryd.ze24, Tryd.ar24]
    refine Does.ret hκ.hP hκ.hgl (c6) ⟨trivial, by simp [SV.bnd, SV.bndL], by first | (simp [SV.bnd, SV.bndL]; done) | assumption⟩ ?_
    refine hκ.run 300 ?_
    simp (disch := omega) only [exec_succ, runR_next, runR_guard_tt, runR_call, stepS, runOp, guardS, toSR, sop, rOf, sInt, sBin, sExtract, ev, evs, Env.get, setO, OutOK_call, undefS, undef, List.size_toArray, List.length_cons, List.length_nil, List.range, List.range.loop, List.getElem?_toArray, List.getElem?_cons_succ, List.getElem?_cons_zero, Option.bind_some, ↓reduceIte, Nat.reduceAdd, Nat.reduceLT, Nat.reduceEqDiff, Nat.zero_add, Bool.not_true, decide_true, and_self, gl0]
    refine Does.ret hκ.hP hκ.hgl (c7) ⟨trivial, by simp [SV.bnd, SV.bndL], by first | (simp [SV.bnd, SV.bndL]; done) | assumption⟩ ?_
    refine hκ.run 300 ?_
    simp (disch := omega) only [exec_succ, runR_next, runR_stop, stepS, runOp, toSR, sop, rOf, sPick, ev, Env.get, setO, OutOK_stop, List.getElem?_toArray, List.getElem?_cons_succ, List.getElem?_cons_zero, ↓reduceIte, Nat.reduceLT, Nat.reduceEqDiff, gl0]
    refine hκ.ret _ _ _ _ _ _ trivial rfl ?_
    rfl
  · rw [decS, h, if_neg (by decide)]
    refine hκ.run 300 ?_
    simp (disch := omega) only [sBuiltin, exec_succ, runR_next, runR_need, runR_fork_true, runR_guard_tt, runR_guard_tf, runR_stop, stepS, runOp, guardS, condS, toSR, sop, rOf, rNew, sPick, sAlloc, sAlloc0, sLoadIn, sLoad, sStoreIn, sStore, sInt, sEq, sEqR, sBin, sFieldAddr, sExtract, sLen, ev, svs, Env.get, Heap.get, Heap.set, takeN, cut, over, paste, aggOf, cellsS, one, ones, setO, OutOK_need, OutOK_stop, undefS, undef, Int.cast_ofNat_Int, List.size_toArray, List.length_cons, List.length_nil, List.range, List.range.loop, List.getElem?_toArray, List.getElem?_cons_succ, List.getElem?_cons_zero, List.map_cons, List.map_nil, Option.bind_some, ↓reduceIte, Nat.reduceAdd, Nat.reduceLT, Nat.reduceEqDiff, Nat.zero_add, Nat.add_zero, Nat.add_one_ne_zero, Int.reduceEq, Bool.not_true, Bool.not_false, decide_true, decide_false, true_and, and_self, forall_const, gl0, Tryd.underlying22, Tryd.sz22, Tryd.ag22, Tryd.sz24, Tryd.ze24, Tryd.ar24, Tryd.fd24f0]
    refine hκ.ret _ _ _ _ _ _ trivial rfl ?_
    rfl
  · rw [decS, h, if_neg (by decide)]
    refine hκ.run 300 ?_
    simp (disch := omega) only [sBuiltin, exec_succ, runR_next, runR_need, runR_fork_true, runR_guard_tt, runR_guard_ff, runR_stop, stepS, runOp, guardS, condS, toSR, sop, rOf, rNew, sPick, sAlloc, sAlloc0, sLoadIn, sLoad, sStoreIn, sStore, sInt, sBin, sFieldAddr, sExtract, sLen, ev, svs, Env.get, Heap.get, Heap.set, takeN, cut, over, paste, aggOf, cellsS, one, ones, setO, OutOK_need, OutOK_stop, undefS, undef, Int.cast_ofNat_Int, List.size_toArray, List.length_cons, List.length_nil, List.range, List.range.loop, List.getElem?_toArray, List.getElem?_cons_succ, List.getElem?_cons_zero, List.map_cons, List.map_nil, Option.bind_some, ↓reduceIte, Nat.reduceAdd, Nat.reduceLT, Nat.reduceEqDiff, Nat.zero_add, Nat.add_zero, Nat.add_one_ne_zero, Int.reduceEq, Bool.not_true, Bool.not_false, decide_true, decide_false, true_and, and_self, forall_const, gl0, Tryd.underlying22, Tryd.sz22, Tryd.ag22, Tryd.sz24, Tryd.ze24, Tryd.ar24, Tryd.fd24f0]
    refine hκ.ret _ _ _ _ _ _ trivial rfl ?_
    rfl
end Go.Proofs.YtbgnnmlhpaaebaaDoor

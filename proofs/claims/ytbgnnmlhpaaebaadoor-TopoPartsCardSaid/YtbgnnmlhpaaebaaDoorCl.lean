/- Walks of cpuset: those in a set. No condition. -/
import Derived.Test.YtbgnnmlhpaaebaaDoorCs
namespace Go.Proofs.YtbgnnmlhpaaebaaDoor
open Go Go.Sy
set_option maxRecDepth 100000
set_option linter.unusedSimpArgs false
set_option linter.unusedVariables false

theorem list_ok (s : Nat) (hs : s < 4294967296) : Con Tryd.prog gl0 (fnv 41) [S s] 0 [] (RetRow 3 1 ((bits s).map (eI .i64))) := by
  have hm : s % 256 < 256 := Nat.mod_lt _ (by decide)
  refine Con.of Tryd.ok41 (nt := 6) (res := [.tmp 2]) Tryd.mixed Tryd.func41 rfl rfl rfl rfl fun κ xc hκ => hκ.run 300 ?_
  simp (disch := omega) only [exec_succ, runR_next, runR_call, stepS, runOp, toSR, sop, rOf, ev, evs, Env.get, envOf, OutOK_call, List.size_toArray, List.length_cons, List.length_nil, List.range, List.range.loop, List.getElem?_toArray, List.getElem?_cons_succ, List.getElem?_cons_zero, ↓reduceIte, Nat.reduceAdd, Nat.reduceLT, Nat.zero_add, Nat.add_one_ne_zero, gl0]
  refine Does.inl hκ.hP hκ.hgl Tryd.ok55 (nt := 4) (res := [.tmp 2]) Tryd.mixed Tryd.func55 rfl rfl rfl rfl fun κ_h1 x_h1 h1 => h1.run 300 ?_
  simp (disch := omega) only [exec_succ, runR_next, runR_stop, stepS, runOp, toSR, sop, rOf, rNew, sBox, isArr, sMakeFunc, ev, evs, svs, Env.get, cellsS, envOf, Value.cells, OutOK_stop, Bool.false_eq_true, List.size_toArray, List.length_cons, List.length_nil, List.range, List.range.loop, List.getElem?_toArray, List.getElem?_cons_succ, List.getElem?_cons_zero, List.map_cons, List.map_nil, List.toList_toArray, ↓reduceIte, Nat.reduceAdd, Nat.reduceLT, Nat.reduceEqDiff, Nat.zero_add, gl0]
  refine h1.ret _ _ _ _ _ _ trivial rfl ?_
  refine hκ.run 300 ?_
  simp (disch := omega) only [exec_succ, runR_call, stepS, runOp, ev, evs, Env.get, setO, OutOK_call, dropL, resV, List.getElem?_toArray, List.getElem?_cons_succ, List.getElem?_cons_zero, ↓reduceIte, Nat.reduceLT, gl0]
  refine Does.inl hκ.hP hκ.hgl Tryd.ok54 (nt := 5) (res := [.tmp 2]) Tryd.mixed Tryd.func54 rfl rfl rfl rfl fun κ_h2 x_h2 h2 => h2.run 300 ?_
  simp (disch := omega) only [exec_succ, runR_next, runR_call, stepS, runOp, toSR, sop, rOf, ev, evs, Env.get, envOf, OutOK_call, List.size_toArray, List.length_cons, List.length_nil, List.range, List.range.loop, List.getElem?_toArray, List.getElem?_cons_succ, List.getElem?_cons_zero, ↓reduceIte, Nat.reduceAdd, Nat.reduceLT, Nat.zero_add, Nat.add_one_ne_zero, gl0]
  refine Does.inl h2.hP h2.hgl Tryd.ok61 (nt := 13) (res := [.tmp 4]) Tryd.mixed Tryd.func61 rfl rfl rfl rfl fun κ_h3 x_h3 h3 => h3.run 300 ?_
  simp (disch := omega) only [exec_succ, runR_next, runR_stop, stepS, runOp, toSR, sop, rOf, rNew, sBox, isArr, ev, svs, Env.get, cellsS, envOf, Value.cells, OutOK_stop, Bool.false_eq_true, List.size_toArray, List.length_cons, List.length_nil, List.range, List.range.loop, List.getElem?_toArray, List.getElem?_cons_succ, List.getElem?_cons_zero, List.map_cons, List.map_nil, List.toList_toArray, ↓reduceIte, Nat.reduceAdd, Nat.reduceLT, Nat.reduceEqDiff, Nat.zero_add, reduceCtorEq, gl0]
  refine h3.rangeL rfl fun L l1 l2 l3 l4 l5 l6 => ?_
  refine Does.inlc rfl h3.hgl Tryd.ok62 (nt := 16) (res := []) Tryd.mixed Tryd.func62 rfl rfl rfl rfl fun κ_h4 x_h4 h4 => h4.run 300 ?_
  simp (disch := omega) only [exec_succ, runR_next, runR_need, runR_stop, stepS, runOp, toSR, sop, rOf, sLoadIn, sLoad, sStoreIn, sStore, sInt, sBin, ev, svs, Env.get, Heap.get, Heap.set, takeN, cut, over, paste, aggOf, cellsS, one, ones, envOf, Value.cells, Value.oneCell', OutOK_need, OutOK_stop, undefS, undef, List.size_toArray, List.length_cons, List.length_nil, List.range, List.range.loop, List.getElem?_toArray, List.getElem?_cons_succ, List.getElem?_cons_zero, List.map_cons, List.map_nil, List.cons_append, List.nil_append, List.toList_toArray, ↓reduceIte, Nat.reduceAdd, Nat.reduceLT, Nat.reduceEqDiff, Nat.zero_add, Nat.add_one_ne_zero, true_and, and_self, forall_const, reduceCtorEq, gl0, Tryd.sz37, Tryd.ag37]
  rw [and32_255 (by omega), and_255]
  refine Sat.nilCell 1 1 3 38 [] [] rfl ?_
  simp only [Heap.set, List.nil_append, Nat.reduceEqDiff, ↓reduceIte]
  refine Sat.less (Sat.loop (γ := Nat × List Int × Nat) (fun g => ([(0, .yl 3), (1, .ptr 0 0 0 0)], [(3, L.blk .ready none), (2, .obj (.deferred (some []))), (1, .own [.sl 4 1 0 g.2.1.length g.2.2] 38), (0, .own [S g.1] 37), (4, .row 1 g.2.2 3 (g.2.1.map (eI .i64)))], 5)) (fun g => g.1)
    (fun g => g.1 < 256 ∧ g.2.1 ++ bits g.1 = bits (s % 256)) ?round (s % 256, [], 0) ⟨hm, rfl⟩) (by repeat' (first | exact EnvSub.nil _ | exact HeapSub.nil _ | refine EnvSub.cons rfl ?_ | refine HeapSub.cons rfl ?_ | (refine EnvSub.cons (by simp [Env.get]; done) ?_) | (refine HeapSub.cons (by simp [Heap.get]; done) ?_))) (by repeat' (first | exact EnvSub.nil _ | exact HeapSub.nil _ | refine EnvSub.cons rfl ?_ | refine HeapSub.cons rfl ?_ | (refine EnvSub.cons (by simp [Env.get]; done) ?_) | (refine HeapSub.cons (by simp [Heap.get]; done) ?_)))
  case round =>
    rintro ⟨s', pre, cap⟩ ⟨hs', hpre⟩ ih
    dsimp only at hs' hpre ih ⊢
    have hlen : pre.length ≤ 8 := by
      have h1 := congrArg List.length hpre
      have h2 := bits_len (s % 256)
      simp only [List.length_append] at h1
      omega
    refine h4.run 300 ?_
    simp (disch := omega) only [exec_succ, runR_next, stepS, runOp, condS, toSR, sop, rOf, sLoadIn, sLoad, sInt, sBin, ev, Env.get, Heap.get, takeN, cut, aggOf, List.size_toArray, List.length_cons, List.length_nil, List.range, List.range.loop, List.getElem?_toArray, List.getElem?_cons_succ, List.getElem?_cons_zero, ↓reduceIte, Nat.reduceAdd, Nat.reduceLT, Nat.zero_add, Nat.add_one_ne_zero, reduceCtorEq, gl0, Tryd.sz37, Tryd.ag37]
    refine OutOK_fork (fun h => ?_) (fun h => ?_) <;> try simp only [Bool.not_true, Bool.not_false, decide_eq_true_eq, decide_eq_false_iff_not, Bool.not_eq_true', Bool.not_eq_false', Bool.and_eq_true, Bool.or_eq_false_iff, Bool.or_eq_true, Bool.and_eq_false_iff] at h
    · simp (disch := omega) only [exec_succ, runR_next, runR_call, stepS, runOp, toSR, sop, rOf, sLoadIn, sLoad, ev, evs, Env.get, Heap.get, takeN, cut, aggOf, OutOK_call, List.size_toArray, List.length_cons, List.length_nil, List.range, List.range.loop, List.getElem?_toArray, List.getElem?_cons_succ, List.getElem?_cons_zero, ↓reduceIte, Nat.reduceAdd, Nat.reduceLT, Nat.reduceEqDiff, Nat.zero_add, Nat.add_one_ne_zero, reduceCtorEq, Tryd.sz37, Tryd.ag37]
      have hb := bits_step s' hs' (by omega)
      refine Does.ret h4.hP h4.hgl (tz_ok s' (by omega) hs') ⟨trivial, by simp [SV.bnd, SV.bndL], by first | (simp [SV.bnd, SV.bndL]; done) | assumption⟩ ?_
      refine h4.run 300 ?_
      simp (disch := omega) only [exec_succ, runR_call, stepS, runOp, ev, evs, Env.get, setO, OutOK_call, List.getElem?_toArray, List.getElem?_cons_succ, List.getElem?_cons_zero, ↓reduceIte, Nat.reduceLT, Nat.reduceEqDiff, gl0]
      refine Does.roundL h4.hP h4.hgl Tryd.mixed (L := L) rfl l1 l2 l3 l4 l5 rfl rfl fun κ_h5 x_h5 h5 => ?_
      simp only [bindP]
      refine h5.run 300 ?_
      simp (disch := omega) only [exec_succ, runR_next, runR_stop, stepS, runOp, toSR, sop, rOf, ev, Env.get, OutOK_stop, List.size_toArray, List.length_cons, List.length_nil, List.range, List.range.loop, List.getElem?_toArray, List.getElem?_cons_zero, ↓reduceIte, Nat.reduceLT, Nat.zero_add, gl0]
      refine h5.beg rfl ?_
      simp only [Heap.set, Nat.reduceEqDiff, ↓reduceIte]
      refine h5.run 300 ?_
      simp (disch := omega) only [sBuiltin, srcS, appArgS, sAppendTo, sAppend, exec_succ, runR_next, runR_need, runR_all, runR_stop, stepS, runOp, toSR, sop, rOf, rNew, isArr, sLoadIn, sLoad, sStoreIn, sStore, sliceT, obind, fillS, evps, repeatL, sBuildSlice, chunk, ev, svs, Env.get, Heap.get, Heap.set, Heap.drop, takeN, cut, over, paste, aggOf, cellsS, one, ones, idFree, idFrees, Value.cells, Value.oneCell', OutOK_need, OutOK_all, OutOK_stop, undefS, undef, Bool.and_true, List.drop_zero, List.take_succ_cons, List.take_nil, List.size_toArray, List.length_cons, List.length_nil, List.length_map, List.range, List.range.loop, List.getElem?_toArray, List.getElem?_cons_succ, List.getElem?_cons_zero, List.map_cons, List.map_nil, List.append_nil, List.toList_toArray, ↓reduceIte, Nat.reduceAdd, Nat.reduceLT, Nat.reduceLeDiff, Nat.reduceEqDiff, Nat.zero_add, Nat.mul_one, Nat.add_one_ne_zero, ne_eq, not_false_eq_true, true_and, and_self, forall_const, reduceCtorEq, gl0, Tryd.sz3, Tryd.ze3, Tryd.by3, Tryd.underlying38, Tryd.sz38, Tryd.ag38]
      (repeat (refine ⟨by first | omega | (refine ⟨?_, ?_⟩ <;> omega) | trivial | (simp; done) | decide +kernel, fun _ => ?_⟩))
      intro c
      have e1 : (s' : Int) - 1 = ((s' - 1 : Nat) : Int) := by omega
      refine h5.fin rfl ?_
      simp only [Heap.set, Nat.reduceEqDiff, ↓reduceIte]
      refine h4.run 300 ?_
      simp (disch := omega) only [exec_succ, runR_next, runR_need, runR_fork_false, runR_stop, stepS, runOp, condS, toSR, sop, rOf, sLoadIn, sLoad, sStoreIn, sStore, sInt, sBin, sUn, ev, svs, Env.get, Heap.get, Heap.set, takeN, cut, over, paste, aggOf, cellsS, one, ones, setO, Value.cells, Value.oneCell', OutOK_need, OutOK_stop, undefS, undef, List.size_toArray, List.length_cons, List.length_nil, List.range, List.range.loop, List.getElem?_toArray, List.getElem?_cons_succ, List.getElem?_cons_zero, List.map_cons, List.map_nil, List.toList_toArray, ↓reduceIte, Nat.reduceAdd, Nat.reduceLT, Nat.reduceEqDiff, Nat.zero_add, Nat.add_one_ne_zero, Bool.not_true, true_and, and_self, forall_const, reduceCtorEq, wrap_u32, gl0, Tryd.sz37, Tryd.ag37, e1, and32]
      have hz := ih (s' &&& (s' - 1), pre ++ [(low 8 s' : Int)], pre.length + 1 + c) ⟨by dsimp only; omega, by dsimp only; rw [← hpre, hb.1]; simp⟩ hb.2.1
      simp only [List.length_append, List.length_cons, List.length_nil, List.length_singleton, List.length_map, List.length_set, List.length_replicate, Nat.zero_add, Nat.add_zero, Int.natCast_add, Int.natCast_one, Int.ofNat_eq_natCast, List.map_append, List.map_cons, List.map_nil, List.take_length, eI, eB] at hz ⊢
      have et : List.take pre.length (List.map (eI .i64) pre) = List.map (eI .i64) pre := List.take_of_length_le (by simp)
      rw [et]
      refine Sat.via (fun i => if i = 4 then 6 else i) (hz) (by intro i j; (repeat (first | omega | split))) (by repeat' (first | exact EnvVia.nil | refine EnvVia.cons (by first | trivial | decide | (simp [SV.bnd, SV.bndL]; done)) rfl ?_)) (by repeat' (first | exact HeapVia.nil | refine HeapVia.cons (by decide) (by first | trivial | (simp [Blk.bnd, SV.bnd, SV.bndL]; done) | exact bndL_mapV _ _ _ | exact LR.bnd (by rw [l2]; simp [bndE, SV.bnd, SV.bndL]) (by rw [l6]; decide)) (by first | rfl | (simp only [Blk.ren, renL_mapV]; rfl) | (rw [LR.ren (by rw [l2] <;> rfl) (by rw [l6] <;> rfl)]; rfl)) ?_)) ⟨by have := h4.hm; (try dsimp only at this); (first | done | omega), fun i hi => by have := h4.hm; (try dsimp only at this); (first | omega | (dsimp only; omega) | (rw [if_neg (by omega)]))⟩ ⟨by simp, rfl⟩
    · simp (disch := omega) only [exec_succ, runR_next, runR_stop, stepS, goS, exitTo, OutOK_stop, ↓reduceIte, beq_self_eq_true]
      obtain rfl : s' = 0 := by omega
      rw [bits_zero, List.append_nil] at hpre
      subst hpre
      refine h4.fin _ _ _ _ _ trivial rfl ?_
      refine ⟨_, _, rfl, by decide, ?_⟩
      simp only [Option.map_none, Option.map_some, Option.toList, List.nil_append, List.cons_append, Heap.drop, Nat.reduceEqDiff, ↓reduceIte]
      refine h3.run 300 ?_
      simp (disch := omega) only [exec_succ, runR_next, runR_stop, stepS, runOp, toSR, sop, rOf, sLoadIn, sLoad, ev, Env.get, Heap.get, Heap.drop, takeN, cut, aggOf, OutOK_stop, dropL, List.size_toArray, List.length_cons, List.length_nil, List.range, List.range.loop, List.getElem?_toArray, List.getElem?_cons_succ, List.getElem?_cons_zero, ↓reduceIte, Nat.reduceAdd, Nat.reduceLT, Nat.reduceEqDiff, Nat.zero_add, reduceCtorEq, gl0, Tryd.sz38, Tryd.ag38]
      refine h3.ret _ _ _ _ _ _ ⟨rfl, trivial⟩ rfl ?_
      simp only [dropL, Heap.drop, Nat.reduceEqDiff, ↓reduceIte]
      refine h2.run 300 ?_
      simp (disch := omega) only [exec_succ, runR_next, runR_stop, stepS, runOp, toSR, sop, rOf, ev, Env.get, setO, OutOK_stop, resV, List.getElem?_toArray, List.getElem?_cons_succ, List.getElem?_cons_zero, ↓reduceIte, Nat.reduceLT, gl0]
      refine h2.ret _ _ _ _ _ _ trivial rfl ?_
      refine hκ.run 300 ?_
      simp (disch := omega) only [exec_succ, runR_next, runR_stop, stepS, runOp, toSR, sop, rOf, ev, Env.get, setO, OutOK_stop, dropL, resV, List.getElem?_toArray, List.getElem?_cons_succ, List.getElem?_cons_zero, ↓reduceIte, Nat.reduceLT, gl0]
      refine hκ.ret _ _ _ _ _ _ trivial rfl ?_
      rw [bits_mod]
      exact Post.row rfl (by simp)
end Go.Proofs.YtbgnnmlhpaaebaaDoor

/- The walk of the law AuditCalm. No condition. -/
import Derived.Test.YtbjhphjpdeblnaaCd
namespace Go.Proofs.Ytbjhphjpdeblnaa
open Go Go.Sy
set_option maxRecDepth 100000
set_option linter.unusedSimpArgs false
set_option linter.unusedVariables false

theorem one_right {m : Mo} {en : Int} (hr : rightM m = true) (h : m.1 ≤ en ∧ en ≤ 1125899906842624) : rightW [m] en = true := by
  have hM := rightM_at hr
  refine rightW_yes (by simp) ((inI_iff ..).2 (by omega)) fun k hk => ?_
  obtain rfl : k = 0 := by simpa using hk
  rw [frW, show ([m] : List Mo).getD 0 default = m from rfl, hr, decide_eq_true h.1]; rfl
set_option maxHeartbeats 2000000 in
theorem calm_law (m : Mo) (len n : Int) (hm0 : inM0 m) (hlen : i64 len) (hn : i64 n) : Law Try.prog gl0 6 [.agg (eM m), I len, I n] := by
  have hms : m.2.length < 2 ^ 46 := hm0.2.2
  have hmt : i64 m.1 := hm0.1
  by_cases h30 : (30 : Int) < m.2.length
  · obtain ⟨t, l⟩ := m
    dsimp only at *
    refine Law.of (nt := 80) (res := [.tmp 6]) Try.mixed Try.func6 rfl rfl rfl rfl fun κ xc hκ => hκ.run 300 ?_
    simp (disch := omega) only [exec_succ, runR_next, runR_call, stepS, runOp, toSR, sop, rOf, rNew, sBox, isArr, ev, evs, Env.get, cellsS, envOf, OutOK_call, Bool.false_eq_true, List.size_toArray, List.length_cons, List.length_nil, List.range, List.range.loop, List.getElem?_toArray, List.getElem?_cons_succ, List.getElem?_cons_zero, ↓reduceIte, Nat.reduceAdd, Nat.reduceLT, Nat.zero_add, gl0, eM]
    refine Does.ret hκ.hP hκ.hgl (wakes_ok) ⟨trivial, by simp [SV.bnd, SV.bndL], by first | (simp [SV.bnd, SV.bndL]; done) | assumption⟩ ?_
    refine hκ.run 300 ?_
    simp (disch := omega) only [sBuiltin, exec_succ, runR_next, runR_fork_false, stepS, runOp, condS, toSR, sop, rOf, sLoadIn, sLoad, sInt, sBin, sUn, sFieldAddr, sLen, ev, Env.get, Heap.get, takeN, cut, aggOf, setO, List.size_toArray, List.length_cons, List.length_nil, List.length_map, List.range, List.range.loop, List.getElem?_toArray, List.getElem?_cons_succ, List.getElem?_cons_zero, ↓reduceIte, Nat.reduceAdd, Nat.reduceLT, Nat.reduceEqDiff, Nat.zero_add, Nat.add_one_ne_zero, Bool.not_true, gl0, Try.underlying25, Try.sz25, Try.ag25, Try.fd27f1]
    simp (disch := omega) only [exec_succ, runR_next, runR_fork_true, runR_stop, stepS, runOp, toSR, sop, rOf, ev, OutOK_stop, List.size_toArray, List.length_cons, List.length_nil, List.range, List.range.loop, List.getElem?_toArray, List.getElem?_cons_zero, ↓reduceIte, Nat.reduceLT, Nat.zero_add, decide_true, h30]
    refine hκ.ret _ _ _ _ _ _ trivial rfl ?_
    rfl
  have hm : inM m := ⟨hm0.1, hm0.2.1, by omega⟩
  have c1 : Con Try.prog gl0 (fnv 10) [noT, .agg (eM m)] 0 [] (Ret (.tup [Wt (if addE [] 0 m = 0 then addW [] m else []) (if addE [] 0 m = 0 then m.1 else 0), I (addE [] 0 m)])) :=
    Con.argR (fun _ => RelL.mapHead (Rel.aggMap nil1)) (add_ok [] 0 m (by simp) (by decide) hm (by decide))
  have hadd : addW [] m = [m] := rfl
  by_cases he : addE [] 0 m = 0
  case neg =>
    rw [if_neg he, if_neg he] at c1
    obtain ⟨t, l⟩ := m
    dsimp only at *
    refine Law.of (nt := 80) (res := [.tmp 6]) Try.mixed Try.func6 rfl rfl rfl rfl fun κ xc hκ => hκ.run 300 ?_
    simp (disch := omega) only [exec_succ, runR_next, runR_call, stepS, runOp, toSR, sop, rOf, rNew, sBox, isArr, ev, evs, Env.get, cellsS, envOf, OutOK_call, Bool.false_eq_true, List.size_toArray, List.length_cons, List.length_nil, List.range, List.range.loop, List.getElem?_toArray, List.getElem?_cons_succ, List.getElem?_cons_zero, ↓reduceIte, Nat.reduceAdd, Nat.reduceLT, Nat.zero_add, gl0, eM]
    refine Does.ret hκ.hP hκ.hgl (wakes_ok) ⟨trivial, by simp [SV.bnd, SV.bndL], by first | (simp [SV.bnd, SV.bndL]; done) | assumption⟩ ?_
    refine hκ.run 300 ?_
    simp (disch := omega) only [sBuiltin, exec_succ, runR_next, runR_fork_false, stepS, runOp, condS, toSR, sop, rOf, sLoadIn, sLoad, sInt, sBin, sUn, sFieldAddr, sLen, ev, Env.get, Heap.get, takeN, cut, aggOf, setO, List.size_toArray, List.length_cons, List.length_nil, List.length_map, List.range, List.range.loop, List.getElem?_toArray, List.getElem?_cons_succ, List.getElem?_cons_zero, ↓reduceIte, Nat.reduceAdd, Nat.reduceLT, Nat.reduceEqDiff, Nat.zero_add, Nat.add_one_ne_zero, Bool.not_true, gl0, Try.underlying25, Try.sz25, Try.ag25, Try.fd27f1]
    simp (disch := omega) only [sBuild0, exec_succ, runR_next, runR_fork_false, runR_call, stepS, runOp, toSR, sop, rOf, sLoadIn, sLoad, fillS, evps, sBuild, ev, evs, svs, Env.get, Heap.get, takeN, cut, aggOf, OutOK_call, List.size_toArray, List.length_cons, List.length_nil, List.range, List.range.loop, List.getElem?_toArray, List.getElem?_cons_succ, List.getElem?_cons_zero, List.map_cons, List.map_nil, ↓reduceIte, Nat.reduceAdd, Nat.reduceLT, Nat.reduceEqDiff, Nat.zero_add, decide_false, Try.ze24, Try.pl24, Try.ar24, Try.sz27, Try.ag27, h30]
    refine Does.ret hκ.hP hκ.hgl c1 ⟨trivial, by simp [SV.bnd, SV.bndL, eM], by simp [SV.bnd, SV.bndL]⟩ ?_
    refine hκ.run 300 ?_
    simp (disch := omega) only [sBuiltin, exec_succ, runR_next, runR_need, runR_fork_true, runR_stop, stepS, runOp, condS, toSR, sop, rOf, rNew, sAlloc, sAlloc0, sLoadIn, sLoad, sStoreIn, sStore, sInt, sBin, sFieldAddr, sExtract, sLen, ev, svs, Env.get, Heap.get, Heap.set, takeN, cut, over, paste, aggOf, cellsS, one, ones, setO, Value.oneCell', OutOK_need, OutOK_stop, undefS, undef, Int.cast_ofNat_Int, List.size_toArray, List.length_cons, List.length_nil, List.range, List.range.loop, List.getElem?_toArray, List.getElem?_cons_succ, List.getElem?_cons_zero, List.map_cons, List.map_nil, ↓reduceIte, Nat.reduceAdd, Nat.reduceLT, Nat.reduceEqDiff, Nat.zero_add, Nat.add_zero, Nat.add_one_ne_zero, Bool.not_false, decide_true, decide_false, true_and, and_self, forall_const, gl0, Try.underlying22, Try.sz22, Try.ag22, Try.sz24, Try.ze24, Try.ar24, Try.fd24f0, he]
    refine hκ.ret _ _ _ _ _ _ trivial rfl ?_
    rfl
  rw [if_pos he, if_pos he, he, hadd] at c1
  have hr : rightM m = true := by
    by_cases h : rightM m = true
    · exact h
    · rw [addE, if_pos (by decide), if_neg (fun h2 => h h2.1)] at he
      exact absurd he (by decide)
  have hM := rightM_at hr
  have hone : ∀ x ∈ [m], inM x := fun x hx => by rw [List.mem_singleton] at hx; subst hx; exact hm
  obtain ⟨q, hq⟩ : ∃ q, max len 0 % 10000001 = q := ⟨_, rfl⟩
  have hqb : 0 ≤ q ∧ q ≤ 10000000 := by omega
  have c2 := pass_ok [m] m.1 (m.1 + q) hone hmt (by omega) (by simp)
  have hself := one_right (en := m.1) hr (by omega)
  by_cases hto : m.1 + q ≤ 1125899906842624
  case neg =>
    have hpe : passE [m] m.1 (m.1 + q) = 2 := by rw [passE, if_pos hself, if_neg (by omega)]
    rw [hpe, if_neg (by decide), if_neg (by decide)] at c2
    obtain ⟨t, l⟩ := m
    dsimp only at *
    refine Law.of (nt := 80) (res := [.tmp 6]) Try.mixed Try.func6 rfl rfl rfl rfl fun κ xc hκ => hκ.run 300 ?_
    simp (disch := omega) only [exec_succ, runR_next, runR_call, stepS, runOp, toSR, sop, rOf, rNew, sBox, isArr, ev, evs, Env.get, cellsS, envOf, OutOK_call, Bool.false_eq_true, List.size_toArray, List.length_cons, List.length_nil, List.range, List.range.loop, List.getElem?_toArray, List.getElem?_cons_succ, List.getElem?_cons_zero, ↓reduceIte, Nat.reduceAdd, Nat.reduceLT, Nat.zero_add, gl0, eM]
    refine Does.ret hκ.hP hκ.hgl (wakes_ok) ⟨trivial, by simp [SV.bnd, SV.bndL], by first | (simp [SV.bnd, SV.bndL]; done) | assumption⟩ ?_
    refine hκ.run 300 ?_
    simp (disch := omega) only [sBuiltin, exec_succ, runR_next, runR_fork_false, stepS, runOp, condS, toSR, sop, rOf, sLoadIn, sLoad, sInt, sBin, sUn, sFieldAddr, sLen, ev, Env.get, Heap.get, takeN, cut, aggOf, setO, List.size_toArray, List.length_cons, List.length_nil, List.length_map, List.range, List.range.loop, List.getElem?_toArray, List.getElem?_cons_succ, List.getElem?_cons_zero, ↓reduceIte, Nat.reduceAdd, Nat.reduceLT, Nat.reduceEqDiff, Nat.zero_add, Nat.add_one_ne_zero, Bool.not_true, gl0, Try.underlying25, Try.sz25, Try.ag25, Try.fd27f1]
    simp (disch := omega) only [sBuild0, exec_succ, runR_next, runR_fork_false, runR_call, stepS, runOp, toSR, sop, rOf, sLoadIn, sLoad, fillS, evps, sBuild, ev, evs, svs, Env.get, Heap.get, takeN, cut, aggOf, OutOK_call, List.size_toArray, List.length_cons, List.length_nil, List.range, List.range.loop, List.getElem?_toArray, List.getElem?_cons_succ, List.getElem?_cons_zero, List.map_cons, List.map_nil, ↓reduceIte, Nat.reduceAdd, Nat.reduceLT, Nat.reduceEqDiff, Nat.zero_add, decide_false, Try.ze24, Try.pl24, Try.ar24, Try.sz27, Try.ag27, h30]
    refine Does.ret hκ.hP hκ.hgl c1 ⟨trivial, by simp [SV.bnd, SV.bndL, eM], by simp [SV.bnd, SV.bndL]⟩ ?_
    refine hκ.run 300 ?_
    simp (disch := omega) only [sBuiltin, sMinMax, exec_succ, runR_next, runR_need, runR_fork_false, runR_call, stepS, runOp, condS, toSR, sop, rOf, rNew, sAlloc, sAlloc0, sLoadIn, sLoad, sStoreIn, sStore, sInt, sBin, sFieldAddr, sExtract, ev, evs, svs, Env.get, Heap.get, Heap.set, takeN, cut, over, paste, aggOf, cellsS, one, ones, setO, Value.oneCell', OutOK_need, OutOK_call, undefS, undef, List.size_toArray, List.length_cons, List.length_nil, List.range, List.range.loop, List.getElem?_toArray, List.getElem?_cons_succ, List.getElem?_cons_zero, List.map_cons, List.map_nil, ↓reduceIte, Nat.reduceAdd, Nat.reduceLT, Nat.reduceEqDiff, Nat.zero_add, Nat.add_zero, Nat.add_one_ne_zero, Int.reduceEq, Bool.not_true, decide_true, ne_eq, not_false_eq_true, true_and, and_self, forall_const, reduceCtorEq, Int.tmod_eq_emod_of_nonneg, wrap_i64, gl0, Try.sz2, Try.ag2, Try.sz24, Try.ag24, Try.ze24, Try.ar24, Try.fd27f0, hq]
    (repeat (refine ⟨by first | omega | (refine ⟨?_, ?_⟩ <;> omega) | trivial | (simp; done) | decide +kernel, fun _ => ?_⟩))
    refine Does.ret hκ.hP hκ.hgl (c2) ⟨trivial, by simp [SV.bnd, SV.bndL], by first | (simp [SV.bnd, SV.bndL]; done) | assumption⟩ ?_
    refine hκ.run 300 ?_
    simp (disch := omega) only [exec_succ, runR_next, runR_need, runR_fork_true, runR_stop, stepS, runOp, condS, toSR, sop, rOf, rNew, sAlloc, sAlloc0, sStoreIn, sStore, sInt, sBin, sExtract, ev, svs, Env.get, Heap.get, Heap.set, over, paste, cellsS, one, ones, setO, Value.oneCell', OutOK_need, OutOK_stop, undefS, undef, List.size_toArray, List.length_cons, List.length_nil, List.range, List.range.loop, List.getElem?_toArray, List.getElem?_cons_succ, List.getElem?_cons_zero, List.map_cons, List.map_nil, ↓reduceIte, Nat.reduceAdd, Nat.reduceLT, Nat.reduceEqDiff, Nat.zero_add, Int.reduceEq, Bool.not_false, decide_false, true_and, and_self, forall_const, gl0, Try.sz24, Try.ze24, Try.ar24]
    refine hκ.ret _ _ _ _ _ _ trivial rfl ?_
    rfl
  have hpe : passE [m] m.1 (m.1 + q) = 0 := by rw [passE, if_pos hself, if_pos (by omega)]
  rw [hpe, if_pos rfl, if_pos rfl] at c2
  have hto2 := one_right (en := m.1 + q) hr (by omega)
  have c3 := fun d => caps_ok m (m.1 + q) d hm hto2 (by omega) (by omega) hr
  obtain ⟨p, hp⟩ : ∃ p, max n 0 % 4 = p := ⟨_, rfl⟩
  have c4 := audApart_ok m (m.1 + q) p hm hto2 (by omega) (by omega) hr (by omega)
  obtain ⟨t, l⟩ := m
  dsimp only at *
  refine Law.of (nt := 80) (res := [.tmp 6]) Try.mixed Try.func6 rfl rfl rfl rfl fun κ xc hκ => hκ.run 300 ?_
  simp (disch := omega) only [exec_succ, runR_next, runR_call, stepS, runOp, toSR, sop, rOf, rNew, sBox, isArr, ev, evs, Env.get, cellsS, envOf, OutOK_call, Bool.false_eq_true, List.size_toArray, List.length_cons, List.length_nil, List.range, List.range.loop, List.getElem?_toArray, List.getElem?_cons_succ, List.getElem?_cons_zero, ↓reduceIte, Nat.reduceAdd, Nat.reduceLT, Nat.zero_add, gl0, eM]
  refine Does.ret hκ.hP hκ.hgl (wakes_ok) ⟨trivial, by simp [SV.bnd, SV.bndL], by first | (simp [SV.bnd, SV.bndL]; done) | assumption⟩ ?_
  refine hκ.run 300 ?_
  simp (disch := omega) only [sBuiltin, exec_succ, runR_next, runR_fork_false, stepS, runOp, condS, toSR, sop, rOf, sLoadIn, sLoad, sInt, sBin, sUn, sFieldAddr, sLen, ev, Env.get, Heap.get, takeN, cut, aggOf, setO, List.size_toArray, List.length_cons, List.length_nil, List.length_map, List.range, List.range.loop, List.getElem?_toArray, List.getElem?_cons_succ, List.getElem?_cons_zero, ↓reduceIte, Nat.reduceAdd, Nat.reduceLT, Nat.reduceEqDiff, Nat.zero_add, Nat.add_one_ne_zero, Bool.not_true, gl0, Try.underlying25, Try.sz25, Try.ag25, Try.fd27f1]
  simp (disch := omega) only [sBuild0, exec_succ, runR_next, runR_fork_false, runR_call, stepS, runOp, toSR, sop, rOf, sLoadIn, sLoad, fillS, evps, sBuild, ev, evs, svs, Env.get, Heap.get, takeN, cut, aggOf, OutOK_call, List.size_toArray, List.length_cons, List.length_nil, List.range, List.range.loop, List.getElem?_toArray, List.getElem?_cons_succ, List.getElem?_cons_zero, List.map_cons, List.map_nil, ↓reduceIte, Nat.reduceAdd, Nat.reduceLT, Nat.reduceEqDiff, Nat.zero_add, decide_false, Try.ze24, Try.pl24, Try.ar24, Try.sz27, Try.ag27, h30]
  refine Does.ret hκ.hP hκ.hgl c1 ⟨trivial, by simp [SV.bnd, SV.bndL, eM], by simp [SV.bnd, SV.bndL]⟩ ?_
  refine hκ.run 300 ?_
  simp (disch := omega) only [sBuiltin, sMinMax, exec_succ, runR_next, runR_need, runR_fork_false, runR_call, stepS, runOp, condS, toSR, sop, rOf, rNew, sAlloc, sAlloc0, sLoadIn, sLoad, sStoreIn, sStore, sInt, sBin, sFieldAddr, sExtract, ev, evs, svs, Env.get, Heap.get, Heap.set, takeN, cut, over, paste, aggOf, cellsS, one, ones, setO, Value.oneCell', OutOK_need, OutOK_call, undefS, undef, List.size_toArray, List.length_cons, List.length_nil, List.range, List.range.loop, List.getElem?_toArray, List.getElem?_cons_succ, List.getElem?_cons_zero, List.map_cons, List.map_nil, ↓reduceIte, Nat.reduceAdd, Nat.reduceLT, Nat.reduceEqDiff, Nat.zero_add, Nat.add_zero, Nat.add_one_ne_zero, Int.reduceEq, Bool.not_true, decide_true, ne_eq, not_false_eq_true, true_and, and_self, forall_const, reduceCtorEq, Int.tmod_eq_emod_of_nonneg, wrap_i64, gl0, Try.sz2, Try.ag2, Try.sz24, Try.ag24, Try.ze24, Try.ar24, Try.fd27f0, hq]
  (repeat (refine ⟨by first | omega | (refine ⟨?_, ?_⟩ <;> omega) | trivial | (simp; done) | decide +kernel, fun _ => ?_⟩))
  refine Does.ret hκ.hP hκ.hgl (c2) ⟨trivial, by simp [SV.bnd, SV.bndL], by first | (simp [SV.bnd, SV.bndL]; done) | assumption⟩ ?_
  refine hκ.run 300 ?_
  simp (disch := omega) only [exec_succ, runR_next, runR_need, runR_fork_false, runR_stop, stepS, runOp, condS, toSR, sop, rOf, rNew, sAlloc, sAlloc0, sStoreIn, sStore, sInt, sBin, sExtract, ev, svs, Env.get, Heap.get, Heap.set, over, paste, cellsS, one, ones, setO, Value.oneCell', OutOK_need, OutOK_stop, undefS, undef, List.size_toArray, List.length_cons, List.length_nil, List.range, List.range.loop, List.getElem?_toArray, List.getElem?_cons_succ, List.getElem?_cons_zero, List.map_cons, List.map_nil, ↓reduceIte, Nat.reduceAdd, Nat.reduceLT, Nat.reduceEqDiff, Nat.zero_add, Bool.not_true, decide_true, true_and, and_self, forall_const, gl0, Try.sz24, Try.ze24, Try.ar24]
  refine Sat.less (Sat.loop (γ := Nat) (fun d => ([(46, I d), (9, .ptr 2 0 0 0), (2, I n)], [(2, .own [Ms [(t, l)], I (t + q)] 24)], 3)) (fun d => 9 - d) (fun d => d ≤ 9) ?round 0 (by decide)) (by repeat' (first | exact EnvSub.nil _ | exact HeapSub.nil _ | refine EnvSub.cons rfl ?_ | refine HeapSub.cons rfl ?_ | (refine EnvSub.cons (by simp [Env.get]; done) ?_) | (refine HeapSub.cons (by simp [Heap.get]; done) ?_))) (by repeat' (first | exact EnvSub.nil _ | exact HeapSub.nil _ | refine EnvSub.cons rfl ?_ | refine HeapSub.cons rfl ?_ | (refine EnvSub.cons (by simp [Env.get]; done) ?_) | (refine HeapSub.cons (by simp [Heap.get]; done) ?_)))
  case round =>
    intro d hd ih
    dsimp only at ih ⊢
    refine hκ.run 300 ?_
    simp (disch := omega) only [exec_succ, runR_next, stepS, runOp, condS, toSR, sop, sInt, sBin, ev, Env.get, List.size_toArray, List.length_cons, List.length_nil, List.range, List.range.loop, List.getElem?_toArray, List.getElem?_cons_zero, ↓reduceIte, Nat.reduceLT, Nat.zero_add, gl0]
    refine OutOK_fork (fun h => ?_) (fun h => ?_) <;> try simp only [Bool.not_true, Bool.not_false, decide_eq_true_eq, decide_eq_false_iff_not, Bool.not_eq_true', Bool.not_eq_false', Bool.and_eq_true, Bool.or_eq_false_iff, Bool.or_eq_true, Bool.and_eq_false_iff] at h
    · have hz := ih (d + 1) (by omega) (by omega)
      simp (disch := omega) only [exec_succ, runR_next, runR_call, stepS, runOp, toSR, sop, rOf, sLoadIn, sLoad, ev, evs, Env.get, Heap.get, takeN, cut, aggOf, OutOK_call, List.size_toArray, List.length_cons, List.length_nil, List.range, List.range.loop, List.getElem?_toArray, List.getElem?_cons_succ, List.getElem?_cons_zero, ↓reduceIte, Nat.reduceAdd, Nat.reduceLT, Nat.reduceEqDiff, Nat.zero_add, Try.sz24, Try.ag24]
      refine Does.ret hκ.hP hκ.hgl (c3 d) ⟨trivial, by simp [SV.bnd, SV.bndL], by first | (simp [SV.bnd, SV.bndL]; done) | assumption⟩ ?_
      refine hκ.run 300 ?_
      simp (disch := omega) only [exec_succ, runR_next, runR_fork_false, runR_guard_ff, runR_stop, stepS, runOp, guardS, condS, toSR, sop, rOf, sPick, sInt, sBin, sUn, sExtract, ev, Env.get, setO, OutOK_stop, undefS, undef, List.size_toArray, List.length_cons, List.length_nil, List.range, List.range.loop, List.getElem?_toArray, List.getElem?_cons_succ, List.getElem?_cons_zero, Option.bind_some, ↓reduceIte, Nat.reduceAdd, Nat.reduceLT, Nat.reduceEqDiff, Nat.zero_add, Bool.not_true, Bool.not_false, decide_true, and_self, wrap_i64, gl0]
      refine Sat.via (fun i => i) (hz) (by intro i j; (repeat (first | omega | split))) (by repeat' (first | exact EnvVia.nil | refine EnvVia.cons (by first | trivial | decide | (simp [SV.bnd, SV.bndL]; done)) rfl ?_)) (by repeat' (first | exact HeapVia.nil | refine HeapVia.cons (by decide) (by first | trivial | (simp [Blk.bnd, SV.bnd, SV.bndL]; done) | exact bndL_mapV _ _ _ | exact LR.bnd (by rw [l2]; simp [bndE, SV.bnd, SV.bndL]) (by rw [l6]; decide)) (by first | rfl | (simp only [Blk.ren, renL_mapV]; rfl) | (rw [LR.ren (by rw [l2] <;> rfl) (by rw [l6] <;> rfl)]; rfl)) ?_)) ⟨by have := hκ.hm; (try dsimp only at this); (first | done | omega), fun i hi => by have := hκ.hm; (try dsimp only at this); (first | omega | (dsimp only; omega) | (rw [if_neg (by omega)]))⟩ ⟨by simp, rfl⟩
    · simp (disch := omega) only [sBuiltin, sMinMax, exec_succ, runR_next, runR_need, runR_call, stepS, runOp, goS, toSR, sop, rOf, sLoadIn, sLoad, sInt, sBin, ev, evs, Env.get, Heap.get, takeN, cut, aggOf, exitTo, OutOK_need, OutOK_call, List.size_toArray, List.length_cons, List.length_nil, List.range, List.range.loop, List.getElem?_toArray, List.getElem?_cons_succ, List.getElem?_cons_zero, List.map_cons, List.map_nil, ↓reduceIte, Nat.reduceAdd, Nat.reduceLT, Nat.reduceEqDiff, Nat.zero_add, Int.reduceEq, beq_self_eq_true, ne_eq, not_false_eq_true, true_and, forall_const, Int.tmod_eq_emod_of_nonneg, Try.sz24, Try.ag24, hp]
      (repeat (refine ⟨by first | omega | (refine ⟨?_, ?_⟩ <;> omega) | trivial | (simp; done) | decide +kernel, fun _ => ?_⟩))
      refine Does.pure hκ.hP hκ.hgl c4 trivial (by simp [SV.bnd, SV.bndL]) ?_
      rintro s H k ⟨b1, b2, hb, rfl, rfl, rfl⟩
      refine ⟨⟨by simp [SV.bnd, SV.bndL], rfl, rfl⟩, ?_⟩
      cases b2
      · refine hκ.run 300 ?_
        simp (disch := omega) only [exec_succ, runR_next, runR_guard_tt, runR_guard_tf, runR_stop, stepS, runOp, guardS, toSR, sop, rOf, sPick, sInt, sBin, sUn, sExtract, ev, Env.get, setO, OutOK_stop, undefS, undef, List.size_toArray, List.length_cons, List.length_nil, List.range, List.range.loop, List.getElem?_toArray, List.getElem?_cons_succ, List.getElem?_cons_zero, Option.bind_some, ↓reduceIte, Nat.reduceAdd, Nat.reduceLT, Nat.reduceEqDiff, Nat.zero_add, Bool.not_true, Bool.not_false, decide_true, and_self, gl0]
        refine hκ.ret _ _ _ _ _ _ trivial rfl ?_
        rfl
      · obtain rfl := hb rfl
        refine hκ.run 300 ?_
        simp (disch := omega) only [exec_succ, runR_next, runR_guard_tt, runR_guard_ff, runR_stop, stepS, runOp, guardS, toSR, sop, rOf, sPick, sInt, sBin, sUn, sExtract, ev, Env.get, setO, OutOK_stop, undefS, undef, List.size_toArray, List.length_cons, List.length_nil, List.range, List.range.loop, List.getElem?_toArray, List.getElem?_cons_succ, List.getElem?_cons_zero, Option.bind_some, ↓reduceIte, Nat.reduceAdd, Nat.reduceLT, Nat.reduceEqDiff, Nat.zero_add, Bool.not_true, Bool.not_false, decide_true, and_self, gl0]
        refine hκ.ret _ _ _ _ _ _ trivial rfl ?_
        rfl
end Go.Proofs.Ytbjhphjpdeblnaa

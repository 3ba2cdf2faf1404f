/- The walk of the law AuditAdds. No condition. -/
import Derived.Test.YtbjhphjpdeblnaaAl
import Derived.Test.YtbjhphjpdeblnaaAm
namespace Go.Proofs.Ytbjhphjpdeblnaa
open Go Go.Sy
set_option maxRecDepth 100000
set_option linter.unusedSimpArgs false
set_option linter.unusedVariables false

theorem overT_no {ms : List Mo} (h : overT ms = false) : ms.length ≤ 120 ∧ ∀ f ∈ ms, f.2.length ≤ 30 := by
  rw [overT, Bool.or_eq_false_iff, decide_eq_false_iff_not, List.any_eq_false] at h
  refine ⟨by omega, fun f hf => ?_⟩
  have := h.2 f hf
  simpa using this
theorem inM_of {ms : List Mo} (hf : ∀ m ∈ ms, inM0 m) (h : overT ms = false) : ∀ m ∈ ms, inM m := fun m hm => ⟨(hf m hm).1, (hf m hm).2.1, by have := (overT_no h).2 m hm; omega⟩
theorem sameT_refl (fs : List Mo) (en : Int) : sameT fs fs en en = true := by rw [sameT, decide_eq_true rfl, decide_eq_true rfl]; rfl
theorem adds_law (ms : List Mo) (en to : Int) (m : Mo) (hf0 : ∀ m ∈ ms, inM0 m) (he : i64 en) (hw : i64 to) (hm0 : inM0 m) (hn : ms.length < 2 ^ 46) : Law Try.prog gl0 3 [Wt ms en, .agg (eM m), I to] := by
  obtain ⟨t, l⟩ := m
  obtain ⟨m1, m2, m3⟩ := hm0
  dsimp only at m1 m2 m3
  refine Law.of (nt := 113) (res := [.tmp 6]) Try.mixed Try.func3 rfl rfl rfl rfl fun κ xc hκ => hκ.run 300 ?_
  simp (disch := omega) only [exec_succ, runR_next, runR_call, stepS, runOp, toSR, sop, rOf, rNew, sBox, isArr, ev, evs, Env.get, cellsS, envOf, OutOK_call, Bool.false_eq_true, List.size_toArray, List.length_cons, List.length_nil, List.range, List.range.loop, List.getElem?_toArray, List.getElem?_cons_succ, List.getElem?_cons_zero, ↓reduceIte, Nat.reduceAdd, Nat.reduceLT, Nat.reduceEqDiff, Nat.zero_add, reduceCtorEq, gl0, eM]
  refine Does.ret hκ.hP hκ.hgl (wakes_ok) ⟨trivial, by simp [SV.bnd, SV.bndL], by first | (simp [SV.bnd, SV.bndL]; done) | assumption⟩ ?_
  refine hκ.run 300 ?_
  simp (disch := omega) only [exec_succ, runR_next, runR_fork_false, runR_call, stepS, runOp, condS, toSR, sop, rOf, sLoadIn, sLoad, sUn, ev, evs, Env.get, Heap.get, takeN, cut, aggOf, setO, OutOK_call, List.size_toArray, List.length_cons, List.length_nil, List.range, List.range.loop, List.getElem?_toArray, List.getElem?_cons_succ, List.getElem?_cons_zero, ↓reduceIte, Nat.reduceAdd, Nat.reduceLT, Nat.reduceEqDiff, Nat.zero_add, Nat.add_one_ne_zero, Bool.not_true, gl0, Try.sz24, Try.ag24]
  refine Does.ret hκ.hP hκ.hgl (over_ok ms en hf0 hn) ⟨trivial, by simp [SV.bnd, SV.bndL], by first | (simp [SV.bnd, SV.bndL]; done) | assumption⟩ ?_
  cases ho : overT ms
  case true =>
    refine hκ.run 300 ?_
    simp (disch := omega) only [sBuiltin, exec_succ, runR_next, runR_fork_true, runR_guard_tf, runR_stop, stepS, runOp, guardS, condS, toSR, sop, rOf, sPick, sLoad, sBin, sFieldAddr, sLen, ev, Env.get, setO, OutOK_stop, undefS, undef, List.size_toArray, List.length_cons, List.length_nil, List.range, List.range.loop, List.getElem?_toArray, List.getElem?_cons_succ, List.getElem?_cons_zero, Option.bind_some, ↓reduceIte, Nat.reduceLT, Nat.reduceEqDiff, Nat.zero_add, Nat.add_one_ne_zero, Bool.not_false, and_self, gl0, Try.fd27f1]
    refine hκ.ret _ _ _ _ _ _ trivial rfl ?_
    rfl
  obtain ⟨hn3, hs3⟩ := overT_no ho
  have hf := inM_of hf0 ho
  have hs : ∀ f ∈ ms, f.2.length < 2 ^ 40 := fun f hf => by have := hs3 f hf; omega
  by_cases h30 : (30 : Int) < l.length
  · refine hκ.run 300 ?_
    simp (disch := omega) only [sBuiltin, exec_succ, runR_next, runR_fork_true, runR_guard_ff, runR_stop, stepS, runOp, guardS, condS, toSR, sop, rOf, sPick, sLoadIn, sLoad, sInt, sBin, sFieldAddr, sLen, ev, Env.get, Heap.get, takeN, cut, aggOf, setO, OutOK_stop, undefS, undef, List.size_toArray, List.length_cons, List.length_nil, List.length_map, List.range, List.range.loop, List.getElem?_toArray, List.getElem?_cons_succ, List.getElem?_cons_zero, Option.bind_some, ↓reduceIte, Nat.reduceLT, Nat.reduceEqDiff, Nat.zero_add, Nat.add_one_ne_zero, Bool.not_false, decide_true, and_self, gl0, Try.underlying25, Try.sz25, Try.ag25, Try.fd27f1, h30]
    refine hκ.ret _ _ _ _ _ _ trivial rfl ?_
    rfl
  have hm : inM (t, l) := ⟨m1, m2, by dsimp only; omega⟩
  refine hκ.run 300 ?_
  simp (disch := omega) only [sBuiltin, exec_succ, runR_next, runR_fork_false, runR_guard_ff, runR_call, stepS, runOp, guardS, condS, toSR, sop, rOf, sPick, sLoadIn, sLoad, sInt, sBin, sFieldAddr, sLen, ev, evs, Env.get, Heap.get, takeN, cut, aggOf, setO, OutOK_call, undefS, undef, List.size_toArray, List.length_cons, List.length_nil, List.length_map, List.range, List.range.loop, List.getElem?_toArray, List.getElem?_cons_succ, List.getElem?_cons_zero, Option.bind_some, ↓reduceIte, Nat.reduceAdd, Nat.reduceLT, Nat.reduceEqDiff, Nat.zero_add, Nat.add_one_ne_zero, Bool.not_false, decide_false, and_self, gl0, Try.sz24, Try.ag24, Try.underlying25, Try.sz25, Try.ag25, Try.fd27f1, h30]
  refine Does.ret hκ.hP hκ.hgl (copied_ok ms en hf hs (by omega)) ⟨trivial, by simp [SV.bnd, SV.bndL], by first | (simp [SV.bnd, SV.bndL]; done) | assumption⟩ ?_
  refine hκ.run 300 ?_
  simp (disch := omega) only [exec_succ, runR_next, runR_need, runR_call, stepS, runOp, toSR, sop, rOf, rNew, sAlloc, sAlloc0, sLoadIn, sLoad, sStoreIn, sStore, ev, evs, svs, Env.get, Heap.get, Heap.set, takeN, cut, over, paste, aggOf, cellsS, one, ones, setO, Value.oneCell', OutOK_need, OutOK_call, undefS, undef, List.size_toArray, List.length_cons, List.length_nil, List.range, List.range.loop, List.getElem?_toArray, List.getElem?_cons_succ, List.getElem?_cons_zero, List.map_cons, List.map_nil, ↓reduceIte, Nat.reduceAdd, Nat.reduceLT, Nat.reduceEqDiff, Nat.zero_add, true_and, and_self, forall_const, gl0, Try.sz24, Try.ag24, Try.ze24, Try.ar24, Try.sz27, Try.ag27]
  have c1 := add_ok ms en (t, l) hf he hm (by omega)
  have c2 := radd_ok ms en (t, l) hf he hm (by omega)
  have hA : ∀ f ∈ (if addE ms en (t, l) = 0 then addW ms (t, l) else []), inM f := fun f hf2 => by
    split at hf2
    · rcases addW_mem hf2 with h | rfl
      · exact hf f h
      · exact hm
    · cases hf2
  have hAn : (if addE ms en (t, l) = 0 then addW ms (t, l) else []).length < 2 ^ 46 := by
    have := addW_len ms (t, l)
    split
    · omega
    · exact Nat.zero_lt_of_lt (show 0 < 2 ^ 46 by decide)
  have ec : SV.closed (.tup [Wt (if addE ms en (t, l) = 0 then addW ms (t, l) else []) (if addE ms en (t, l) = 0 then t else 0), I (addE ms en (t, l))]) := by simp [SV.bnd, SV.bndL]
  dsimp only at c1 c2
  generalize (if addE ms en (t, l) = 0 then addW ms (t, l) else []) = A at c1 c2 hA hAn ec
  generalize (if addE ms en (t, l) = 0 then t else 0) = B at c1 c2 ec
  generalize addE ms en (t, l) = E at c1 c2 ec
  have c3 := pass_ok ms en to hf he hw (by omega)
  have c4 := wright_ok ms en hf he (by omega)
  have c5 := wcheck_ok ms en hf he (by omega)
  have c6 := rsame_ok A A B B hA hA hAn
  have c7 := rsame_ok ms ms en en hf hf hn
  rw [sameT_refl] at c6 c7
  have cl : SV.bndL 0 (eM (t, l)) := by simp [SV.bnd, SV.bndL, eM]
  by_cases hr : rightW ms en = true
  case neg =>
    have hr2 : rightW ms en = false := by simpa using hr
    rw [hr2] at c4
    rw [if_neg hr] at c5
    have hp : passE ms en to = 390 := by rw [passE, if_neg hr]
    rw [hp, if_neg (by decide), if_neg (by decide)] at c3
    refine Does.ret hκ.hP hκ.hgl c1 ⟨trivial, by simp [SV.bnd, SV.bndL, eM], ec⟩ ?_
    refine hκ.run 300 ?_
    simp (disch := omega) only [exec_succ, runR_next, runR_need, runR_call, stepS, runOp, toSR, sop, rOf, rNew, sAlloc, sAlloc0, sLoadIn, sLoad, sStoreIn, sStore, sExtract, ev, evs, svs, Env.get, Heap.get, Heap.set, takeN, cut, over, paste, aggOf, cellsS, one, ones, setO, Value.oneCell', OutOK_need, OutOK_call, undefS, undef, List.size_toArray, List.length_cons, List.length_nil, List.range, List.range.loop, List.getElem?_toArray, List.getElem?_cons_succ, List.getElem?_cons_zero, List.map_cons, List.map_nil, ↓reduceIte, Nat.reduceAdd, Nat.reduceLT, Nat.reduceEqDiff, Nat.zero_add, true_and, and_self, forall_const, reduceCtorEq, gl0, Try.sz24, Try.ag24, Try.ze24, Try.ar24]
    refine Does.ret hκ.hP hκ.hgl (c3) ⟨trivial, by simp [SV.bnd, SV.bndL], by first | (simp [SV.bnd, SV.bndL]; done) | assumption⟩ ?_
    refine hκ.run 300 ?_
    simp (disch := omega) only [exec_succ, runR_next, runR_need, runR_call, stepS, runOp, toSR, sop, rOf, rNew, sAlloc, sAlloc0, sLoadIn, sLoad, sStoreIn, sStore, sExtract, ev, evs, svs, Env.get, Heap.get, Heap.set, takeN, cut, over, paste, aggOf, cellsS, one, ones, setO, Value.oneCell', OutOK_need, OutOK_call, undefS, undef, List.size_toArray, List.length_cons, List.length_nil, List.range, List.range.loop, List.getElem?_toArray, List.getElem?_cons_succ, List.getElem?_cons_zero, List.map_cons, List.map_nil, ↓reduceIte, Nat.reduceAdd, Nat.reduceLT, Nat.reduceEqDiff, Nat.zero_add, Nat.add_one_ne_zero, true_and, and_self, forall_const, gl0, Try.sz24, Try.ag24, Try.ze24, Try.ar24, Try.sz27, Try.ag27]
    refine Does.ret hκ.hP hκ.hgl c2 ⟨trivial, by simp [SV.bnd, SV.bndL, eM], ec⟩ ?_
    refine hκ.run 300 ?_
    simp (disch := omega) only [exec_succ, runR_next, runR_need, runR_guard_ff, runR_call, stepS, runOp, guardS, toSR, sop, rOf, rNew, sAlloc, sAlloc0, sLoadIn, sLoad, sStoreIn, sStore, sInt, sBin, sExtract, ev, evs, svs, Env.get, Heap.get, Heap.set, takeN, cut, over, paste, aggOf, cellsS, one, ones, setO, Value.oneCell', OutOK_need, OutOK_call, undefS, undef, List.size_toArray, List.length_cons, List.length_nil, List.range, List.range.loop, List.getElem?_toArray, List.getElem?_cons_succ, List.getElem?_cons_zero, List.map_cons, List.map_nil, Option.bind_some, ↓reduceIte, Nat.reduceAdd, Nat.reduceLT, Nat.reduceEqDiff, Nat.zero_add, Bool.not_true, Bool.not_false, decide_true, true_and, and_self, forall_const, gl0, Try.sz24, Try.ag24, Try.ze24, Try.ar24]
    refine Does.ret hκ.hP hκ.hgl (c6) ⟨trivial, by simp [SV.bnd, SV.bndL], by first | (simp [SV.bnd, SV.bndL]; done) | assumption⟩ ?_
    refine hκ.run 300 ?_
    simp (disch := omega) only [exec_succ, runR_next, runR_guard_ff, runR_call, stepS, runOp, guardS, toSR, sop, rOf, sPick, sLoadIn, sLoad, sUn, ev, evs, Env.get, Heap.get, takeN, cut, aggOf, setO, OutOK_call, undefS, undef, List.getElem?_toArray, List.getElem?_cons_succ, List.getElem?_cons_zero, Option.bind_some, ↓reduceIte, Nat.reduceLT, Nat.reduceEqDiff, Nat.add_one_ne_zero, Bool.not_true, Bool.not_false, and_self, gl0, Try.sz24, Try.ag24]
    refine Does.ret hκ.hP hκ.hgl (c7) ⟨trivial, by simp [SV.bnd, SV.bndL], by first | (simp [SV.bnd, SV.bndL]; done) | assumption⟩ ?_
    refine hκ.run 300 ?_
    simp (disch := omega) only [exec_succ, runR_next, runR_fork_false, runR_guard_ff, runR_call, stepS, runOp, guardS, condS, toSR, sop, rOf, sPick, sLoadIn, sLoad, sUn, ev, evs, Env.get, Heap.get, takeN, cut, aggOf, setO, OutOK_call, undefS, undef, List.size_toArray, List.length_cons, List.length_nil, List.range, List.range.loop, List.getElem?_toArray, List.getElem?_cons_succ, List.getElem?_cons_zero, Option.bind_some, ↓reduceIte, Nat.reduceAdd, Nat.reduceLT, Nat.reduceEqDiff, Nat.zero_add, Bool.not_true, Bool.not_false, and_self, gl0, Try.sz24, Try.ag24]
    refine Does.ret hκ.hP hκ.hgl (c5) ⟨trivial, by simp [SV.bnd, SV.bndL], by first | (simp [SV.bnd, SV.bndL]; done) | assumption⟩ ?_
    refine hκ.run 300 ?_
    simp (disch := omega) only [exec_succ, runR_next, runR_call, stepS, runOp, toSR, sop, rOf, sLoadIn, sLoad, ev, evs, Env.get, Heap.get, takeN, cut, aggOf, setO, OutOK_call, List.size_toArray, List.length_cons, List.length_nil, List.range, List.range.loop, List.getElem?_toArray, List.getElem?_cons_succ, List.getElem?_cons_zero, ↓reduceIte, Nat.reduceAdd, Nat.reduceLT, Nat.reduceEqDiff, Nat.zero_add, Nat.add_one_ne_zero, gl0, Try.sz24, Try.ag24]
    refine Does.ret hκ.hP hκ.hgl (c4) ⟨trivial, by simp [SV.bnd, SV.bndL], by first | (simp [SV.bnd, SV.bndL]; done) | assumption⟩ ?_
    refine hκ.run 300 ?_
    simp (disch := omega) only [sBuiltin, exec_succ, runR_next, runR_fork_true, runR_guard_tt, runR_stop, stepS, runOp, guardS, condS, toSR, sop, rOf, sPick, sLoadIn, sLoad, sInt, sBin, sUn, sFieldAddr, sLen, ev, Env.get, Heap.get, takeN, cut, aggOf, setO, OutOK_stop, undefS, undef, Int.cast_ofNat_Int, List.size_toArray, List.length_cons, List.length_nil, List.range, List.range.loop, List.getElem?_toArray, List.getElem?_cons_succ, List.getElem?_cons_zero, List.map_nil, Option.bind_some, ↓reduceIte, Nat.reduceAdd, Nat.reduceLT, Nat.reduceEqDiff, Nat.zero_add, Nat.add_zero, Nat.add_one_ne_zero, Bool.not_true, Bool.not_false, decide_true, and_self, gl0, Try.underlying22, Try.sz22, Try.ag22, Try.fd24f0]
    refine hκ.ret _ _ _ _ _ _ trivial rfl ?_
    rfl
  rw [hr] at c4
  rw [if_pos hr] at c5
  by_cases q1 : to < en
  · have hp : passE ms en to = 2 := by rw [passE, if_pos hr, if_neg (by omega)]
    rw [hp, if_neg (by decide), if_neg (by decide)] at c3
    refine Does.ret hκ.hP hκ.hgl c1 ⟨trivial, by simp [SV.bnd, SV.bndL, eM], ec⟩ ?_
    refine hκ.run 300 ?_
    simp (disch := omega) only [exec_succ, runR_next, runR_need, runR_call, stepS, runOp, toSR, sop, rOf, rNew, sAlloc, sAlloc0, sLoadIn, sLoad, sStoreIn, sStore, sExtract, ev, evs, svs, Env.get, Heap.get, Heap.set, takeN, cut, over, paste, aggOf, cellsS, one, ones, setO, Value.oneCell', OutOK_need, OutOK_call, undefS, undef, List.size_toArray, List.length_cons, List.length_nil, List.range, List.range.loop, List.getElem?_toArray, List.getElem?_cons_succ, List.getElem?_cons_zero, List.map_cons, List.map_nil, ↓reduceIte, Nat.reduceAdd, Nat.reduceLT, Nat.reduceEqDiff, Nat.zero_add, true_and, and_self, forall_const, reduceCtorEq, gl0, Try.sz24, Try.ag24, Try.ze24, Try.ar24]
    refine Does.ret hκ.hP hκ.hgl (c3) ⟨trivial, by simp [SV.bnd, SV.bndL], by first | (simp [SV.bnd, SV.bndL]; done) | assumption⟩ ?_
    refine hκ.run 300 ?_
    simp (disch := omega) only [exec_succ, runR_next, runR_need, runR_call, stepS, runOp, toSR, sop, rOf, rNew, sAlloc, sAlloc0, sLoadIn, sLoad, sStoreIn, sStore, sExtract, ev, evs, svs, Env.get, Heap.get, Heap.set, takeN, cut, over, paste, aggOf, cellsS, one, ones, setO, Value.oneCell', OutOK_need, OutOK_call, undefS, undef, List.size_toArray, List.length_cons, List.length_nil, List.range, List.range.loop, List.getElem?_toArray, List.getElem?_cons_succ, List.getElem?_cons_zero, List.map_cons, List.map_nil, ↓reduceIte, Nat.reduceAdd, Nat.reduceLT, Nat.reduceEqDiff, Nat.zero_add, Nat.add_one_ne_zero, true_and, and_self, forall_const, gl0, Try.sz24, Try.ag24, Try.ze24, Try.ar24, Try.sz27, Try.ag27]
    refine Does.ret hκ.hP hκ.hgl c2 ⟨trivial, by simp [SV.bnd, SV.bndL, eM], ec⟩ ?_
    refine hκ.run 300 ?_
    simp (disch := omega) only [exec_succ, runR_next, runR_need, runR_guard_ff, runR_call, stepS, runOp, guardS, toSR, sop, rOf, rNew, sAlloc, sAlloc0, sLoadIn, sLoad, sStoreIn, sStore, sInt, sBin, sExtract, ev, evs, svs, Env.get, Heap.get, Heap.set, takeN, cut, over, paste, aggOf, cellsS, one, ones, setO, Value.oneCell', OutOK_need, OutOK_call, undefS, undef, List.size_toArray, List.length_cons, List.length_nil, List.range, List.range.loop, List.getElem?_toArray, List.getElem?_cons_succ, List.getElem?_cons_zero, List.map_cons, List.map_nil, Option.bind_some, ↓reduceIte, Nat.reduceAdd, Nat.reduceLT, Nat.reduceEqDiff, Nat.zero_add, Bool.not_true, Bool.not_false, decide_true, true_and, and_self, forall_const, gl0, Try.sz24, Try.ag24, Try.ze24, Try.ar24]
    refine Does.ret hκ.hP hκ.hgl (c6) ⟨trivial, by simp [SV.bnd, SV.bndL], by first | (simp [SV.bnd, SV.bndL]; done) | assumption⟩ ?_
    refine hκ.run 300 ?_
    simp (disch := omega) only [exec_succ, runR_next, runR_guard_ff, runR_call, stepS, runOp, guardS, toSR, sop, rOf, sPick, sLoadIn, sLoad, sUn, ev, evs, Env.get, Heap.get, takeN, cut, aggOf, setO, OutOK_call, undefS, undef, List.getElem?_toArray, List.getElem?_cons_succ, List.getElem?_cons_zero, Option.bind_some, ↓reduceIte, Nat.reduceLT, Nat.reduceEqDiff, Nat.add_one_ne_zero, Bool.not_true, Bool.not_false, and_self, gl0, Try.sz24, Try.ag24]
    refine Does.ret hκ.hP hκ.hgl (c7) ⟨trivial, by simp [SV.bnd, SV.bndL], by first | (simp [SV.bnd, SV.bndL]; done) | assumption⟩ ?_
    refine hκ.run 300 ?_
    simp (disch := omega) only [exec_succ, runR_next, runR_fork_false, runR_guard_ff, runR_call, stepS, runOp, guardS, condS, toSR, sop, rOf, sPick, sLoadIn, sLoad, sUn, ev, evs, Env.get, Heap.get, takeN, cut, aggOf, setO, OutOK_call, undefS, undef, List.size_toArray, List.length_cons, List.length_nil, List.range, List.range.loop, List.getElem?_toArray, List.getElem?_cons_succ, List.getElem?_cons_zero, Option.bind_some, ↓reduceIte, Nat.reduceAdd, Nat.reduceLT, Nat.reduceEqDiff, Nat.zero_add, Bool.not_true, Bool.not_false, and_self, gl0, Try.sz24, Try.ag24]
    refine Does.ret hκ.hP hκ.hgl (c5) ⟨trivial, by simp [SV.bnd, SV.bndL], by first | (simp [SV.bnd, SV.bndL]; done) | assumption⟩ ?_
    refine hκ.run 300 ?_
    simp (disch := omega) only [exec_succ, runR_next, runR_call, stepS, runOp, toSR, sop, rOf, sLoadIn, sLoad, ev, evs, Env.get, Heap.get, takeN, cut, aggOf, setO, OutOK_call, List.size_toArray, List.length_cons, List.length_nil, List.range, List.range.loop, List.getElem?_toArray, List.getElem?_cons_succ, List.getElem?_cons_zero, ↓reduceIte, Nat.reduceAdd, Nat.reduceLT, Nat.reduceEqDiff, Nat.zero_add, Nat.add_one_ne_zero, gl0, Try.sz24, Try.ag24]
    refine Does.ret hκ.hP hκ.hgl (c4) ⟨trivial, by simp [SV.bnd, SV.bndL], by first | (simp [SV.bnd, SV.bndL]; done) | assumption⟩ ?_
    refine hκ.run 300 ?_
    simp (disch := omega) only [sBuiltin, exec_succ, runR_next, runR_fork_true, runR_fork_false, runR_guard_tt, runR_guard_tf, runR_stop, stepS, runOp, guardS, condS, toSR, sop, rOf, sPick, sLoadIn, sLoad, sInt, sBin, sUn, sFieldAddr, sLen, ev, Env.get, Heap.get, takeN, cut, aggOf, setO, OutOK_stop, undefS, undef, Int.cast_ofNat_Int, List.size_toArray, List.length_cons, List.length_nil, List.range, List.range.loop, List.getElem?_toArray, List.getElem?_cons_succ, List.getElem?_cons_zero, List.map_nil, Option.bind_some, ↓reduceIte, Nat.reduceAdd, Nat.reduceLT, Nat.reduceEqDiff, Nat.zero_add, Nat.add_zero, Nat.add_one_ne_zero, Bool.not_true, Bool.not_false, decide_true, and_self, reduceCtorEq, gl0, Try.sz2, Try.ag2, Try.underlying22, Try.sz22, Try.ag22, Try.fd24f0, Try.fd24f1, q1]
    refine hκ.ret _ _ _ _ _ _ trivial rfl ?_
    rfl
  by_cases q2 : (1125899906842624 : Int) < to
  · have hp : passE ms en to = 2 := by rw [passE, if_pos hr, if_neg (by omega)]
    rw [hp, if_neg (by decide), if_neg (by decide)] at c3
    refine Does.ret hκ.hP hκ.hgl c1 ⟨trivial, by simp [SV.bnd, SV.bndL, eM], ec⟩ ?_
    refine hκ.run 300 ?_
    simp (disch := omega) only [exec_succ, runR_next, runR_need, runR_call, stepS, runOp, toSR, sop, rOf, rNew, sAlloc, sAlloc0, sLoadIn, sLoad, sStoreIn, sStore, sExtract, ev, evs, svs, Env.get, Heap.get, Heap.set, takeN, cut, over, paste, aggOf, cellsS, one, ones, setO, Value.oneCell', OutOK_need, OutOK_call, undefS, undef, List.size_toArray, List.length_cons, List.length_nil, List.range, List.range.loop, List.getElem?_toArray, List.getElem?_cons_succ, List.getElem?_cons_zero, List.map_cons, List.map_nil, ↓reduceIte, Nat.reduceAdd, Nat.reduceLT, Nat.reduceEqDiff, Nat.zero_add, true_and, and_self, forall_const, reduceCtorEq, gl0, Try.sz24, Try.ag24, Try.ze24, Try.ar24]
    refine Does.ret hκ.hP hκ.hgl (c3) ⟨trivial, by simp [SV.bnd, SV.bndL], by first | (simp [SV.bnd, SV.bndL]; done) | assumption⟩ ?_
    refine hκ.run 300 ?_
    simp (disch := omega) only [exec_succ, runR_next, runR_need, runR_call, stepS, runOp, toSR, sop, rOf, rNew, sAlloc, sAlloc0, sLoadIn, sLoad, sStoreIn, sStore, sExtract, ev, evs, svs, Env.get, Heap.get, Heap.set, takeN, cut, over, paste, aggOf, cellsS, one, ones, setO, Value.oneCell', OutOK_need, OutOK_call, undefS, undef, List.size_toArray, List.length_cons, List.length_nil, List.range, List.range.loop, List.getElem?_toArray, List.getElem?_cons_succ, List.getElem?_cons_zero, List.map_cons, List.map_nil, ↓reduceIte, Nat.reduceAdd, Nat.reduceLT, Nat.reduceEqDiff, Nat.zero_add, Nat.add_one_ne_zero, true_and, and_self, forall_const, gl0, Try.sz24, Try.ag24, Try.ze24, Try.ar24, Try.sz27, Try.ag27]
    refine Does.ret hκ.hP hκ.hgl c2 ⟨trivial, by simp [SV.bnd, SV.bndL, eM], ec⟩ ?_
    refine hκ.run 300 ?_
    simp (disch := omega) only [exec_succ, runR_next, runR_need, runR_guard_ff, runR_call, stepS, runOp, guardS, toSR, sop, rOf, rNew, sAlloc, sAlloc0, sLoadIn, sLoad, sStoreIn, sStore, sInt, sBin, sExtract, ev, evs, svs, Env.get, Heap.get, Heap.set, takeN, cut, over, paste, aggOf, cellsS, one, ones, setO, Value.oneCell', OutOK_need, OutOK_call, undefS, undef, List.size_toArray, List.length_cons, List.length_nil, List.range, List.range.loop, List.getElem?_toArray, List.getElem?_cons_succ, List.getElem?_cons_zero, List.map_cons, List.map_nil, Option.bind_some, ↓reduceIte, Nat.reduceAdd, Nat.reduceLT, Nat.reduceEqDiff, Nat.zero_add, Bool.not_true, Bool.not_false, decide_true, true_and, and_self, forall_const, gl0, Try.sz24, Try.ag24, Try.ze24, Try.ar24]
    refine Does.ret hκ.hP hκ.hgl (c6) ⟨trivial, by simp [SV.bnd, SV.bndL], by first | (simp [SV.bnd, SV.bndL]; done) | assumption⟩ ?_
    refine hκ.run 300 ?_
    simp (disch := omega) only [exec_succ, runR_next, runR_guard_ff, runR_call, stepS, runOp, guardS, toSR, sop, rOf, sPick, sLoadIn, sLoad, sUn, ev, evs, Env.get, Heap.get, takeN, cut, aggOf, setO, OutOK_call, undefS, undef, List.getElem?_toArray, List.getElem?_cons_succ, List.getElem?_cons_zero, Option.bind_some, ↓reduceIte, Nat.reduceLT, Nat.reduceEqDiff, Nat.add_one_ne_zero, Bool.not_true, Bool.not_false, and_self, gl0, Try.sz24, Try.ag24]
    refine Does.ret hκ.hP hκ.hgl (c7) ⟨trivial, by simp [SV.bnd, SV.bndL], by first | (simp [SV.bnd, SV.bndL]; done) | assumption⟩ ?_
    refine hκ.run 300 ?_
    simp (disch := omega) only [exec_succ, runR_next, runR_fork_false, runR_guard_ff, runR_call, stepS, runOp, guardS, condS, toSR, sop, rOf, sPick, sLoadIn, sLoad, sUn, ev, evs, Env.get, Heap.get, takeN, cut, aggOf, setO, OutOK_call, undefS, undef, List.size_toArray, List.length_cons, List.length_nil, List.range, List.range.loop, List.getElem?_toArray, List.getElem?_cons_succ, List.getElem?_cons_zero, Option.bind_some, ↓reduceIte, Nat.reduceAdd, Nat.reduceLT, Nat.reduceEqDiff, Nat.zero_add, Bool.not_true, Bool.not_false, and_self, gl0, Try.sz24, Try.ag24]
    refine Does.ret hκ.hP hκ.hgl (c5) ⟨trivial, by simp [SV.bnd, SV.bndL], by first | (simp [SV.bnd, SV.bndL]; done) | assumption⟩ ?_
    refine hκ.run 300 ?_
    simp (disch := omega) only [exec_succ, runR_next, runR_call, stepS, runOp, toSR, sop, rOf, sLoadIn, sLoad, ev, evs, Env.get, Heap.get, takeN, cut, aggOf, setO, OutOK_call, List.size_toArray, List.length_cons, List.length_nil, List.range, List.range.loop, List.getElem?_toArray, List.getElem?_cons_succ, List.getElem?_cons_zero, ↓reduceIte, Nat.reduceAdd, Nat.reduceLT, Nat.reduceEqDiff, Nat.zero_add, Nat.add_one_ne_zero, gl0, Try.sz24, Try.ag24]
    refine Does.ret hκ.hP hκ.hgl (c4) ⟨trivial, by simp [SV.bnd, SV.bndL], by first | (simp [SV.bnd, SV.bndL]; done) | assumption⟩ ?_
    refine hκ.run 300 ?_
    simp (disch := omega) only [sBuiltin, exec_succ, runR_next, runR_fork_true, runR_fork_false, runR_guard_tt, runR_guard_ff, runR_stop, stepS, runOp, guardS, condS, toSR, sop, rOf, sPick, sLoadIn, sLoad, sInt, sBin, sUn, sFieldAddr, sLen, ev, Env.get, Heap.get, takeN, cut, aggOf, setO, OutOK_stop, undefS, undef, Int.cast_ofNat_Int, List.size_toArray, List.length_cons, List.length_nil, List.range, List.range.loop, List.getElem?_toArray, List.getElem?_cons_succ, List.getElem?_cons_zero, List.map_nil, Option.bind_some, ↓reduceIte, Nat.reduceAdd, Nat.reduceLT, Nat.reduceEqDiff, Nat.zero_add, Nat.add_zero, Nat.add_one_ne_zero, Bool.not_true, Bool.not_false, decide_true, decide_false, and_self, reduceCtorEq, gl0, Try.sz2, Try.ag2, Try.underlying22, Try.sz22, Try.ag22, Try.fd24f0, Try.fd24f1, q1, q2]
    refine hκ.ret _ _ _ _ _ _ trivial rfl ?_
    rfl
  have hp : passE ms en to = 0 := by rw [passE, if_pos hr, if_pos (by omega)]
  rw [hp, if_pos rfl, if_pos rfl] at c3
  have c9 := rsame_ok ms ms to to hf hf hn
  rw [sameT_refl] at c9
  refine Does.ret hκ.hP hκ.hgl c1 ⟨trivial, by simp [SV.bnd, SV.bndL, eM], ec⟩ ?_
  refine hκ.run 300 ?_
  simp (disch := omega) only [exec_succ, runR_next, runR_need, runR_call, stepS, runOp, toSR, sop, rOf, rNew, sAlloc, sAlloc0, sLoadIn, sLoad, sStoreIn, sStore, sExtract, ev, evs, svs, Env.get, Heap.get, Heap.set, takeN, cut, over, paste, aggOf, cellsS, one, ones, setO, Value.oneCell', OutOK_need, OutOK_call, undefS, undef, List.size_toArray, List.length_cons, List.length_nil, List.range, List.range.loop, List.getElem?_toArray, List.getElem?_cons_succ, List.getElem?_cons_zero, List.map_cons, List.map_nil, ↓reduceIte, Nat.reduceAdd, Nat.reduceLT, Nat.reduceEqDiff, Nat.zero_add, true_and, and_self, forall_const, reduceCtorEq, gl0, Try.sz24, Try.ag24, Try.ze24, Try.ar24]
  refine Does.ret hκ.hP hκ.hgl (c3) ⟨trivial, by simp [SV.bnd, SV.bndL], by first | (simp [SV.bnd, SV.bndL]; done) | assumption⟩ ?_
  refine hκ.run 300 ?_
  simp (disch := omega) only [exec_succ, runR_next, runR_need, runR_call, stepS, runOp, toSR, sop, rOf, rNew, sAlloc, sAlloc0, sLoadIn, sLoad, sStoreIn, sStore, sExtract, ev, evs, svs, Env.get, Heap.get, Heap.set, takeN, cut, over, paste, aggOf, cellsS, one, ones, setO, Value.oneCell', OutOK_need, OutOK_call, undefS, undef, List.size_toArray, List.length_cons, List.length_nil, List.range, List.range.loop, List.getElem?_toArray, List.getElem?_cons_succ, List.getElem?_cons_zero, List.map_cons, List.map_nil, ↓reduceIte, Nat.reduceAdd, Nat.reduceLT, Nat.reduceEqDiff, Nat.zero_add, Nat.add_one_ne_zero, true_and, and_self, forall_const, gl0, Try.sz24, Try.ag24, Try.ze24, Try.ar24, Try.sz27, Try.ag27]
  refine Does.ret hκ.hP hκ.hgl c2 ⟨trivial, by simp [SV.bnd, SV.bndL, eM], ec⟩ ?_
  refine hκ.run 300 ?_
  simp (disch := omega) only [exec_succ, runR_next, runR_need, runR_guard_ff, runR_call, stepS, runOp, guardS, toSR, sop, rOf, rNew, sAlloc, sAlloc0, sLoadIn, sLoad, sStoreIn, sStore, sInt, sBin, sExtract, ev, evs, svs, Env.get, Heap.get, Heap.set, takeN, cut, over, paste, aggOf, cellsS, one, ones, setO, Value.oneCell', OutOK_need, OutOK_call, undefS, undef, List.size_toArray, List.length_cons, List.length_nil, List.range, List.range.loop, List.getElem?_toArray, List.getElem?_cons_succ, List.getElem?_cons_zero, List.map_cons, List.map_nil, Option.bind_some, ↓reduceIte, Nat.reduceAdd, Nat.reduceLT, Nat.reduceEqDiff, Nat.zero_add, Bool.not_true, Bool.not_false, decide_true, true_and, and_self, forall_const, gl0, Try.sz24, Try.ag24, Try.ze24, Try.ar24]
  refine Does.ret hκ.hP hκ.hgl (c6) ⟨trivial, by simp [SV.bnd, SV.bndL], by first | (simp [SV.bnd, SV.bndL]; done) | assumption⟩ ?_
  refine hκ.run 300 ?_
  simp (disch := omega) only [exec_succ, runR_next, runR_guard_ff, runR_call, stepS, runOp, guardS, toSR, sop, rOf, sPick, sLoadIn, sLoad, sUn, ev, evs, Env.get, Heap.get, takeN, cut, aggOf, setO, OutOK_call, undefS, undef, List.getElem?_toArray, List.getElem?_cons_succ, List.getElem?_cons_zero, Option.bind_some, ↓reduceIte, Nat.reduceLT, Nat.reduceEqDiff, Nat.add_one_ne_zero, Bool.not_true, Bool.not_false, and_self, gl0, Try.sz24, Try.ag24]
  refine Does.ret hκ.hP hκ.hgl (c7) ⟨trivial, by simp [SV.bnd, SV.bndL], by first | (simp [SV.bnd, SV.bndL]; done) | assumption⟩ ?_
  refine hκ.run 300 ?_
  simp (disch := omega) only [exec_succ, runR_next, runR_fork_false, runR_guard_ff, runR_call, stepS, runOp, guardS, condS, toSR, sop, rOf, sPick, sLoadIn, sLoad, sUn, ev, evs, Env.get, Heap.get, takeN, cut, aggOf, setO, OutOK_call, undefS, undef, List.size_toArray, List.length_cons, List.length_nil, List.range, List.range.loop, List.getElem?_toArray, List.getElem?_cons_succ, List.getElem?_cons_zero, Option.bind_some, ↓reduceIte, Nat.reduceAdd, Nat.reduceLT, Nat.reduceEqDiff, Nat.zero_add, Bool.not_true, Bool.not_false, and_self, gl0, Try.sz24, Try.ag24]
  refine Does.ret hκ.hP hκ.hgl (c5) ⟨trivial, by simp [SV.bnd, SV.bndL], by first | (simp [SV.bnd, SV.bndL]; done) | assumption⟩ ?_
  refine hκ.run 300 ?_
  simp (disch := omega) only [exec_succ, runR_next, runR_call, stepS, runOp, toSR, sop, rOf, sLoadIn, sLoad, ev, evs, Env.get, Heap.get, takeN, cut, aggOf, setO, OutOK_call, List.size_toArray, List.length_cons, List.length_nil, List.range, List.range.loop, List.getElem?_toArray, List.getElem?_cons_succ, List.getElem?_cons_zero, ↓reduceIte, Nat.reduceAdd, Nat.reduceLT, Nat.reduceEqDiff, Nat.zero_add, Nat.add_one_ne_zero, gl0, Try.sz24, Try.ag24]
  refine Does.ret hκ.hP hκ.hgl (c4) ⟨trivial, by simp [SV.bnd, SV.bndL], by first | (simp [SV.bnd, SV.bndL]; done) | assumption⟩ ?_
  refine hκ.run 300 ?_
  simp (disch := omega) only [exec_succ, runR_next, runR_fork_false, runR_guard_tt, runR_guard_ff, runR_call, stepS, runOp, guardS, condS, toSR, sop, rOf, sPick, isArr, sLoadIn, sLoad, sInt, sBin, sUn, sFieldAddr, fillS, evps, sBuild, ev, evs, svs, Env.get, Heap.get, takeN, cut, over, paste, aggOf, cellsS, setO, Value.cells, OutOK_call, undefS, undef, List.size_toArray, List.length_cons, List.length_nil, List.range, List.range.loop, List.getElem?_toArray, List.getElem?_cons_succ, List.getElem?_cons_zero, List.map_cons, List.map_nil, Option.bind_some, List.toList_toArray, ↓reduceIte, Nat.reduceAdd, Nat.reduceLT, Nat.reduceEqDiff, Nat.zero_add, Nat.add_zero, Nat.add_one_ne_zero, Bool.not_true, Bool.not_false, decide_true, decide_false, and_self, reduceCtorEq, gl0, Try.sz2, Try.ag2, Try.sz22, Try.ag22, Try.sz24, Try.ag24, Try.ze24, Try.pl24, Try.fd24f0, Try.fd24f1, q1, q2]
  refine Does.ret hκ.hP hκ.hgl (c9) ⟨trivial, by simp [SV.bnd, SV.bndL], by first | (simp [SV.bnd, SV.bndL]; done) | assumption⟩ ?_
  refine hκ.run 300 ?_
  simp (disch := omega) only [exec_succ, runR_next, runR_stop, stepS, runOp, toSR, sop, rOf, sPick, ev, Env.get, setO, OutOK_stop, List.getElem?_toArray, List.getElem?_cons_succ, List.getElem?_cons_zero, ↓reduceIte, Nat.reduceLT, Nat.reduceEqDiff, gl0]
  refine hκ.ret _ _ _ _ _ _ trivial rfl ?_
  rfl
end Go.Proofs.Ytbjhphjpdeblnaa

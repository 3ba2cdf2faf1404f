/- The layer does something. No condition. -/
import Derived.Test.YtfhiaddbpacgeaaOg
namespace Go.Proofs.Ytfhiaddbpacgeaa
open Go Go.Sy
set_option maxRecDepth 100000
set_option linter.unusedSimpArgs false
set_option linter.unusedVariables false

theorem split_rd (xs : List Nat) (f : Int) (s : Nat) (hx : u32s xs) (hs : s < 4294967296) (hn : xs.length < 2 ^ 44) : Con Try.prog gl0 (fnv 29) [Po xs, I f, S s] 0 []
    (Ret (if splitE xs f s = 0 then .tup [Po (splitX xs f s), I xs.length, I 0] else .tup [noP, I 0, I (splitE xs f s)])) := by
  have h := split_ok xs f s hx hs hn
  by_cases he : splitE xs f s = 0
  · rw [RetX.ok he] at h
    rw [if_pos he]
    exact Con.toRdP (pre := fun r => .tup [.agg [r], I xs.length, I 0]) (Pre.aggE2 .agg1 _ _) (by simp [SV.bnd, SV.bndL]) h
  · rw [RetX.no he] at h
    rw [if_neg he]
    exact h
theorem move_rd (xs : List Nat) (c to : Int) (hx : u32s xs) (hc : i64 c) (hn : xs.length < 2 ^ 44) : Con Try.prog gl0 (fnv 31) [Po xs, I c, I to] 0 []
    (Ret (if moveE xs c to = 0 then .tup [Po (moveX xs c to), I (moveN xs c), I 0] else .tup [noP, I 0, I (moveE xs c to)])) := by
  have h := move_ok xs c to hx hc hn
  by_cases he : moveE xs c to = 0
  · rw [RetX.ok he] at h
    rw [if_pos he]
    exact Con.toRdP (pre := fun r => .tup [.agg [r], I (moveN xs c), I 0]) (Pre.aggE2 .agg1 _ _) (by simp [SV.bnd, SV.bndL]) h
  · rw [RetX.no he] at h
    rw [if_neg he]
    exact h
theorem wakes_ok : Con Try.prog gl0 (fnv 9) [] 0 [] (Ret (Bo true)) := by
  have c1 : Con Try.prog gl0 (fnv 10) [I 4] 0 [] (Ret (.tup [Po [15], I 0])) := new_ok 4
  have c2 := split_rd [15] 0 12 (by decide) (by decide) (by decide)
  have c3 := move_rd [3, 12] 2 0 (by decide) (by decide) (by decide)
  have c4 := move_rd [7, 8] 3 0 (by decide) (by decide) (by decide)
  rw [if_pos (by decide), show splitX [15] 0 12 = [3, 12] by decide] at c2
  rw [if_pos (by decide), show moveX [3, 12] 2 0 = [7, 8] by decide, show moveN [3, 12] 2 = 1 by decide] at c3
  rw [if_neg (by decide), show moveE [7, 8] 3 0 = 181 by decide] at c4
  refine Con.of Try.ok9 (nt := 69) (res := [.tmp 0]) Try.mixed Try.func9 rfl rfl rfl rfl fun κ xc hκ => hκ.run 300 ?_
  simp (disch := omega) only [exec_succ, runR_next, runR_call, stepS, runOp, toSR, sop, rOf, ev, evs, envOf, OutOK_call, List.size_toArray, List.length_cons, List.length_nil, List.range, List.range.loop, List.getElem?_toArray, List.getElem?_cons_zero, ↓reduceIte, Nat.reduceAdd, Nat.reduceLT, Nat.zero_add, gl0]
  refine Does.ret hκ.hP hκ.hgl (c1) ⟨trivial, by simp [SV.bnd, SV.bndL], by first | (simp [SV.bnd, SV.bndL]; done) | assumption⟩ ?_
  refine hκ.run 300 ?_
  simp (disch := omega) only [exec_succ, runR_next, runR_need, runR_call, stepS, runOp, toSR, sop, rOf, rNew, sAlloc, sAlloc0, sLoadIn, sLoad, sStoreIn, sStore, sExtract, ev, evs, svs, Env.get, Heap.get, Heap.set, takeN, cut, over, paste, aggOf, cellsS, one, ones, setO, OutOK_need, OutOK_call, undefS, undef, List.size_toArray, List.length_cons, List.length_nil, List.range, List.range.loop, List.getElem?_toArray, List.getElem?_cons_succ, List.getElem?_cons_zero, List.map_cons, List.map_nil, ↓reduceIte, Nat.reduceAdd, Nat.reduceLT, Nat.reduceEqDiff, Nat.zero_add, true_and, and_self, forall_const, gl0, Try.sz26, Try.ag26, Try.ze26, Try.ar26, eS]
  refine Does.ret hκ.hP hκ.hgl (c2) ⟨trivial, by simp [SV.bnd, SV.bndL], by first | (simp [SV.bnd, SV.bndL]; done) | assumption⟩ ?_
  refine hκ.run 300 ?_
  simp (disch := omega) only [exec_succ, runR_next, runR_need, runR_call, stepS, runOp, toSR, sop, rOf, rNew, sAlloc, sAlloc0, sLoadIn, sLoad, sStoreIn, sStore, sExtract, ev, evs, svs, Env.get, Heap.get, Heap.set, takeN, cut, over, paste, aggOf, cellsS, one, ones, setO, OutOK_need, OutOK_call, undefS, undef, Int.cast_ofNat_Int, List.size_toArray, List.length_cons, List.length_nil, List.range, List.range.loop, List.getElem?_toArray, List.getElem?_cons_succ, List.getElem?_cons_zero, List.map_cons, List.map_nil, ↓reduceIte, Nat.reduceAdd, Nat.reduceLT, Nat.reduceEqDiff, Nat.zero_add, true_and, and_self, forall_const, gl0, Try.sz26, Try.ag26, Try.ze26, Try.ar26, eS]
  refine Does.ret hκ.hP hκ.hgl (c3) ⟨trivial, by simp [SV.bnd, SV.bndL], by first | (simp [SV.bnd, SV.bndL]; done) | assumption⟩ ?_
  refine hκ.run 300 ?_
  simp (disch := omega) only [exec_succ, runR_next, runR_need, runR_call, stepS, runOp, toSR, sop, rOf, rNew, sAlloc, sAlloc0, sLoadIn, sLoad, sStoreIn, sStore, sExtract, ev, evs, svs, Env.get, Heap.get, Heap.set, takeN, cut, over, paste, aggOf, cellsS, one, ones, setO, OutOK_need, OutOK_call, undefS, undef, Int.cast_ofNat_Int, List.size_toArray, List.length_cons, List.length_nil, List.range, List.range.loop, List.getElem?_toArray, List.getElem?_cons_succ, List.getElem?_cons_zero, List.map_cons, List.map_nil, ↓reduceIte, Nat.reduceAdd, Nat.reduceLT, Nat.reduceEqDiff, Nat.zero_add, true_and, and_self, forall_const, gl0, Try.sz26, Try.ag26, Try.ze26, Try.ar26, eS]
  refine Does.ret hκ.hP hκ.hgl (c4) ⟨trivial, by simp [SV.bnd, SV.bndL], by first | (simp [SV.bnd, SV.bndL]; done) | assumption⟩ ?_
  refine hκ.run 300 ?_
  simp (disch := omega) only [sBuiltin, exec_succ, runR_next, runR_need, runR_guard_tt, runR_stop, stepS, runOp, guardS, toSR, sop, rOf, rNew, sPick, sAlloc, sAlloc0, sLoadIn, sLoad, sStoreIn, sStore, sInt, sBin, sFieldAddr, sIndexAddr, sExtract, sLen, elemT, obind, ev, svs, Env.get, Heap.get, Heap.set, takeN, cut, over, paste, aggOf, cellsS, one, ones, setO, Value.oneCell', OutOK_need, OutOK_stop, undefS, undef, Int.cast_ofNat_Int, List.size_toArray, List.length_cons, List.length_nil, List.range, List.range.loop, List.getElem?_toArray, List.getElem?_cons_succ, List.getElem?_cons_zero, List.getD_cons_zero, List.map_cons, List.map_nil, Option.bind_some, ↓reduceIte, Nat.reduceAdd, Nat.reduceLT, Nat.reduceEqDiff, Nat.zero_add, Nat.add_zero, Nat.add_one_ne_zero, Int.reduceToNat, Int.reduceLT, Int.reduceLE, Bool.not_true, decide_true, true_and, and_self, forall_const, gl0, Try.underlying24, Try.sz24, Try.ag24, Try.sz26, Try.ze26, Try.ar26, Try.fd26f0, Try.sz31, Try.ag31]
  refine hκ.ret _ _ _ _ _ _ trivial rfl ?_
  exact .ret trivial
end Go.Proofs.Ytfhiaddbpacgeaa

/- Walks of pool: Of, pool, Set, Cpus, New. No condition. -/
import Derived.Test.YtfhiaddbpacgeaaOb
import Derived.Test.YtfhiaddbpacgeaaR4
namespace Go.Proofs.Ytfhiaddbpacgeaa
open Go Go.Sy
set_option maxRecDepth 100000
set_option linter.unusedSimpArgs false
set_option linter.unusedVariables false

abbrev i64 (n : Int) : Prop := -9223372036854775808 ≤ n ∧ n ≤ 9223372036854775807
theorem of_ok (xs : List Nat) (c : Int) (hx : u32s xs) (hc : i64 c) (hn : xs.length < 2 ^ 46) : Con Try.prog gl0 (fnv 20) [Po xs, I c] 0 [] (Ret (.tup [I (ofV xs c).1, Bo (ofV xs c).2])) := by
  refine Con.of Try.ok20 (nt := 19) (res := [.tmp 4, .tmp 5]) Try.mixed Try.func20 rfl rfl rfl rfl fun κ xc hκ => hκ.run 300 ?_
  simp (disch := omega) only [exec_succ, runR_next, runR_call, stepS, runOp, toSR, sop, rOf, rNew, sBox, isArr, sLoadIn, sLoad, sMakeFunc, sFieldAddr, ev, evs, svs, Env.get, Heap.get, takeN, cut, aggOf, cellsS, envOf, Value.cells, OutOK_call, Bool.false_eq_true, List.size_toArray, List.length_cons, List.length_nil, List.range, List.range.loop, List.getElem?_toArray, List.getElem?_cons_succ, List.getElem?_cons_zero, List.map_cons, List.map_nil, List.toList_toArray, ↓reduceIte, Nat.reduceAdd, Nat.reduceLT, Nat.reduceEqDiff, Nat.zero_add, Nat.add_zero, Nat.add_one_ne_zero, reduceCtorEq, gl0, Try.sz24, Try.ag24, Try.fd26f0]
  refine Does.inl hκ.hP hκ.hgl Try.ok40 (nt := 19) (res := [.tmp 4]) Try.mixed Try.func40 rfl rfl rfl rfl fun κ_h1 x_h1 h1 => h1.run 300 ?_
  simp (disch := omega) only [sBuiltin, exec_succ, runR_next, runR_stop, stepS, runOp, toSR, sop, rOf, sLen, ev, Env.get, envOf, OutOK_stop, List.size_toArray, List.length_cons, List.length_nil, List.length_map, List.range, List.range.loop, List.getElem?_toArray, List.getElem?_cons_succ, List.getElem?_cons_zero, ↓reduceIte, Nat.reduceAdd, Nat.reduceLT, Nat.zero_add, Nat.add_one_ne_zero, Int.reduceNeg, gl0, Try.underlying24]
  refine Sat.less (Sat.loop (γ := Nat) (fun k => ([(8, I k), (7, I xs.length), (0, .rd 1 (xs.map eS)), (1, .fn (.func 41) [] [.ptr 1 0 0 0])], [(0, .own [.rd 1 (xs.map eS)] 26), (1, .own [I c] 3)], 2)) (fun k => xs.length - k) (fun k => k ≤ xs.length ∧ ∀ j, j < k → hasB (xs.getD j 0) c = false) ?round 0 ⟨Nat.zero_le _, fun j hj => by omega⟩) (by repeat' (first | exact EnvSub.nil _ | exact HeapSub.nil _ | refine EnvSub.cons rfl ?_ | refine HeapSub.cons rfl ?_ | (refine EnvSub.cons (by simp [Env.get]; done) ?_) | (refine HeapSub.cons (by simp [Heap.get]; done) ?_))) (by repeat' (first | exact EnvSub.nil _ | exact HeapSub.nil _ | refine EnvSub.cons rfl ?_ | refine HeapSub.cons rfl ?_ | (refine EnvSub.cons (by simp [Env.get]; done) ?_) | (refine HeapSub.cons (by simp [Heap.get]; done) ?_)))
  case round =>
    rintro k ⟨hk, hn2⟩ ih
    dsimp only at hk hn2 ih ⊢
    refine h1.run 300 ?_
    simp (disch := omega) only [exec_succ, runR_next, stepS, runOp, condS, toSR, sop, sInt, sBin, ev, Env.get, List.size_toArray, List.length_cons, List.length_nil, List.range, List.range.loop, List.getElem?_toArray, List.getElem?_cons_zero, ↓reduceIte, Nat.reduceLT, Nat.reduceEqDiff, Nat.zero_add, Int.reduceNeg, gl0]
    refine OutOK_fork (fun h => ?_) (fun h => ?_) <;> try simp only [Bool.not_true, Bool.not_false, decide_eq_true_eq, decide_eq_false_iff_not, Bool.not_eq_true', Bool.not_eq_false', Bool.and_eq_true, Bool.or_eq_false_iff, Bool.or_eq_true, Bool.and_eq_false_iff] at h
    · have hs := hx _ (getD_mem (show k < xs.length by omega))
      simp (disch := omega) only [exec_succ, runR_next, runR_need, runR_call, stepS, runOp, toSR, sop, rOf, sLoad, sIndexAddr, elemT, obind, ev, evs, Env.get, takeN, cut, aggOf, OutOK_need, OutOK_call, List.size_toArray, List.length_cons, List.length_nil, List.length_map, List.range, List.range.loop, List.getElem?_toArray, List.getElem?_cons_succ, List.getElem?_cons_zero, ↓reduceIte, Nat.reduceAdd, Nat.reduceLT, Nat.reduceEqDiff, Nat.zero_add, Nat.add_one_ne_zero, Int.reduceNeg, Int.toNat_natCast, reduceCtorEq, getD_map, Try.underlying24, Try.sz31, Try.ag31, eS]
      (repeat (refine ⟨by first | omega | (refine ⟨?_, ?_⟩ <;> omega) | trivial | (simp; done) | decide +kernel, fun _ => ?_⟩))
      refine Does.inlc h1.hP h1.hgl Try.ok41 (nt := 7) (res := [.tmp 3]) Try.mixed Try.func41 rfl rfl rfl rfl fun κ_h2 x_h2 h2 => h2.run 300 ?_
      simp (disch := omega) only [exec_succ, runR_next, runR_call, stepS, runOp, toSR, sop, rOf, sLoadIn, sLoad, ev, evs, Env.get, Heap.get, takeN, cut, aggOf, envOf, OutOK_call, List.size_toArray, List.length_cons, List.length_nil, List.range, List.range.loop, List.getElem?_toArray, List.getElem?_cons_succ, List.getElem?_cons_zero, List.cons_append, List.nil_append, ↓reduceIte, Nat.reduceAdd, Nat.reduceLT, Nat.reduceEqDiff, Nat.zero_add, Nat.add_one_ne_zero, reduceCtorEq, gl0, Try.sz3, Try.ag3]
      refine Does.ret h2.hP h2.hgl (has_ok (xs.getD k default) c hs hc) ⟨trivial, by simp [SV.bnd, SV.bndL], by first | (simp [SV.bnd, SV.bndL]; done) | assumption⟩ ?_
      cases hb : hasB (xs.getD k default) c
      · refine h2.run 300 ?_
        simp (disch := omega) only [exec_succ, runR_next, runR_stop, stepS, runOp, toSR, sop, rOf, ev, Env.get, setO, OutOK_stop, List.getElem?_toArray, List.getElem?_cons_succ, List.getElem?_cons_zero, ↓reduceIte, Nat.reduceLT, gl0]
        refine h2.ret _ _ _ _ _ _ trivial rfl ?_
        refine h1.run 300 ?_
        simp (disch := omega) only [exec_succ, runR_next, runR_fork_false, runR_stop, stepS, runOp, condS, toSR, sop, rOf, sInt, sBin, ev, Env.get, setO, OutOK_stop, dropL, resV, List.size_toArray, List.length_cons, List.length_nil, List.range, List.range.loop, List.getElem?_toArray, List.getElem?_cons_succ, List.getElem?_cons_zero, ↓reduceIte, Nat.reduceAdd, Nat.reduceLT, Nat.reduceEqDiff, Nat.zero_add, Int.reduceNeg, wrap_i64, gl0]
        refine (ih (k + 1) ⟨by omega, fun j hj => ?_⟩ (by omega)).less (by repeat' (first | exact EnvSub.nil _ | exact HeapSub.nil _ | refine EnvSub.cons rfl ?_ | refine HeapSub.cons rfl ?_ | (refine EnvSub.cons (by simp [Env.get]; done) ?_) | (refine HeapSub.cons (by simp [Heap.get]; done) ?_))) (by repeat' (first | exact EnvSub.nil _ | exact HeapSub.nil _ | refine EnvSub.cons rfl ?_ | refine HeapSub.cons rfl ?_ | (refine EnvSub.cons (by simp [Env.get]; done) ?_) | (refine HeapSub.cons (by simp [Heap.get]; done) ?_)))
        by_cases e : j = k
        · rw [e]; exact hb
        · exact hn2 j (by omega)
      · have e1 : ((k : Int) < 0) = False := by simp only [eq_iff_iff, iff_false]; omega
        have ho := ofI_some (show k < xs.length by omega) hb hn2
        refine h2.run 300 ?_
        simp (disch := omega) only [exec_succ, runR_next, runR_stop, stepS, runOp, toSR, sop, rOf, ev, Env.get, setO, OutOK_stop, List.getElem?_toArray, List.getElem?_cons_succ, List.getElem?_cons_zero, ↓reduceIte, Nat.reduceLT, gl0]
        refine h2.ret _ _ _ _ _ _ trivial rfl ?_
        refine h1.run 300 ?_
        simp (disch := omega) only [exec_succ, runR_next, runR_fork_true, runR_stop, stepS, runOp, condS, toSR, sop, rOf, ev, Env.get, setO, OutOK_stop, dropL, resV, List.size_toArray, List.length_cons, List.length_nil, List.range, List.range.loop, List.getElem?_toArray, List.getElem?_cons_succ, List.getElem?_cons_zero, ↓reduceIte, Nat.reduceAdd, Nat.reduceLT, Nat.reduceEqDiff, Nat.zero_add, Int.reduceNeg, gl0]
        refine h1.ret _ _ _ _ _ _ trivial rfl ?_
        refine hκ.run 300 ?_
        simp (disch := omega) only [exec_succ, runR_next, runR_call, stepS, runOp, toSR, sop, rOf, sLoadIn, sLoad, ev, evs, Env.get, Heap.get, takeN, cut, aggOf, setO, OutOK_call, dropL, resV, List.size_toArray, List.length_cons, List.length_nil, List.range, List.range.loop, List.getElem?_toArray, List.getElem?_cons_succ, List.getElem?_cons_zero, ↓reduceIte, Nat.reduceAdd, Nat.reduceLT, Nat.reduceEqDiff, Nat.zero_add, gl0, Try.sz26, Try.ag26]
        refine Does.ret hκ.hP hκ.hgl (pchk_ok xs hx hn) ⟨trivial, by simp [SV.bnd, SV.bndL], by first | (simp [SV.bnd, SV.bndL]; done) | assumption⟩ ?_
        by_cases hk : okP xs = true
        · rw [if_pos hk]
          refine hκ.run 300 ?_
          simp (disch := omega) only [exec_succ, runR_next, runR_fork_false, runR_guard_ff, runR_stop, stepS, runOp, guardS, condS, toSR, sop, rOf, sPick, sInt, sBin, ev, Env.get, setO, OutOK_stop, undefS, undef, List.size_toArray, List.length_cons, List.length_nil, List.range, List.range.loop, List.getElem?_toArray, List.getElem?_cons_succ, List.getElem?_cons_zero, Option.bind_some, ↓reduceIte, Nat.reduceAdd, Nat.reduceLT, Nat.reduceEqDiff, Nat.zero_add, Bool.not_true, Bool.not_false, decide_true, decide_false, and_self, gl0, e1]
          refine hκ.ret _ _ _ _ _ _ trivial rfl ?_
          simp only [ofV, hk, if_true, ho]
          exact .ret (by simp [SV.bnd, SV.bndL])
        · rw [if_neg hk]
          refine hκ.run 300 ?_
          simp (disch := omega) only [exec_succ, runR_next, runR_fork_true, runR_guard_tf, runR_stop, stepS, runOp, guardS, condS, toSR, sop, rOf, sPick, sInt, sBin, ev, Env.get, setO, OutOK_stop, undefS, undef, List.size_toArray, List.length_cons, List.length_nil, List.range, List.range.loop, List.getElem?_toArray, List.getElem?_cons_succ, List.getElem?_cons_zero, Option.bind_some, ↓reduceIte, Nat.reduceAdd, Nat.reduceLT, Nat.reduceEqDiff, Nat.zero_add, Int.reduceEq, Bool.not_false, decide_false, and_self, gl0]
          refine hκ.ret _ _ _ _ _ _ trivial rfl ?_
          simp only [ofV, hk]
          exact .ret (by simp [SV.bnd, SV.bndL])
    · obtain rfl : k = xs.length := by omega
      have ho := ofI_none hn2
      simp (disch := omega) only [exec_succ, runR_next, runR_stop, stepS, runOp, goS, toSR, sop, rOf, ev, exitTo, OutOK_stop, List.size_toArray, List.length_cons, List.length_nil, List.range, List.range.loop, List.getElem?_toArray, List.getElem?_cons_zero, ↓reduceIte, Nat.reduceLT, Nat.zero_add, Int.reduceNeg, beq_self_eq_true]
      refine h1.ret _ _ _ _ _ _ trivial rfl ?_
      refine hκ.run 300 ?_
      simp (disch := omega) only [exec_succ, runR_next, runR_call, stepS, runOp, toSR, sop, rOf, sLoadIn, sLoad, ev, evs, Env.get, Heap.get, takeN, cut, aggOf, setO, OutOK_call, dropL, resV, List.size_toArray, List.length_cons, List.length_nil, List.range, List.range.loop, List.getElem?_toArray, List.getElem?_cons_succ, List.getElem?_cons_zero, ↓reduceIte, Nat.reduceAdd, Nat.reduceLT, Nat.reduceEqDiff, Nat.zero_add, Int.reduceNeg, gl0, Try.sz26, Try.ag26]
      refine Does.ret hκ.hP hκ.hgl (pchk_ok xs hx hn) ⟨trivial, by simp [SV.bnd, SV.bndL], by first | (simp [SV.bnd, SV.bndL]; done) | assumption⟩ ?_
      by_cases hk : okP xs = true
      · rw [if_pos hk]
        refine hκ.run 300 ?_
        simp (disch := omega) only [exec_succ, runR_next, runR_fork_true, runR_guard_ff, runR_stop, stepS, runOp, guardS, condS, toSR, sop, rOf, sPick, sInt, sBin, ev, Env.get, setO, OutOK_stop, undefS, undef, List.size_toArray, List.length_cons, List.length_nil, List.range, List.range.loop, List.getElem?_toArray, List.getElem?_cons_succ, List.getElem?_cons_zero, Option.bind_some, ↓reduceIte, Nat.reduceAdd, Nat.reduceLT, Nat.reduceEqDiff, Nat.zero_add, Int.reduceLT, Int.reduceNeg, Bool.not_true, Bool.not_false, decide_true, and_self, gl0]
        refine hκ.ret _ _ _ _ _ _ trivial rfl ?_
        simp only [ofV, hk, if_true, ho]
        exact .ret (by simp [SV.bnd, SV.bndL])
      · rw [if_neg hk]
        refine hκ.run 300 ?_
        simp (disch := omega) only [exec_succ, runR_next, runR_fork_true, runR_guard_tf, runR_stop, stepS, runOp, guardS, condS, toSR, sop, rOf, sPick, sInt, sBin, ev, Env.get, setO, OutOK_stop, undefS, undef, List.size_toArray, List.length_cons, List.length_nil, List.range, List.range.loop, List.getElem?_toArray, List.getElem?_cons_succ, List.getElem?_cons_zero, Option.bind_some, ↓reduceIte, Nat.reduceAdd, Nat.reduceLT, Nat.reduceEqDiff, Nat.zero_add, Int.reduceEq, Int.reduceNeg, Bool.not_false, decide_false, and_self, gl0]
        refine hκ.ret _ _ _ _ _ _ trivial rfl ?_
        simp only [ofV, hk]
        exact .ret (by simp [SV.bnd, SV.bndL])
def inR (xs : List Nat) (n : Int) : Bool := decide (0 ≤ n ∧ n < xs.length)
theorem inp_ok (xs : List Nat) (ns : List Int) (hn : ns.length < 2 ^ 46) : Con Try.prog gl0 (fnv 44) [Po xs, Is ns] 0 [] (Ret (Bo (ns.all (inR xs)))) := by
  refine Con.of Try.ok44 (nt := 9) (res := [.tmp 4]) Try.mixed Try.func44 rfl rfl rfl rfl fun κ xc hκ => hκ.run 300 ?_
  simp (disch := omega) only [exec_succ, runR_next, runR_call, stepS, runOp, toSR, sop, rOf, rNew, sBox, isArr, sMakeFunc, ev, evs, Env.get, cellsS, envOf, OutOK_call, Bool.false_eq_true, List.size_toArray, List.length_cons, List.length_nil, List.range, List.range.loop, List.getElem?_toArray, List.getElem?_cons_succ, List.getElem?_cons_zero, ↓reduceIte, Nat.reduceAdd, Nat.reduceLT, Nat.reduceEqDiff, Nat.zero_add, reduceCtorEq, gl0]
  refine Does.inl hκ.hP hκ.hgl Try.ok55 (nt := 9) (res := [.tmp 4]) Try.mixed Try.func55 rfl rfl rfl rfl fun κ_h1 x_h1 h1 => h1.run 300 ?_
  simp (disch := omega) only [exec_succ, runR_next, runR_call, stepS, runOp, toSR, sop, rOf, ev, evs, Env.get, envOf, OutOK_call, List.size_toArray, List.length_cons, List.length_nil, List.range, List.range.loop, List.getElem?_toArray, List.getElem?_cons_succ, List.getElem?_cons_zero, ↓reduceIte, Nat.reduceAdd, Nat.reduceLT, Nat.reduceEqDiff, Nat.zero_add, Nat.add_one_ne_zero, reduceCtorEq, gl0]
  refine Does.inl h1.hP h1.hgl Try.ok59 (nt := 19) (res := [.tmp 4]) Try.mixed Try.func59 rfl rfl rfl rfl fun κ_h2 x_h2 h2 => h2.run 300 ?_
  simp (disch := omega) only [sBuiltin, exec_succ, runR_next, runR_stop, stepS, runOp, toSR, sop, rOf, sLen, ev, Env.get, envOf, OutOK_stop, List.size_toArray, List.length_cons, List.length_nil, List.length_map, List.range, List.range.loop, List.getElem?_toArray, List.getElem?_cons_succ, List.getElem?_cons_zero, ↓reduceIte, Nat.reduceAdd, Nat.reduceLT, Nat.zero_add, Nat.add_one_ne_zero, Int.reduceNeg, gl0, Try.underlying22]
  refine Sat.less (Sat.loop (γ := Nat) (fun k => ([(8, I k), (7, I ns.length), (0, Is ns), (1, .fn (.func 56) [] [.ptr 0 0 0 0])], [(0, .own [.rd 1 (xs.map eS)] 26)], 1)) (fun k => ns.length - k) (fun k => k ≤ ns.length ∧ (ns.take k).all (inR xs) = true) ?round 0 ⟨Nat.zero_le _, by simp⟩) (by repeat' (first | exact EnvSub.nil _ | exact HeapSub.nil _ | refine EnvSub.cons rfl ?_ | refine HeapSub.cons rfl ?_ | (refine EnvSub.cons (by simp [Env.get]; done) ?_) | (refine HeapSub.cons (by simp [Heap.get]; done) ?_))) (by repeat' (first | exact EnvSub.nil _ | exact HeapSub.nil _ | refine EnvSub.cons rfl ?_ | refine HeapSub.cons rfl ?_ | (refine EnvSub.cons (by simp [Env.get]; done) ?_) | (refine HeapSub.cons (by simp [Heap.get]; done) ?_)))
  case round =>
    rintro k ⟨hk, hn2⟩ ih
    dsimp only at hk hn2 ih ⊢
    refine h2.run 300 ?_
    simp (disch := omega) only [exec_succ, runR_next, stepS, runOp, condS, toSR, sop, sInt, sBin, ev, Env.get, List.size_toArray, List.length_cons, List.length_nil, List.range, List.range.loop, List.getElem?_toArray, List.getElem?_cons_zero, ↓reduceIte, Nat.reduceLT, Nat.reduceEqDiff, Nat.zero_add, Int.reduceNeg, gl0]
    refine OutOK_fork (fun h => ?_) (fun h => ?_) <;> try simp only [Bool.not_true, Bool.not_false, decide_eq_true_eq, decide_eq_false_iff_not, Bool.not_eq_true', Bool.not_eq_false', Bool.and_eq_true, Bool.or_eq_false_iff, Bool.or_eq_true, Bool.and_eq_false_iff] at h
    · have ht := take_getD (show k < ns.length by omega)
      have hd : ns.take k ++ ns.drop k = ns := List.take_append_drop k ns
      rw [drop_getD (show k < ns.length by omega)] at hd
      have e0 : ((k : Int) < 0) = False := by simp only [eq_iff_iff, iff_false]; omega
      have e00 : ((0 : Int) ≤ k) = True := by simp only [eq_iff_iff, iff_true]; omega
      have hno : inR xs (ns.getD k default) = false → ns.all (inR xs) = false := fun h => by
        rw [← hd, List.all_append, List.all_cons, h]; simp
      have hz := fun (h : inR xs (ns.getD k default) = true) => ih (k + 1) ⟨by omega, by rw [ht, List.all_append, hn2, List.all_cons, h]; rfl⟩ (by omega)
      simp (disch := omega) only [exec_succ, runR_next, runR_need, runR_call, stepS, runOp, toSR, sop, rOf, sLoad, sIndexAddr, elemT, obind, ev, evs, Env.get, takeN, cut, aggOf, OutOK_need, OutOK_call, List.size_toArray, List.length_cons, List.length_nil, List.length_map, List.range, List.range.loop, List.getElem?_toArray, List.getElem?_cons_succ, List.getElem?_cons_zero, ↓reduceIte, Nat.reduceAdd, Nat.reduceLT, Nat.reduceEqDiff, Nat.zero_add, Nat.add_one_ne_zero, Int.reduceNeg, Int.toNat_natCast, reduceCtorEq, getD_map, eI, Try.sz3, Try.ag3, Try.underlying22]
      (repeat (refine ⟨by first | omega | (refine ⟨?_, ?_⟩ <;> omega) | trivial | (simp; done) | decide +kernel, fun _ => ?_⟩))
      refine Does.inlc h2.hP h2.hgl Try.ok56 (nt := 13) (res := [.tmp 3]) Try.mixed Try.func56 rfl rfl rfl rfl fun κ_h3 x_h3 h3 => h3.run 300 ?_
      simp (disch := omega) only [exec_succ, runR_next, stepS, runOp, guardS, toSR, sop, rOf, sInt, sBin, ev, Env.get, envOf, undefS, undef, List.size_toArray, List.length_cons, List.length_nil, List.range, List.range.loop, List.getElem?_toArray, List.getElem?_cons_succ, List.getElem?_cons_zero, List.cons_append, List.nil_append, Option.bind_some, ↓reduceIte, Nat.reduceAdd, Nat.reduceLT, Nat.zero_add, Nat.add_one_ne_zero, Bool.not_false, and_self, gl0]
      by_cases g1 : ns.getD k default < 0
      · have e1 : (ns.getD k default < 0) = True := by simp only [g1]
        simp (disch := omega) only [sBuiltin, exec_succ, runR_next, runR_guard_tf, runR_stop, stepS, runOp, guardS, toSR, sop, rOf, sPick, sLoad, sBin, sFieldAddr, sLen, ev, Env.get, OutOK_stop, undefS, undef, List.getElem?_toArray, List.getElem?_cons_succ, List.getElem?_cons_zero, Option.bind_some, ↓reduceIte, Nat.reduceLT, Nat.reduceEqDiff, Nat.add_zero, Nat.add_one_ne_zero, Bool.not_false, decide_true, and_self, reduceCtorEq, Try.fd26f0, e1]
        refine h3.ret _ _ _ _ _ _ trivial rfl ?_
        refine h2.run 300 ?_
        simp (disch := omega) only [exec_succ, runR_next, runR_fork_true, runR_stop, stepS, runOp, condS, toSR, sop, rOf, ev, Env.get, setO, OutOK_stop, dropL, resV, List.size_toArray, List.length_cons, List.length_nil, List.range, List.range.loop, List.getElem?_toArray, List.getElem?_cons_succ, List.getElem?_cons_zero, ↓reduceIte, Nat.reduceAdd, Nat.reduceLT, Nat.reduceEqDiff, Nat.zero_add, Int.reduceNeg, gl0]
        refine h2.ret _ _ _ _ _ _ trivial rfl ?_
        refine h1.run 300 ?_
        simp (disch := omega) only [exec_succ, runR_next, runR_stop, stepS, runOp, toSR, sop, rOf, sInt, sBin, ev, Env.get, setO, OutOK_stop, dropL, resV, List.getElem?_toArray, List.getElem?_cons_succ, List.getElem?_cons_zero, ↓reduceIte, Nat.reduceLT, decide_true, gl0, e00]
        refine h1.ret _ _ _ _ _ _ trivial rfl ?_
        refine hκ.run 300 ?_
        simp (disch := omega) only [exec_succ, runR_next, runR_stop, stepS, runOp, toSR, sop, rOf, sUn, ev, Env.get, setO, OutOK_stop, dropL, resV, List.getElem?_toArray, List.getElem?_cons_succ, List.getElem?_cons_zero, ↓reduceIte, Nat.reduceLT, Bool.not_true, gl0]
        refine hκ.ret _ _ _ _ _ _ trivial rfl ?_
        rw [hno (decide_eq_false (by omega))]
        exact .ret trivial
      · have e1 : (ns.getD k default < 0) = False := by simp only [g1]
        by_cases g2 : (xs.length : Int) ≤ ns.getD k default
        · have e2 : ((xs.length : Int) ≤ ns.getD k default) = True := by simp only [g2]
          simp (disch := omega) only [sBuiltin, exec_succ, runR_next, runR_guard_ff, runR_stop, stepS, runOp, guardS, toSR, sop, rOf, sPick, sLoadIn, sLoad, sInt, sBin, sFieldAddr, sLen, ev, Env.get, Heap.get, takeN, cut, aggOf, OutOK_stop, undefS, undef, List.length_map, List.getElem?_toArray, List.getElem?_cons_succ, List.getElem?_cons_zero, Option.bind_some, ↓reduceIte, Nat.reduceLT, Nat.reduceEqDiff, Nat.add_zero, Nat.add_one_ne_zero, Bool.not_false, decide_true, decide_false, and_self, reduceCtorEq, Try.underlying24, Try.sz24, Try.ag24, Try.fd26f0, e1, e2]
          refine h3.ret _ _ _ _ _ _ trivial rfl ?_
          refine h2.run 300 ?_
          simp (disch := omega) only [exec_succ, runR_next, runR_fork_true, runR_stop, stepS, runOp, condS, toSR, sop, rOf, ev, Env.get, setO, OutOK_stop, dropL, resV, List.size_toArray, List.length_cons, List.length_nil, List.range, List.range.loop, List.getElem?_toArray, List.getElem?_cons_succ, List.getElem?_cons_zero, ↓reduceIte, Nat.reduceAdd, Nat.reduceLT, Nat.reduceEqDiff, Nat.zero_add, Int.reduceNeg, gl0]
          refine h2.ret _ _ _ _ _ _ trivial rfl ?_
          refine h1.run 300 ?_
          simp (disch := omega) only [exec_succ, runR_next, runR_stop, stepS, runOp, toSR, sop, rOf, sInt, sBin, ev, Env.get, setO, OutOK_stop, dropL, resV, List.getElem?_toArray, List.getElem?_cons_succ, List.getElem?_cons_zero, ↓reduceIte, Nat.reduceLT, decide_true, gl0, e00]
          refine h1.ret _ _ _ _ _ _ trivial rfl ?_
          refine hκ.run 300 ?_
          simp (disch := omega) only [exec_succ, runR_next, runR_stop, stepS, runOp, toSR, sop, rOf, sUn, ev, Env.get, setO, OutOK_stop, dropL, resV, List.getElem?_toArray, List.getElem?_cons_succ, List.getElem?_cons_zero, ↓reduceIte, Nat.reduceLT, Bool.not_true, gl0]
          refine hκ.ret _ _ _ _ _ _ trivial rfl ?_
          rw [hno (decide_eq_false (by omega))]
          exact .ret trivial
        · have e2 : ((xs.length : Int) ≤ ns.getD k default) = False := by simp only [g2]
          simp (disch := omega) only [sBuiltin, exec_succ, runR_next, runR_guard_ff, runR_stop, stepS, runOp, guardS, toSR, sop, rOf, sPick, sLoadIn, sLoad, sInt, sBin, sFieldAddr, sLen, ev, Env.get, Heap.get, takeN, cut, aggOf, OutOK_stop, undefS, undef, List.length_map, List.getElem?_toArray, List.getElem?_cons_succ, List.getElem?_cons_zero, Option.bind_some, ↓reduceIte, Nat.reduceLT, Nat.reduceEqDiff, Nat.add_zero, Nat.add_one_ne_zero, Bool.not_false, decide_false, and_self, reduceCtorEq, Try.underlying24, Try.sz24, Try.ag24, Try.fd26f0, e1, e2]
          refine h3.ret _ _ _ _ _ _ trivial rfl ?_
          refine h2.run 300 ?_
          simp (disch := omega) only [exec_succ, runR_next, runR_fork_false, runR_stop, stepS, runOp, condS, toSR, sop, rOf, sInt, sBin, ev, Env.get, setO, OutOK_stop, dropL, resV, List.size_toArray, List.length_cons, List.length_nil, List.range, List.range.loop, List.getElem?_toArray, List.getElem?_cons_succ, List.getElem?_cons_zero, ↓reduceIte, Nat.reduceAdd, Nat.reduceLT, Nat.reduceEqDiff, Nat.zero_add, Int.reduceNeg, wrap_i64, gl0]
          exact (hz (decide_eq_true (by omega))).less (by repeat' (first | exact EnvSub.nil _ | exact HeapSub.nil _ | refine EnvSub.cons rfl ?_ | refine HeapSub.cons rfl ?_ | (refine EnvSub.cons (by simp [Env.get]; done) ?_) | (refine HeapSub.cons (by simp [Heap.get]; done) ?_))) (by repeat' (first | exact EnvSub.nil _ | exact HeapSub.nil _ | refine EnvSub.cons rfl ?_ | refine HeapSub.cons rfl ?_ | (refine EnvSub.cons (by simp [Env.get]; done) ?_) | (refine HeapSub.cons (by simp [Heap.get]; done) ?_)))
    · obtain rfl : k = ns.length := by omega
      simp (disch := omega) only [exec_succ, runR_next, runR_stop, stepS, runOp, goS, toSR, sop, rOf, ev, exitTo, OutOK_stop, List.size_toArray, List.length_cons, List.length_nil, List.range, List.range.loop, List.getElem?_toArray, List.getElem?_cons_zero, ↓reduceIte, Nat.reduceLT, Nat.zero_add, Int.reduceNeg, beq_self_eq_true]
      refine h2.ret _ _ _ _ _ _ trivial rfl ?_
      refine h1.run 300 ?_
      simp (disch := omega) only [exec_succ, runR_next, runR_stop, stepS, runOp, toSR, sop, rOf, sInt, sBin, ev, Env.get, setO, OutOK_stop, dropL, resV, List.getElem?_toArray, List.getElem?_cons_succ, List.getElem?_cons_zero, ↓reduceIte, Nat.reduceLT, Int.reduceLE, Int.reduceNeg, decide_false, gl0]
      refine h1.ret _ _ _ _ _ _ trivial rfl ?_
      refine hκ.run 300 ?_
      simp (disch := omega) only [exec_succ, runR_next, runR_stop, stepS, runOp, toSR, sop, rOf, sUn, ev, Env.get, setO, OutOK_stop, dropL, resV, List.getElem?_toArray, List.getElem?_cons_succ, List.getElem?_cons_zero, ↓reduceIte, Nat.reduceLT, Bool.not_false, gl0]
      refine hκ.ret _ _ _ _ _ _ trivial rfl ?_
      rw [List.take_length] at hn2
      rw [hn2]
      exact .ret trivial
def setV (xs : List Nat) (n : Int) : Nat := if okP xs = true ∧ inR xs n = true then xs.getD n.toNat default else 0
theorem set_ok (xs : List Nat) (n : Int) (hx : u32s xs) (hn : xs.length < 2 ^ 46) : Con Try.prog gl0 (fnv 23) [Po xs, I n] 0 [] (Ret (S (setV xs n))) := by
  refine Con.of Try.ok23 (nt := 20) (res := [.tmp 4]) Try.mixed Try.func23 rfl rfl rfl rfl fun κ xc hκ => hκ.run 300 ?_
  simp (disch := omega) only [exec_succ, runR_next, runR_call, stepS, runOp, toSR, sop, rOf, rNew, sBox, isArr, sLoadIn, sLoad, ev, evs, Env.get, Heap.get, takeN, cut, aggOf, cellsS, envOf, OutOK_call, Bool.false_eq_true, List.size_toArray, List.length_cons, List.length_nil, List.range, List.range.loop, List.getElem?_toArray, List.getElem?_cons_succ, List.getElem?_cons_zero, ↓reduceIte, Nat.reduceAdd, Nat.reduceLT, Nat.reduceEqDiff, Nat.zero_add, gl0, Try.sz26, Try.ag26]
  refine Does.ret hκ.hP hκ.hgl (pchk_ok xs hx hn) ⟨trivial, by simp [SV.bnd, SV.bndL], by first | (simp [SV.bnd, SV.bndL]; done) | assumption⟩ ?_
  by_cases hk : okP xs = true
  · rw [if_pos hk]
    refine hκ.run 300 ?_
    simp (disch := omega) only [exec_succ, runR_next, runR_need, runR_guard_ff, runR_call, stepS, runOp, guardS, toSR, sop, rOf, rNew, isArr, sLoadIn, sLoad, sInt, sBin, sliceT, obind, fillS, evps, repeatL, sBuildSlice, chunk, ev, evs, svs, Env.get, Heap.get, takeN, cut, over, paste, aggOf, cellsS, one, ones, idFree, idFrees, setO, Value.cells, Value.oneCell', OutOK_need, OutOK_call, undefS, undef, Bool.and_true, List.take_succ_cons, List.take_nil, List.length_cons, List.length_nil, List.range, List.range.loop, List.getElem?_toArray, List.getElem?_cons_succ, List.getElem?_cons_zero, List.map_cons, List.map_nil, List.append_nil, Option.bind_some, List.toList_toArray, ↓reduceIte, Nat.reduceAdd, Nat.reduceLT, Nat.reduceLeDiff, Nat.reduceEqDiff, Nat.zero_add, Nat.mul_one, Bool.not_true, Bool.not_false, decide_true, true_and, and_self, forall_const, reduceCtorEq, gl0, Try.sz3, Try.ze3, Try.underlying22, Try.sz26, Try.ag26]
    (repeat (refine ⟨by first | omega | (refine ⟨?_, ?_⟩ <;> omega) | trivial | (simp; done) | decide +kernel, fun _ => ?_⟩))
    refine Does.frz [1] ⟨trivial, rfl⟩ (by first | (simp [lendPL, lendP, lendSlP, Heap.get]; done) | (simp only [lendPL, lendP, lendSlP, Heap.get, List.mem_singleton, List.mem_cons, List.not_mem_nil, or_false, or_true, true_or, Nat.reduceEqDiff, Nat.one_ne_zero, Nat.zero_ne_one, ↓reduceIte, and_true, true_and, List.length_map, List.length_append, List.length_cons, List.length_nil, List.length_replicate]; omega)) ?_
    simp only [lendL, lendS, lendSl, Heap.get, without, List.mem_singleton, List.mem_cons, List.not_mem_nil, or_false, or_true, true_or, List.drop_zero, List.take_length, List.take_succ_cons, List.take_zero, Nat.reduceAdd, Nat.reduceEqDiff, Nat.one_ne_zero, Nat.zero_ne_one, ↓reduceIte]
    refine Does.ret hκ.hP hκ.hgl (inp_ok xs [n] (by simp)) ⟨trivial, by simp [SV.bnd, SV.bndL], by first | (simp [SV.bnd, SV.bndL]; done) | assumption⟩ ?_
    rw [show ([n].all (inR xs)) = inR xs n by simp]
    cases hr : inR xs n
    · refine hκ.run 300 ?_
      simp (disch := omega) only [exec_succ, runR_next, runR_fork_true, runR_guard_ff, runR_stop, stepS, runOp, guardS, condS, toSR, sop, rOf, sPick, sUn, ev, Env.get, setO, OutOK_stop, undefS, undef, List.size_toArray, List.length_cons, List.length_nil, List.range, List.range.loop, List.getElem?_toArray, List.getElem?_cons_succ, List.getElem?_cons_zero, Option.bind_some, ↓reduceIte, Nat.reduceLT, Nat.reduceEqDiff, Nat.zero_add, Bool.not_false, and_self, gl0]
      refine hκ.ret _ _ _ _ _ _ trivial rfl ?_
      simp only [setV, hr, Bool.false_eq_true, and_false, if_false]
      exact .ret trivial
    · have hr2 : 0 ≤ n ∧ n < xs.length := by simpa [inR] using hr
      refine hκ.run 300 ?_
      simp (disch := omega) only [exec_succ, runR_next, runR_need, runR_fork_false, runR_guard_ff, runR_stop, stepS, runOp, guardS, condS, toSR, sop, rOf, sPick, sLoadIn, sLoad, sUn, sFieldAddr, sIndexAddr, elemT, obind, ev, Env.get, Heap.get, takeN, cut, aggOf, setO, OutOK_need, OutOK_stop, undefS, undef, List.size_toArray, List.length_cons, List.length_nil, List.length_map, List.range, List.range.loop, List.getElem?_toArray, List.getElem?_cons_succ, List.getElem?_cons_zero, Option.bind_some, ↓reduceIte, Nat.reduceAdd, Nat.reduceLT, Nat.reduceEqDiff, Nat.zero_add, Nat.add_zero, Nat.add_one_ne_zero, Bool.not_true, Bool.not_false, and_self, reduceCtorEq, getD_map, gl0, Try.underlying24, Try.sz24, Try.ag24, Try.fd26f0, Try.sz31, Try.ag31, eS]
      (repeat (refine ⟨by first | omega | (refine ⟨?_, ?_⟩ <;> omega) | trivial | (simp; done) | decide +kernel, fun _ => ?_⟩))
      refine hκ.ret _ _ _ _ _ _ trivial rfl ?_
      simp only [setV, hr, hk, and_self, if_true]
      exact .ret trivial
  · rw [if_neg hk]
    refine hκ.run 300 ?_
    simp (disch := omega) only [exec_succ, runR_next, runR_fork_true, runR_guard_tf, runR_stop, stepS, runOp, guardS, condS, toSR, sop, rOf, rNew, sPick, isArr, sLoadIn, sLoad, sInt, sBin, sUn, sliceT, obind, fillS, evps, repeatL, sBuildSlice, chunk, ev, evs, svs, Env.get, Heap.get, takeN, cut, over, paste, aggOf, cellsS, one, ones, idFree, idFrees, setO, Value.cells, Value.oneCell', OutOK_stop, undefS, undef, Bool.and_true, List.take_succ_cons, List.take_nil, Bool.false_eq_true, List.size_toArray, List.length_cons, List.length_nil, List.range, List.range.loop, List.getElem?_toArray, List.getElem?_cons_succ, List.getElem?_cons_zero, List.map_cons, List.map_nil, List.append_nil, Option.bind_some, List.toList_toArray, ↓reduceIte, Nat.reduceAdd, Nat.reduceLT, Nat.reduceLeDiff, Nat.reduceEqDiff, Nat.zero_add, Nat.mul_one, Int.reduceEq, Bool.not_false, decide_false, and_true, and_self, reduceCtorEq, gl0, Try.sz3, Try.ze3, Try.underlying22, Try.sz26, Try.ag26]
    refine hκ.ret _ _ _ _ _ _ trivial rfl ?_
    simp only [setV, hk, false_and, if_false]
    exact .ret trivial
def allV (xs : List Nat) : Nat := if okP xs = true then xs.foldl (fun a s => a ||| s) 0 else 0
theorem cpus_ok (xs : List Nat) (hx : u32s xs) (hn : xs.length < 2 ^ 46) : Con Try.prog gl0 (fnv 19) [Po xs] 0 [] (Ret (S (allV xs))) := by
  refine Con.of Try.ok19 (nt := 20) (res := [.tmp 2]) Try.mixed Try.func19 rfl rfl rfl rfl fun κ xc hκ => hκ.run 300 ?_
  simp (disch := omega) only [exec_succ, runR_next, runR_call, stepS, runOp, toSR, sop, rOf, rNew, sBox, isArr, sLoadIn, sLoad, ev, evs, Env.get, Heap.get, takeN, cut, aggOf, cellsS, envOf, OutOK_call, Bool.false_eq_true, List.size_toArray, List.length_cons, List.length_nil, List.range, List.range.loop, List.getElem?_toArray, List.getElem?_cons_succ, List.getElem?_cons_zero, ↓reduceIte, Nat.reduceAdd, Nat.reduceLT, Nat.reduceEqDiff, Nat.zero_add, gl0, Try.sz26, Try.ag26]
  refine Does.ret hκ.hP hκ.hgl (pchk_ok xs hx hn) ⟨trivial, by simp [SV.bnd, SV.bndL], by first | (simp [SV.bnd, SV.bndL]; done) | assumption⟩ ?_
  by_cases hk : okP xs = true
  case neg =>
    rw [if_neg hk]
    refine hκ.run 300 ?_
    simp (disch := omega) only [exec_succ, runR_next, runR_fork_true, runR_stop, stepS, runOp, condS, toSR, sop, rOf, sInt, sBin, ev, Env.get, setO, OutOK_stop, List.size_toArray, List.length_cons, List.length_nil, List.range, List.range.loop, List.getElem?_toArray, List.getElem?_cons_succ, List.getElem?_cons_zero, ↓reduceIte, Nat.reduceLT, Nat.zero_add, Int.reduceEq, Bool.not_false, decide_false, gl0]
    refine hκ.ret _ _ _ _ _ _ trivial rfl ?_
    simp only [allV, hk]
    exact .ret trivial
  rw [if_pos hk]
  refine hκ.run 300 ?_
  simp (disch := omega) only [sBuiltin, exec_succ, runR_next, runR_fork_false, runR_stop, stepS, runOp, condS, toSR, sop, rOf, sLoadIn, sLoad, sInt, sBin, sFieldAddr, sLen, ev, Env.get, Heap.get, takeN, cut, aggOf, setO, OutOK_stop, List.size_toArray, List.length_cons, List.length_nil, List.length_map, List.range, List.range.loop, List.getElem?_toArray, List.getElem?_cons_succ, List.getElem?_cons_zero, ↓reduceIte, Nat.reduceAdd, Nat.reduceLT, Nat.reduceEqDiff, Nat.zero_add, Nat.add_zero, Nat.add_one_ne_zero, Bool.not_true, decide_true, gl0, Try.underlying24, Try.sz24, Try.ag24, Try.fd26f0]
  refine Sat.less (Sat.loop (γ := Nat × Nat) (fun g => ([(11, I g.1), (10, I xs.length), (9, .rd 1 (xs.map eS)), (2, S g.2)], [], 1)) (fun g => xs.length - g.1)
    (fun g => g.1 ≤ xs.length ∧ (xs.drop g.1).foldl (fun a s => a ||| s) g.2 = xs.foldl (fun a s => a ||| s) 0 ∧ g.2 < 4294967296) ?round (0, 0) ⟨Nat.zero_le _, rfl, by decide⟩) (by repeat' (first | exact EnvSub.nil _ | exact HeapSub.nil _ | refine EnvSub.cons rfl ?_ | refine HeapSub.cons rfl ?_ | (refine EnvSub.cons (by simp [Env.get]; done) ?_) | (refine HeapSub.cons (by simp [Heap.get]; done) ?_))) (by repeat' (first | exact EnvSub.nil _ | exact HeapSub.nil _ | refine EnvSub.cons rfl ?_ | refine HeapSub.cons rfl ?_ | (refine EnvSub.cons (by simp [Env.get]; done) ?_) | (refine HeapSub.cons (by simp [Heap.get]; done) ?_)))
  case round =>
    rintro ⟨k, a⟩ ⟨hk2, hf, ha⟩ ih
    dsimp only at hk2 hf ha ih ⊢
    refine hκ.run 300 ?_
    simp (disch := omega) only [exec_succ, runR_next, stepS, runOp, condS, toSR, sop, sInt, sBin, ev, Env.get, List.size_toArray, List.length_cons, List.length_nil, List.range, List.range.loop, List.getElem?_toArray, List.getElem?_cons_zero, ↓reduceIte, Nat.reduceLT, Nat.reduceEqDiff, Nat.zero_add, gl0]
    refine OutOK_fork (fun h => ?_) (fun h => ?_) <;> try simp only [Bool.not_true, Bool.not_false, decide_eq_true_eq, decide_eq_false_iff_not, Bool.not_eq_true', Bool.not_eq_false', Bool.and_eq_true, Bool.or_eq_false_iff, Bool.or_eq_true, Bool.and_eq_false_iff] at h
    · have hs := hx _ (getD_mem (show k < xs.length by omega))
      rw [drop_getD (show k < xs.length by omega), List.foldl_cons] at hf
      have hz := ih (k + 1, a ||| xs.getD k default) ⟨by dsimp only; omega, hf, Nat.or_lt_two_pow (n := 32) ha hs⟩ (by dsimp only; omega)
      dsimp only at hz
      have oo := or32 ha hs
      simp (disch := omega) only [exec_succ, runR_next, runR_need, runR_stop, stepS, runOp, toSR, sop, rOf, sLoad, sInt, sBin, sIndexAddr, elemT, obind, ev, Env.get, takeN, cut, aggOf, OutOK_need, OutOK_stop, List.size_toArray, List.length_cons, List.length_nil, List.length_map, List.range, List.range.loop, List.getElem?_toArray, List.getElem?_cons_succ, List.getElem?_cons_zero, ↓reduceIte, Nat.reduceAdd, Nat.reduceLT, Nat.reduceEqDiff, Nat.zero_add, Int.toNat_natCast, getD_map, wrap_i64, Try.underlying24, Try.sz31, Try.ag31, oo, eS]
      (repeat (refine ⟨by first | omega | (refine ⟨?_, ?_⟩ <;> omega) | trivial | (simp; done) | decide +kernel, fun _ => ?_⟩))
      exact hz.less (by repeat' (first | exact EnvSub.nil _ | exact HeapSub.nil _ | refine EnvSub.cons rfl ?_ | refine HeapSub.cons rfl ?_ | (refine EnvSub.cons (by simp [Env.get]; done) ?_) | (refine HeapSub.cons (by simp [Heap.get]; done) ?_))) (by repeat' (first | exact EnvSub.nil _ | exact HeapSub.nil _ | refine EnvSub.cons rfl ?_ | refine HeapSub.cons rfl ?_ | (refine EnvSub.cons (by simp [Env.get]; done) ?_) | (refine HeapSub.cons (by simp [Heap.get]; done) ?_)))
    · obtain rfl : k = xs.length := by omega
      rw [List.drop_length, List.foldl_nil] at hf
      simp (disch := omega) only [exec_succ, runR_next, runR_stop, stepS, runOp, goS, toSR, sop, rOf, ev, Env.get, exitTo, OutOK_stop, List.size_toArray, List.length_cons, List.length_nil, List.range, List.range.loop, List.getElem?_toArray, List.getElem?_cons_succ, List.getElem?_cons_zero, ↓reduceIte, Nat.reduceAdd, Nat.reduceLT, Nat.reduceEqDiff, Nat.zero_add, beq_self_eq_true]
      refine hκ.ret _ _ _ _ _ _ trivial rfl ?_
      simp only [allV, hk, if_true, ← hf]
      exact .ret trivial
def newV (n : Int) : SV := if 1 ≤ n ∧ n ≤ 8 then .tup [Po [2 ^ n.toNat - 1], I 0] else .tup [noP, I 2]
theorem first_ok (n : Int) : Con Try.prog gl0 (fnv 32) [I n] 0 [] (Ret (if 0 ≤ n ∧ n ≤ 8 then .tup [S (2 ^ n.toNat - 1), I 0] else .tup [S 0, I 2])) := by
  refine Con.of Try.ok32 (nt := 13) (res := [.tmp 2, .tmp 3]) Try.mixed Try.func32 rfl rfl rfl rfl fun κ xc hκ => hκ.run 300 ?_
  simp (disch := omega) only [exec_succ, runR_next, stepS, runOp, guardS, toSR, sop, rOf, sInt, sBin, ev, Env.get, envOf, undefS, undef, List.size_toArray, List.length_cons, List.length_nil, List.range, List.range.loop, List.getElem?_toArray, List.getElem?_cons_succ, List.getElem?_cons_zero, Option.bind_some, ↓reduceIte, Nat.reduceAdd, Nat.reduceLT, Nat.zero_add, Nat.add_one_ne_zero, Bool.not_false, and_self, gl0]
  by_cases h1 : n < 0
  · have e1 : (n < 0) = True := by simp only [h1]
    simp (disch := omega) only [exec_succ, runR_next, runR_fork_true, runR_guard_tf, runR_stop, stepS, runOp, guardS, condS, toSR, sop, rOf, sPick, sBin, ev, Env.get, OutOK_stop, undefS, undef, List.size_toArray, List.length_cons, List.length_nil, List.range, List.range.loop, List.getElem?_toArray, List.getElem?_cons_succ, List.getElem?_cons_zero, Option.bind_some, ↓reduceIte, Nat.reduceAdd, Nat.reduceLT, Nat.reduceEqDiff, Nat.zero_add, Bool.not_false, decide_true, and_self, e1]
    refine hκ.ret _ _ _ _ _ _ trivial rfl ?_
    rw [if_neg (by omega)]
    exact .ret (by simp [SV.bnd, SV.bndL])
  · have e1 : (n < 0) = False := by simp only [h1]
    by_cases h2 : 8 < n
    · have e2 : (8 < n) = True := by simp only [h2]
      simp (disch := omega) only [exec_succ, runR_next, runR_fork_true, runR_guard_ff, runR_stop, stepS, runOp, guardS, condS, toSR, sop, rOf, sPick, sInt, sBin, ev, Env.get, OutOK_stop, undefS, undef, List.size_toArray, List.length_cons, List.length_nil, List.range, List.range.loop, List.getElem?_toArray, List.getElem?_cons_succ, List.getElem?_cons_zero, Option.bind_some, ↓reduceIte, Nat.reduceAdd, Nat.reduceLT, Nat.reduceEqDiff, Nat.zero_add, Bool.not_false, decide_true, decide_false, and_self, e1, e2]
      refine hκ.ret _ _ _ _ _ _ trivial rfl ?_
      rw [if_neg (by omega)]
      exact .ret (by simp [SV.bnd, SV.bndL])
    · have e2 : (8 < n) = False := by simp only [h2]
      obtain ⟨m, rfl⟩ := Int.eq_ofNat_of_zero_le (show 0 ≤ n by omega)
      have hp : 1 ≤ 2 ^ m := Nat.one_le_two_pow
      have hp2 : 2 ^ m ≤ 2 ^ 8 := Nat.pow_le_pow_right (by decide) (by omega)
      simp (disch := omega) only [exec_succ, runR_next, runR_need, runR_fork_false, runR_guard_ff, runR_stop, stepS, runOp, guardS, condS, toSR, sop, rOf, sPick, sInt, sBin, ev, Env.get, OutOK_need, OutOK_stop, undefS, undef, List.size_toArray, List.length_cons, List.length_nil, List.range, List.range.loop, List.getElem?_toArray, List.getElem?_cons_succ, List.getElem?_cons_zero, Option.bind_some, ↓reduceIte, Nat.reduceAdd, Nat.reduceLT, Nat.reduceEqDiff, Nat.zero_add, Nat.add_one_ne_zero, Int.toNat_natCast, Bool.not_false, decide_false, and_self, shAmt_of, IntKind.bits, e1, e2]
      refine ⟨by omega, fun _ => ?_⟩
      refine hκ.ret _ _ _ _ _ _ trivial rfl ?_
      rw [if_pos (by omega), pow32 _ (by omega)]
      rw [Int.toNat_natCast]
      generalize 2 ^ m = p at hp hp2 ⊢
      rw [wrap_u32 (by omega) (by omega), show ((p : Int) - 1) = ((p - 1 : Nat) : Int) by omega]
      exact .ret (by simp [SV.bnd, SV.bndL])
theorem new_ok (n : Int) : Con Try.prog gl0 (fnv 10) [I n] 0 [] (Ret (newV n)) := by
  have c1 := first_ok n
  refine Con.of Try.ok10 (nt := 21) (res := [.cell 2 26, .tmp 3]) Try.mixed Try.func10 rfl rfl rfl rfl fun κ xc hκ => hκ.run 300 ?_
  simp (disch := omega) only [exec_succ, runR_next, runR_call, stepS, runOp, toSR, sop, rOf, rNew, sAlloc, sAlloc0, ev, evs, svs, Env.get, envOf, OutOK_call, List.size_toArray, List.length_cons, List.length_nil, List.range, List.range.loop, List.getElem?_toArray, List.getElem?_cons_succ, List.getElem?_cons_zero, List.map_cons, List.map_nil, ↓reduceIte, Nat.reduceAdd, Nat.reduceLT, Nat.zero_add, Nat.add_one_ne_zero, gl0, Try.ze26, Try.ar26]
  by_cases h1 : 0 ≤ n ∧ n ≤ 8
  · rw [if_pos h1] at c1
    obtain ⟨m, rfl⟩ := Int.eq_ofNat_of_zero_le h1.1
    rw [Int.toNat_natCast] at c1
    refine Does.ret hκ.hP hκ.hgl (c1) ⟨trivial, by simp [SV.bnd, SV.bndL], by first | (simp [SV.bnd, SV.bndL]; done) | assumption⟩ ?_
    by_cases h0 : m = 0
    · subst h0
      have e0 : (((2 ^ 0 - 1 : Nat) : Int) = 0) = True := by simp
      refine hκ.run 300 ?_
      simp (disch := omega) only [exec_succ, runR_next, runR_need, runR_fork_true, runR_guard_ff, runR_stop, stepS, runOp, guardS, condS, toSR, sop, rOf, sPick, sStoreIn, sStore, sInt, sBin, sExtract, fillS, evps, sBuild, ev, svs, Env.get, Heap.get, Heap.set, over, paste, cellsS, one, ones, setO, Value.oneCell', OutOK_need, OutOK_stop, undefS, undef, Int.cast_ofNat_Int, List.size_toArray, List.length_cons, List.length_nil, List.range, List.range.loop, List.getElem?_toArray, List.getElem?_cons_succ, List.getElem?_cons_zero, List.map_cons, List.map_nil, Option.bind_some, ↓reduceIte, Nat.reduceAdd, Nat.reduceLT, Nat.reduceEqDiff, Nat.zero_add, Bool.not_true, Bool.not_false, decide_true, true_and, and_self, forall_const, gl0, Try.sz26, Try.ze26, Try.pl26, e0]
      refine hκ.ret _ _ _ _ _ _ trivial rfl ?_
      rw [newV, if_neg (by omega)]
      exact .ret (by simp [SV.bnd, SV.bndL])
    · have hp : 2 ^ 1 ≤ 2 ^ m := Nat.pow_le_pow_right (by decide) (by omega)
      obtain ⟨p, hpm⟩ : ∃ p, 2 ^ m = p := ⟨_, rfl⟩
      rw [hpm] at hp ⊢
      have e1 : (((p - 1 : Nat) : Int) = 0) = False := by simp only [eq_iff_iff, iff_false]; omega
      refine hκ.run 300 ?_
      simp (disch := omega) only [exec_succ, runR_next, runR_need, runR_fork_false, runR_guard_ff, runR_stop, stepS, runOp, guardS, condS, toSR, sop, rOf, rNew, sPick, isArr, sStoreIn, sStore, sInt, sBin, sExtract, sliceT, obind, fillS, evps, sBuild, repeatL, sBuildSlice, chunk, ev, svs, Env.get, Heap.get, Heap.set, over, paste, cellsS, one, ones, idFree, idFrees, setO, Value.cells, Value.oneCell', OutOK_need, OutOK_stop, undefS, undef, Bool.and_true, List.take_succ_cons, List.take_nil, List.size_toArray, List.length_cons, List.length_nil, List.range, List.range.loop, List.getElem?_toArray, List.getElem?_cons_succ, List.getElem?_cons_zero, List.map_cons, List.map_nil, List.append_nil, Option.bind_some, List.toList_toArray, ↓reduceIte, Nat.reduceAdd, Nat.reduceLT, Nat.reduceLeDiff, Nat.reduceEqDiff, Nat.zero_add, Nat.mul_one, Nat.add_one_ne_zero, Bool.not_true, Bool.not_false, decide_true, decide_false, true_and, and_self, forall_const, gl0, Try.underlying24, Try.sz26, Try.ze26, Try.pl26, Try.sz31, Try.ze31, e1]
      (repeat (refine ⟨by first | omega | (refine ⟨?_, ?_⟩ <;> omega) | trivial | (simp; done) | decide +kernel, fun _ => ?_⟩))
      refine hκ.ret _ _ _ _ _ _ trivial rfl ?_
      refine Post.frz [1] (by first | (simp [lendPL, lendP, lendSlP, dropL, Heap.get, Heap.drop, resV]; done) | (simp [lendPL, lendP, lendSlP, dropL, Heap.get, Heap.drop, resV]; omega)) ?_
      simp only [resV, lendL, lendS, lendSl, dropL, Heap.drop, Heap.get, List.mem_singleton, List.mem_cons, List.not_mem_nil, or_false, or_true, true_or, List.drop_zero, Nat.reduceEqDiff, Nat.one_ne_zero, Nat.zero_ne_one, ↓reduceIte]
      rw [newV, if_pos (by omega), Int.toNat_natCast, hpm]
      exact Post.ret (s := .tup [Po [p - 1], I 0]) ⟨⟨trivial, trivial⟩, trivial, trivial⟩
  · rw [if_neg h1] at c1
    refine Does.ret hκ.hP hκ.hgl (c1) ⟨trivial, by simp [SV.bnd, SV.bndL], by first | (simp [SV.bnd, SV.bndL]; done) | assumption⟩ ?_
    refine hκ.run 300 ?_
    simp (disch := omega) only [exec_succ, runR_next, runR_need, runR_fork_true, runR_guard_tf, runR_stop, stepS, runOp, guardS, condS, toSR, sop, rOf, sPick, sStoreIn, sStore, sInt, sEq, sEqR, sBin, sExtract, fillS, evps, sBuild, ev, svs, Env.get, Heap.get, Heap.set, over, paste, cellsS, one, ones, setO, Value.oneCell', OutOK_need, OutOK_stop, undefS, undef, List.size_toArray, List.length_cons, List.length_nil, List.range, List.range.loop, List.getElem?_toArray, List.getElem?_cons_succ, List.getElem?_cons_zero, List.map_cons, List.map_nil, Option.bind_some, ↓reduceIte, Nat.reduceAdd, Nat.reduceLT, Nat.reduceEqDiff, Nat.zero_add, Int.reduceEq, Bool.not_false, decide_false, true_and, and_self, forall_const, gl0, Try.sz26, Try.ze26, Try.pl26]
    refine hκ.ret _ _ _ _ _ _ trivial rfl ?_
    rw [newV, if_neg (by omega)]
    exact .ret (by simp [SV.bnd, SV.bndL])
end Go.Proofs.Ytfhiaddbpacgeaa

/- The walk of the law PoolDoes. No condition. -/
import Derived.Test.YtfhiaddbpacgeaaLc
import Derived.Test.YtfhiaddbpacgeaaOn
import Derived.Test.YtfhiaddbpacgeaaRv
import Derived.Test.YtfhiaddbpacgeaaPo
namespace Go.Proofs.Ytfhiaddbpacgeaa
open Go Go.Sy
set_option maxRecDepth 100000
set_option linter.unusedSimpArgs false
set_option linter.unusedVariables false

theorem rcopy_no : Con Try.prog gl0 (fnv 15) [noP] 0 [] (Ret (Po [])) := by
  refine Con.toRdP (T := 31) (pre := fun r => .agg [r]) .agg1 (by simp [SV.bnd, SV.bndL]) ?_
  refine Con.of Try.ok15 (nt := 8) (res := [.cell 2 26]) Try.mixed Try.func15 rfl rfl rfl rfl fun κ xc hκ => hκ.run 300 ?_
  simp (disch := omega) only [sBuiltin, srcS, appArgS, sAppendTo, sAppend, exec_succ, runR_next, runR_need, runR_all, runR_stop, stepS, runOp, toSR, sop, rOf, rNew, sAlloc, sAlloc0, sBox, isArr, sLoadIn, sLoad, sStoreIn, sStore, sFieldAddr, sliceT, obind, fillS, evps, sBuild, repeatL, sBuildSlice, chunk, ev, svs, Env.get, Heap.get, Heap.set, Heap.drop, takeN, cut, over, paste, aggOf, cellsS, one, ones, idFrees, envOf, OutOK_need, OutOK_all, OutOK_stop, undefS, undef, List.take_nil, Bool.false_eq_true, List.size_toArray, List.length_cons, List.length_nil, List.range, List.range.loop, List.getElem?_toArray, List.getElem?_cons_succ, List.getElem?_cons_zero, List.map_cons, List.map_nil, List.append_nil, ↓reduceIte, Nat.reduceAdd, Nat.reduceLT, Nat.reduceLeDiff, Nat.reduceEqDiff, Nat.zero_add, Nat.add_zero, Nat.zero_mul, Nat.mul_one, Nat.add_one_ne_zero, true_and, and_self, forall_const, reduceCtorEq, gl0, Try.underlying24, Try.sz24, Try.ag24, Try.sz26, Try.ze26, Try.pl26, Try.ar26, Try.fd26f0, Try.sz31, Try.ze31, Try.by31]
  (repeat (refine ⟨by first | omega | (refine ⟨?_, ?_⟩ <;> omega) | trivial | (simp; done) | decide +kernel, fun _ => ?_⟩))
  intro c
  refine hκ.ret _ _ _ _ _ _ trivial rfl ?_
  exact Post.rowP .agg1 rfl (by simp)
theorem rcopy_rd (xs : List Nat) (hn : xs.length < 2 ^ 44) : Con Try.prog gl0 (fnv 15) [Po xs] 0 [] (Ret (Po xs)) := (rcopy_ok xs hn).toRdP .agg1 (by simp [SV.bnd, SV.bndL])
theorem does_law (x : List Nat) (l : List Od) (hx : u32s x) (hn : x.length < 2 ^ 46) (hl : ∀ o ∈ l, inO o) (hll : l.length < 2 ^ 62) : Law Try.prog gl0 4 [Po x, Ods l] := by
  have cx := short_ok x hn
  obtain ⟨px, pl⟩ := take12 x hx
  generalize hpp : x.take 12 = p0 at cx px pl
  refine Law.of (nt := 87) (res := [.tmp 4]) Try.mixed Try.func4 rfl rfl rfl rfl fun κ xc hκ => hκ.run 300 ?_
  simp (disch := omega) only [exec_succ, runR_next, runR_call, stepS, runOp, toSR, sop, rOf, rNew, sBox, isArr, ev, evs, Env.get, cellsS, envOf, OutOK_call, Bool.false_eq_true, List.size_toArray, List.length_cons, List.length_nil, List.range, List.range.loop, List.getElem?_toArray, List.getElem?_cons_succ, List.getElem?_cons_zero, ↓reduceIte, Nat.reduceAdd, Nat.reduceLT, Nat.zero_add, gl0]
  refine Does.ret hκ.hP hκ.hgl (wakes_ok) ⟨trivial, by simp [SV.bnd, SV.bndL], by first | (simp [SV.bnd, SV.bndL]; done) | assumption⟩ ?_
  refine hκ.run 300 ?_
  simp (disch := omega) only [exec_succ, runR_next, runR_fork_false, runR_call, stepS, runOp, condS, toSR, sop, rOf, sLoadIn, sLoad, sUn, ev, evs, Env.get, Heap.get, takeN, cut, aggOf, setO, OutOK_call, List.size_toArray, List.length_cons, List.length_nil, List.range, List.range.loop, List.getElem?_toArray, List.getElem?_cons_succ, List.getElem?_cons_zero, ↓reduceIte, Nat.reduceAdd, Nat.reduceLT, Nat.reduceEqDiff, Nat.zero_add, Bool.not_true, gl0, Try.sz26, Try.ag26]
  refine Does.ret hκ.hP hκ.hgl (cx) ⟨trivial, by simp [SV.bnd, SV.bndL], by first | (simp [SV.bnd, SV.bndL]; done) | assumption⟩ ?_
  refine hκ.run 300 ?_
  simp (disch := omega) only [sBuiltin, exec_succ, runR_next, runR_need, runR_stop, stepS, runOp, toSR, sop, rOf, rNew, sAlloc, sAlloc0, sStoreIn, sStore, sLen, ev, svs, Env.get, Heap.get, Heap.set, over, paste, cellsS, one, ones, setO, OutOK_need, OutOK_stop, undefS, undef, List.size_toArray, List.length_cons, List.length_nil, List.length_map, List.range, List.range.loop, List.getElem?_toArray, List.getElem?_cons_succ, List.getElem?_cons_zero, List.map_cons, List.map_nil, ↓reduceIte, Nat.reduceAdd, Nat.reduceLT, Nat.reduceEqDiff, Nat.zero_add, true_and, and_self, forall_const, reduceCtorEq, gl0, Try.sz26, Try.ze26, Try.ar26, Try.underlying33]
  refine Sat.less (Sat.loop (γ := Nat × List Nat) (fun g => ([(22, I g.1), (21, I l.length), (20, Ods l), (5, .ptr 1 0 0 0)], [(1, .own [.rd 1 (g.2.map eS)] 26)], 2)) (fun g => l.length - g.1)
    (fun g => g.1 ≤ l.length ∧ u32s g.2 ∧ g.2.length ≤ 12) ?round (0, p0) ⟨Nat.zero_le _, px, pl⟩) (by repeat' (first | exact EnvSub.nil _ | exact HeapSub.nil _ | refine EnvSub.cons rfl ?_ | refine HeapSub.cons rfl ?_ | (refine EnvSub.cons (by simp [Env.get]; done) ?_) | (refine HeapSub.cons (by simp [Heap.get]; done) ?_))) (by repeat' (first | exact EnvSub.nil _ | exact HeapSub.nil _ | refine EnvSub.cons rfl ?_ | refine HeapSub.cons rfl ?_ | (refine EnvSub.cons (by simp [Env.get]; done) ?_) | (refine HeapSub.cons (by simp [Heap.get]; done) ?_)))
  case round =>
    rintro ⟨k, p⟩ ⟨hk, qx, ql⟩ ih
    dsimp only at hk qx ql ih ⊢
    by_cases hkl : k < l.length
    case neg =>
      have e0 : ((k : Int) < l.length) = False := by simp only [eq_iff_iff, iff_false]; omega
      refine hκ.run 300 ?_
      simp (disch := omega) only [exec_succ, runR_next, runR_fork_false, runR_stop, stepS, runOp, condS, goS, toSR, sop, rOf, sInt, sBin, ev, Env.get, exitTo, OutOK_stop, List.size_toArray, List.length_cons, List.length_nil, List.range, List.range.loop, List.getElem?_toArray, List.getElem?_cons_zero, ↓reduceIte, Nat.reduceLT, Nat.reduceEqDiff, Nat.zero_add, decide_false, beq_self_eq_true, gl0, e0]
      refine hκ.ret _ _ _ _ _ _ trivial rfl ?_
      rfl
    have e0 : ((k : Int) < l.length) = True := by simp only [eq_iff_iff, iff_true]; omega
    have gk : (List.map eO l).getD k [] = eO (l.getD k default) := getD_map _ _ _ hkl
    have ho := hl _ (getD_mem hkl)
    generalize l.getD k default = o at gk ho
    by_cases h40 : k = 30
    · have e1 : ((k : Int) = 30) = True := by simp only [eq_iff_iff, iff_true]; omega
      refine hκ.run 300 ?_
      simp (disch := omega) only [exec_succ, runR_next, runR_need, runR_fork_true, runR_stop, stepS, runOp, condS, goS, toSR, sop, rOf, rNew, sAlloc, sAlloc0, sLoad, sStoreIn, sStore, sInt, sBin, sIndexAddr, elemT, obind, ev, svs, Env.get, Heap.get, Heap.set, takeN, cut, over, paste, aggOf, cellsS, one, ones, exitTo, Value.oneCell', OutOK_need, OutOK_stop, undefS, undef, Bool.false_eq_true, List.size_toArray, List.length_cons, List.length_nil, List.length_map, List.range, List.range.loop, List.getElem?_toArray, List.getElem?_cons_succ, List.getElem?_cons_zero, List.map_cons, List.map_nil, ↓reduceIte, Nat.reduceAdd, Nat.reduceLT, Nat.reduceEqDiff, Nat.zero_add, Nat.reduceBEq, Int.toNat_natCast, decide_true, beq_self_eq_true, and_true, true_and, and_self, forall_const, gl0, Try.underlying33, Try.sz36, Try.ag36, Try.ze36, Try.ar36, e0, e1, gk, eO]
      (repeat (refine ⟨by first | omega | (refine ⟨?_, ?_⟩ <;> omega) | trivial | (simp; done) | decide +kernel, fun _ => ?_⟩))
      refine hκ.ret _ _ _ _ _ _ trivial rfl ?_
      rfl
    have e1 : ((k : Int) = 30) = False := by simp only [eq_iff_iff, iff_false]; omega
    have hz := fun q h1 h2 => ih (k + 1, q) ⟨by dsimp only; omega, h1, h2⟩ (by dsimp only; omega)
    dsimp only at hz
    have cs := short_ok p (by omega)
    rw [List.take_of_length_le ql] at cs
    have c2 := run_ok p o qx (by omega) ho
    have c3 := wants_ok p o qx (by omega) ho
    have c4 := rsame_ok p p (by omega)
    rw [decide_eq_true rfl] at c4
    refine hκ.run 300 ?_
    simp (disch := omega) only [exec_succ, runR_next, runR_need, runR_fork_true, runR_fork_false, runR_call, stepS, runOp, condS, toSR, sop, rOf, rNew, sAlloc, sAlloc0, sLoadIn, sLoad, sStoreIn, sStore, sInt, sBin, sIndexAddr, elemT, obind, ev, evs, svs, Env.get, Heap.get, Heap.set, takeN, cut, over, paste, aggOf, cellsS, one, ones, Value.oneCell', OutOK_need, OutOK_call, undefS, undef, List.size_toArray, List.length_cons, List.length_nil, List.length_map, List.range, List.range.loop, List.getElem?_toArray, List.getElem?_cons_succ, List.getElem?_cons_zero, List.map_cons, List.map_nil, ↓reduceIte, Nat.reduceAdd, Nat.reduceLT, Nat.reduceEqDiff, Nat.zero_add, Int.toNat_natCast, decide_true, decide_false, and_true, true_and, and_self, forall_const, gl0, Try.sz26, Try.ag26, Try.underlying33, Try.sz36, Try.ag36, Try.ze36, Try.ar36, e0, e1, gk, eO]
    (repeat (refine ⟨by first | omega | (refine ⟨?_, ?_⟩ <;> omega) | trivial | (simp; done) | decide +kernel, fun _ => ?_⟩))
    refine Does.ret hκ.hP hκ.hgl (cs) ⟨trivial, by simp [SV.bnd, SV.bndL], by first | (simp [SV.bnd, SV.bndL]; done) | assumption⟩ ?_
    refine hκ.run 300 ?_
    simp (disch := omega) only [exec_succ, runR_next, runR_need, runR_call, stepS, runOp, toSR, sop, rOf, rNew, sAlloc, sAlloc0, sLoadIn, sLoad, sStoreIn, sStore, ev, evs, svs, Env.get, Heap.get, Heap.set, takeN, cut, over, paste, aggOf, cellsS, one, ones, setO, OutOK_need, OutOK_call, undefS, undef, List.size_toArray, List.length_cons, List.length_nil, List.range, List.range.loop, List.getElem?_toArray, List.getElem?_cons_succ, List.getElem?_cons_zero, List.map_cons, List.map_nil, ↓reduceIte, Nat.reduceAdd, Nat.reduceLT, Nat.reduceEqDiff, Nat.zero_add, true_and, and_self, forall_const, gl0, Try.sz26, Try.ag26, Try.ze26, Try.ar26, Try.sz36, Try.ag36]
    by_cases he : doE p o = 0
    · rw [RetX.ok he] at c2
      rw [if_pos he] at c3
      obtain ⟨-, f2, -⟩ := doX_facts he
      generalize doX p o = q at c2 c3 f2
      obtain ⟨rx, rl⟩ := okP_small f2
      have hy := hz q rx (by omega)
      refine Does.rowP hκ.hP hκ.hgl (pre := fun r => .tup [.agg [r], I (doN p o), I 0]) (Pre.aggE2 .agg1 _ _) c2 ⟨trivial, by simp [SV.bnd, SV.bndL]⟩ fun cap hcap => ?_
      rw [List.length_map] at hcap ⊢
      apply Sat.join (α := Unit) (nx := 7) (dfs := []) (fun _ => True) (fun _ => ([(12, .ptr 6 0 0 0), (13, I (doN p o)), (14, I 0), (10, I (doN p o)), (11, I 0), (9, .ptr 5 0 0 0), (8, .ptr 3 0 0 0), (22, I k), (21, I l.length), (20, Ods l), (5, .ptr 1 0 0 0)], [(6, .own [.rd 1 (q.map eS)] 26), (5, .own [.sl 4 1 0 q.length cap] 26), (4, .row 1 cap 31 (q.map eS)), (3, .own [.rd 1 (p.map eS)] 26), (1, .own [.rd 1 (p.map eS)] 26)]))
      · intro hj
        have hj := hj () trivial
        refine hκ.runA 10 300 ?_
        simp (disch := omega) only [runR_next, runR_need, stepS, runOp, toSR, sop, rOf, rNew, sAlloc, sAlloc0, sStoreIn, sStore, sExtract, ev, svs, Env.get, Heap.get, Heap.set, over, paste, cellsS, one, ones, setO, OutOK_need, OutOK_stop, undefS, undef, halt, isAt, atC, execA_succ, List.length_cons, List.length_nil, List.getElem?_toArray, List.getElem?_cons_succ, List.getElem?_cons_zero, List.map_cons, List.map_nil, ↓reduceIte, Nat.reduceAdd, Nat.reduceLT, Nat.reduceEqDiff, Nat.zero_add, beq_self_eq_true, true_and, and_self, forall_const, gl0, Try.sz26, Try.ze26, Try.ar26]
        refine hκ.draw (.q 0 (.q 1 (.or (.m 2 [0] (.or (.m 3 [1] (.q 4 (.q 5 (.q 6 (.q 7 (.l 8 [0, 1] (.l 9 [] (.q 10 (.q 11 (.fin)))))))))) (.m 8 [0, 1] (.l 3 [1] (.q 4 (.q 5 (.q 6 (.q 7 (.l 9 [] (.q 10 (.q 11 (.fin)))))))))))) (.m 8 [0, 1] (.l 2 [0] (.l 3 [1] (.q 4 (.q 5 (.q 6 (.q 7 (.l 9 [] (.q 10 (.q 11 (.fin)))))))))))))) [0, 1, 4, 5, 6, 7, 10, 11] (by kernel_rfl) (by kernel_rfl) rfl ?_
        simp (disch := omega) only [sop, rOf, rNew, sAlloc, sAlloc0, sLoadIn, sLoad, ev, evs, svs, Env.get, Heap.get, takeN, cut, aggOf, setO, drawP_q, drawP_l, dnext, dq, dqn, dl, slotR, ag, guardP, R1Q, dstOK, loudP, again, again1, slotIs, R1OK, drawP_m, drawP_or, List.getElem?_toArray, List.getElem?_cons_succ, List.getElem?_cons_zero, List.map_cons, List.map_nil, ↓reduceIte, Nat.reduceAdd, Nat.reduceLT, Nat.reduceEqDiff, true_and, and_self, gl0, Try.sz26, Try.ag26, Try.ze26, Try.ar26, Try.sz36, Try.ag36]
        repeat' (refine And.intro ?_ ?_)
        all_goals
          refine DCall.of (Does.ret hκ.hP hκ.hgl (cs) ⟨trivial, by simp [SV.bnd, SV.bndL], by first | (simp [SV.bnd, SV.bndL]; done) | assumption⟩ ?_)
          simp (disch := omega) only [sop, rOf, rNew, sAlloc, sAlloc0, sLoadIn, sLoad, ev, evs, svs, Env.get, Heap.get, takeN, cut, aggOf, setO, drawP_l, dnext, dl, slotR, ag, guardP, dstOK, loudP, again, again1, slotIs, R1OK, drawP_m, drawP_or, List.getElem?_toArray, List.getElem?_cons_succ, List.getElem?_cons_zero, List.map_cons, List.map_nil, ↓reduceIte, Nat.reduceAdd, Nat.reduceLT, Nat.reduceEqDiff, true_and, and_self, Try.sz26, Try.ag26, Try.ze26, Try.ar26, Try.sz36, Try.ag36]
        repeat' (refine And.intro ?_ ?_)
        all_goals
          refine DCall.of (Does.ret hκ.hP hκ.hgl (c3) ⟨trivial, by simp [SV.bnd, SV.bndL], by first | (simp [SV.bnd, SV.bndL]; done) | assumption⟩ ?_)
          simp (disch := omega) only [sop, rOf, rNew, sAlloc, sAlloc0, sLoadIn, sLoad, sStoreIn, sStore, sExtract, ev, svs, Env.get, Heap.get, Heap.set, takeN, cut, over, paste, aggOf, cellsS, one, ones, setO, drawP_fin, drawP_q, drawP_l, dnext, dq, dqn, dl, slotR, ag, guardP, R1Q, dstOK, loudP, again, again1, slotIs, R1OK, undefS, undef, List.length_cons, List.length_nil, List.getElem?_toArray, List.getElem?_cons_succ, List.getElem?_cons_zero, List.map_cons, List.map_nil, ↓reduceIte, Nat.reduceAdd, Nat.reduceLT, Nat.reduceEqDiff, Nat.zero_add, true_and, and_self, forall_const, Try.sz26, Try.ag26, Try.ze26, Try.ar26, Try.sz36, Try.ag36]
        all_goals exact hj.less (by repeat' (first | exact EnvSub.nil _ | exact HeapSub.nil _ | refine EnvSub.cons rfl ?_ | refine HeapSub.cons rfl ?_ | (refine EnvSub.cons (by simp [Env.get]; done) ?_) | (refine HeapSub.cons (by simp [Heap.get]; done) ?_))) (by repeat' (first | exact EnvSub.nil _ | exact HeapSub.nil _ | refine EnvSub.cons rfl ?_ | refine HeapSub.cons rfl ?_ | (refine EnvSub.cons (by simp [Env.get]; done) ?_) | (refine HeapSub.cons (by simp [Heap.get]; done) ?_)))
      intro _ _
      have et : List.take q.length (List.map eS q) = List.map eS q := List.take_of_length_le (by simp)
      have c5 := rsame_ok q q (by omega)
      rw [decide_eq_true rfl] at c5
      dsimp only
      refine hκ.run 300 ?_
      simp (disch := omega) only [exec_succ, runR_next, runR_guard_ff, runR_call, stepS, runOp, guardS, toSR, sop, rOf, sPick, sLoadIn, sLoad, sInt, sBin, ev, evs, Env.get, Heap.get, takeN, cut, aggOf, OutOK_call, undefS, undef, List.size_toArray, List.length_cons, List.length_nil, List.range, List.range.loop, List.getElem?_toArray, List.getElem?_cons_succ, List.getElem?_cons_zero, Option.bind_some, ↓reduceIte, Nat.reduceAdd, Nat.reduceLT, Nat.reduceEqDiff, Nat.zero_add, Bool.not_true, Bool.not_false, decide_true, and_self, gl0, Try.sz26, Try.ag26]
      refine Does.lent hκ.hP hκ.hgl [4] [Po q, Po q] c5 ⟨trivial, trivial, rfl, trivial⟩ (by simp [lendL, lendS, lendSl, Heap.get, et]) (by simp [lendPL, lendP, lendSlP, Heap.get]; omega) (by simp [SV.bnd, SV.bndL]) ?_
      rintro s' H' n' ⟨rfl, rfl, rfl⟩
      refine ⟨⟨by simp [SV.bnd, SV.bndL], by simp [SV.plain, SV.plainL], rfl, rfl⟩, ?_⟩
      refine hκ.run 300 ?_
      simp (disch := omega) only [exec_succ, runR_next, runR_guard_ff, runR_call, stepS, runOp, guardS, toSR, sop, rOf, sPick, sLoadIn, sLoad, sUn, ev, evs, Env.get, Heap.get, takeN, cut, aggOf, setO, OutOK_call, undefS, undef, List.getElem?_toArray, List.getElem?_cons_succ, List.getElem?_cons_zero, Option.bind_some, ↓reduceIte, Nat.reduceLT, Nat.reduceEqDiff, Bool.not_true, Bool.not_false, and_self, gl0, Try.sz26, Try.ag26]
      refine Does.ret hκ.hP hκ.hgl (c4) ⟨trivial, by simp [SV.bnd, SV.bndL], by first | (simp [SV.bnd, SV.bndL]; done) | assumption⟩ ?_
      refine hκ.run 300 ?_
      simp (disch := omega) only [exec_succ, runR_next, runR_fork_false, runR_guard_ff, runR_call, stepS, runOp, guardS, condS, toSR, sop, rOf, sPick, sLoadIn, sLoad, sUn, ev, evs, Env.get, Heap.get, takeN, cut, aggOf, setO, OutOK_call, undefS, undef, List.size_toArray, List.length_cons, List.length_nil, List.range, List.range.loop, List.getElem?_toArray, List.getElem?_cons_succ, List.getElem?_cons_zero, Option.bind_some, ↓reduceIte, Nat.reduceAdd, Nat.reduceLT, Nat.reduceEqDiff, Nat.zero_add, Bool.not_true, Bool.not_false, and_self, gl0, Try.sz26, Try.ag26]
      refine Does.ret hκ.hP hκ.hgl (rcopy_rd q (by omega)) ⟨trivial, by simp [SV.bnd, SV.bndL], by first | (simp [SV.bnd, SV.bndL]; done) | assumption⟩ ?_
      refine hκ.run 300 ?_
      simp (disch := omega) only [sBuiltin, exec_succ, runR_next, runR_need, runR_stop, stepS, runOp, toSR, sop, rOf, sLoadIn, sLoad, sStoreIn, sStore, sFieldAddr, sLen, ev, Env.get, Heap.get, Heap.set, takeN, cut, over, paste, aggOf, cellsS, one, ones, setO, OutOK_need, OutOK_stop, undefS, undef, List.size_toArray, List.length_cons, List.length_nil, List.range, List.range.loop, List.getElem?_toArray, List.getElem?_cons_succ, List.getElem?_cons_zero, ↓reduceIte, Nat.reduceAdd, Nat.reduceLT, Nat.reduceEqDiff, Nat.zero_add, Nat.add_zero, Nat.add_one_ne_zero, true_and, and_self, forall_const, gl0, Try.underlying24, Try.sz24, Try.ag24, Try.sz26, Try.fd26f0]
      refine Sat.less (Sat.loop (γ := Nat × List Nat) (fun g => ([(71, I g.1), (70, I q.length), (12, .ptr 6 0 0 0), (11, I 0), (9, .ptr 5 0 0 0), (8, .ptr 3 0 0 0), (22, I k), (21, I l.length), (20, Ods l), (5, .ptr 1 0 0 0)], [(6, .own [.rd 1 (q.map eS)] 26), (5, .own [.sl 4 1 0 q.length cap] 26), (4, .row 1 cap 31 (g.2.map eS)), (3, .own [.rd 1 (p.map eS)] 26), (1, .own [.rd 1 (p.map eS)] 26)], 7)) (fun g => q.length - g.1)
        (fun g => g.1 ≤ q.length ∧ g.2.length = q.length) ?round2 (0, q) ⟨Nat.zero_le _, rfl⟩) (by repeat' (first | exact EnvSub.nil _ | exact HeapSub.nil _ | refine EnvSub.cons rfl ?_ | refine HeapSub.cons rfl ?_ | (refine EnvSub.cons (by simp [Env.get]; done) ?_) | (refine HeapSub.cons (by simp [Heap.get]; done) ?_))) (by repeat' (first | exact EnvSub.nil _ | exact HeapSub.nil _ | refine EnvSub.cons rfl ?_ | refine HeapSub.cons rfl ?_ | (refine EnvSub.cons (by simp [Env.get]; done) ?_) | (refine HeapSub.cons (by simp [Heap.get]; done) ?_)))
      case round2 =>
        rintro ⟨j, r⟩ ⟨hj, hr⟩ ih2
        dsimp only at hj hr ih2 ⊢
        by_cases hjl : j < q.length
        · have e2 : ((j : Int) < q.length) = True := by simp only [eq_iff_iff, iff_true]; omega
          have hy2 := ih2 (j + 1, r.set j 99) ⟨by dsimp only; omega, by simp [hr]⟩ (by dsimp only; omega)
          dsimp only at hy2
          have s99 : (r.map eS).set j [.v (.int .u32 99)] = (r.set j 99).map eS := setS r j 99
          refine hκ.run 300 ?_
          simp (disch := omega) only [exec_succ, runR_next, runR_need, runR_fork_true, runR_stop, stepS, runOp, condS, toSR, sop, rOf, sLoadIn, sLoad, sStoreIn, sStore, sInt, sBin, sFieldAddr, sIndexAddr, elemT, obind, ev, svs, Env.get, Heap.get, Heap.set, takeN, cut, over, paste, aggOf, cellsS, one, ones, idFree, idFrees, Value.cells, Value.oneCell', OutOK_need, OutOK_stop, undefS, undef, Bool.and_true, List.size_toArray, List.length_cons, List.length_nil, List.length_map, List.range, List.range.loop, List.getElem?_toArray, List.getElem?_cons_succ, List.getElem?_cons_zero, List.map_cons, List.map_nil, List.toList_toArray, ↓reduceIte, Nat.reduceAdd, Nat.reduceLT, Nat.reduceEqDiff, Nat.zero_add, Nat.add_zero, Nat.add_one_ne_zero, Int.toNat_natCast, decide_true, and_true, true_and, and_self, getD_map, wrap_i64, gl0, Try.underlying24, Try.sz24, Try.ag24, Try.fd26f0, Try.sz31, e2, eS]
          (repeat (refine ⟨by first | omega | (refine ⟨?_, ?_⟩ <;> omega) | trivial | (simp; done) | decide +kernel, fun _ => ?_⟩))
          rw [s99]
          exact hy2.less (by repeat' (first | exact EnvSub.nil _ | exact HeapSub.nil _ | refine EnvSub.cons rfl ?_ | refine HeapSub.cons rfl ?_ | (refine EnvSub.cons (by simp [Env.get]; done) ?_) | (refine HeapSub.cons (by simp [Heap.get]; done) ?_))) (by repeat' (first | exact EnvSub.nil _ | exact HeapSub.nil _ | refine EnvSub.cons rfl ?_ | refine HeapSub.cons rfl ?_ | (refine EnvSub.cons (by simp [Env.get]; done) ?_) | (refine HeapSub.cons (by simp [Heap.get]; done) ?_)))
        · have e2 : ((j : Int) < q.length) = False := by simp only [eq_iff_iff, iff_false]; omega
          refine hκ.run 300 ?_
          simp (disch := omega) only [exec_succ, runR_next, runR_fork_false, runR_call, stepS, runOp, condS, goS, toSR, sop, rOf, sLoadIn, sLoad, sInt, sBin, ev, evs, Env.get, Heap.get, takeN, cut, aggOf, exitTo, OutOK_call, List.size_toArray, List.length_cons, List.length_nil, List.range, List.range.loop, List.getElem?_toArray, List.getElem?_cons_succ, List.getElem?_cons_zero, ↓reduceIte, Nat.reduceAdd, Nat.reduceLT, Nat.reduceEqDiff, Nat.zero_add, decide_false, beq_self_eq_true, gl0, Try.sz26, Try.ag26, e2]
          refine Does.ret hκ.hP hκ.hgl (c4) ⟨trivial, by simp [SV.bnd, SV.bndL], by first | (simp [SV.bnd, SV.bndL]; done) | assumption⟩ ?_
          refine hκ.run 300 ?_
          simp (disch := omega) only [exec_succ, runR_next, runR_need, runR_fork_true, runR_fork_false, runR_stop, stepS, runOp, condS, toSR, sop, rOf, sLoadIn, sLoad, sStoreIn, sStore, sInt, sBin, sUn, ev, Env.get, Heap.get, Heap.set, takeN, cut, over, paste, aggOf, cellsS, one, ones, setO, OutOK_need, OutOK_stop, undefS, undef, List.size_toArray, List.length_cons, List.length_nil, List.range, List.range.loop, List.getElem?_toArray, List.getElem?_cons_succ, List.getElem?_cons_zero, ↓reduceIte, Nat.reduceAdd, Nat.reduceLT, Nat.reduceEqDiff, Nat.zero_add, Bool.not_true, decide_true, true_and, and_self, forall_const, wrap_i64, gl0, Try.sz26, Try.ag26]
          refine Sat.via (fun i => i) (hy) (by intro i j; (repeat (first | omega | split))) (by repeat' (first | exact EnvVia.nil | refine EnvVia.cons (by first | trivial | decide | (simp [SV.bnd, SV.bndL]; done)) rfl ?_)) (by repeat' (first | exact HeapVia.nil | refine HeapVia.cons (by decide) (by first | trivial | (simp [Blk.bnd, SV.bnd, SV.bndL]; done) | exact bndL_mapV _ _ _ | exact LR.bnd (by rw [l2]; simp [bndE, SV.bnd, SV.bndL]) (by rw [l6]; decide)) (by first | rfl | (simp only [Blk.ren, renL_mapV]; rfl) | (rw [LR.ren (by rw [l2] <;> rfl) (by rw [l6] <;> rfl)]; rfl)) ?_)) ⟨by have := hκ.hm; (try dsimp only at this); (first | done | omega), fun i hi => by have := hκ.hm; (try dsimp only at this); (first | omega | (dsimp only; omega) | (rw [if_neg (by omega)]))⟩ ⟨by simp, rfl⟩
    · rw [RetX.no he] at c2
      rw [if_neg he] at c3
      have he' : (doE p o = 0) = False := by simp [he]
      have hy := hz p qx ql
      refine Does.ret hκ.hP hκ.hgl (c2) ⟨trivial, by simp [SV.bnd, SV.bndL], by first | (simp [SV.bnd, SV.bndL]; done) | assumption⟩ ?_
      apply Sat.join (α := Unit) (nx := 6) (dfs := []) (fun _ => True) (fun _ => ([(12, .ptr 5 0 0 0), (13, I 0), (14, I (doE p o)), (10, I 0), (11, I (doE p o)), (9, .ptr 4 0 0 0), (8, .ptr 3 0 0 0), (22, I k), (21, I l.length), (20, Ods l), (5, .ptr 1 0 0 0)], [(5, .own [.v (.slice none 0 0)] 26), (4, .own [.v (.slice none 0 0)] 26), (3, .own [.rd 1 (p.map eS)] 26), (1, .own [.rd 1 (p.map eS)] 26)]))
      · intro hj
        have hj := hj () trivial
        refine hκ.runA 10 300 ?_
        simp (disch := omega) only [runR_next, runR_need, stepS, runOp, toSR, sop, rOf, rNew, sAlloc, sAlloc0, sStoreIn, sStore, sExtract, ev, svs, Env.get, Heap.get, Heap.set, over, paste, cellsS, one, ones, setO, Value.oneCell', OutOK_need, OutOK_stop, undefS, undef, halt, isAt, atC, execA_succ, List.length_cons, List.length_nil, List.getElem?_toArray, List.getElem?_cons_succ, List.getElem?_cons_zero, List.map_cons, List.map_nil, ↓reduceIte, Nat.reduceAdd, Nat.reduceLT, Nat.reduceEqDiff, Nat.zero_add, beq_self_eq_true, true_and, and_self, forall_const, gl0, Try.sz26, Try.ze26, Try.ar26]
        refine hκ.draw (.q 0 (.q 1 (.or (.m 2 [0] (.or (.m 3 [1] (.q 4 (.q 5 (.q 6 (.q 7 (.l 8 [0, 1] (.l 9 [] (.q 10 (.q 11 (.fin)))))))))) (.m 8 [0, 1] (.l 3 [1] (.q 4 (.q 5 (.q 6 (.q 7 (.l 9 [] (.q 10 (.q 11 (.fin)))))))))))) (.m 8 [0, 1] (.l 2 [0] (.l 3 [1] (.q 4 (.q 5 (.q 6 (.q 7 (.l 9 [] (.q 10 (.q 11 (.fin)))))))))))))) [0, 1, 4, 5, 6, 7, 10, 11] (by kernel_rfl) (by kernel_rfl) rfl ?_
        simp (disch := omega) only [sop, rOf, rNew, sAlloc, sAlloc0, sLoadIn, sLoad, ev, evs, svs, Env.get, Heap.get, takeN, cut, aggOf, setO, drawP_q, drawP_l, dnext, dq, dqn, dl, slotR, ag, guardP, R1Q, dstOK, loudP, again, again1, slotIs, R1OK, drawP_m, drawP_or, List.getElem?_toArray, List.getElem?_cons_succ, List.getElem?_cons_zero, List.map_cons, List.map_nil, ↓reduceIte, Nat.reduceAdd, Nat.reduceLT, Nat.reduceEqDiff, true_and, and_self, gl0, Try.sz26, Try.ag26, Try.ze26, Try.ar26, Try.sz36, Try.ag36]
        repeat' (refine And.intro ?_ ?_)
        all_goals
          refine DCall.of (Does.ret hκ.hP hκ.hgl (cs) ⟨trivial, by simp [SV.bnd, SV.bndL], by first | (simp [SV.bnd, SV.bndL]; done) | assumption⟩ ?_)
          simp (disch := omega) only [sop, rOf, rNew, sAlloc, sAlloc0, sLoadIn, sLoad, ev, evs, svs, Env.get, Heap.get, takeN, cut, aggOf, setO, drawP_l, dnext, dl, slotR, ag, guardP, dstOK, loudP, again, again1, slotIs, R1OK, drawP_m, drawP_or, List.getElem?_toArray, List.getElem?_cons_succ, List.getElem?_cons_zero, List.map_cons, List.map_nil, ↓reduceIte, Nat.reduceAdd, Nat.reduceLT, Nat.reduceEqDiff, true_and, and_self, Try.sz26, Try.ag26, Try.ze26, Try.ar26, Try.sz36, Try.ag36]
        repeat' (refine And.intro ?_ ?_)
        all_goals
          refine DCall.of (Does.ret hκ.hP hκ.hgl (c3) ⟨trivial, by simp [SV.bnd, SV.bndL], by first | (simp [SV.bnd, SV.bndL]; done) | assumption⟩ ?_)
          simp (disch := omega) only [sop, rOf, rNew, sAlloc, sAlloc0, sLoadIn, sLoad, sStoreIn, sStore, sExtract, ev, svs, Env.get, Heap.get, Heap.set, takeN, cut, over, paste, aggOf, cellsS, one, ones, setO, Value.oneCell', drawP_fin, drawP_q, drawP_l, dnext, dq, dqn, dl, slotR, ag, guardP, R1Q, dstOK, loudP, again, again1, slotIs, R1OK, undefS, undef, List.length_cons, List.length_nil, List.getElem?_toArray, List.getElem?_cons_succ, List.getElem?_cons_zero, List.map_cons, List.map_nil, ↓reduceIte, Nat.reduceAdd, Nat.reduceLT, Nat.reduceEqDiff, Nat.zero_add, true_and, and_self, forall_const, Try.sz26, Try.ag26, Try.ze26, Try.ar26, Try.sz36, Try.ag36]
        all_goals exact hj.less (by repeat' (first | exact EnvSub.nil _ | exact HeapSub.nil _ | refine EnvSub.cons rfl ?_ | refine HeapSub.cons rfl ?_ | (refine EnvSub.cons (by simp [Env.get]; done) ?_) | (refine HeapSub.cons (by simp [Heap.get]; done) ?_))) (by repeat' (first | exact EnvSub.nil _ | exact HeapSub.nil _ | refine EnvSub.cons rfl ?_ | refine HeapSub.cons rfl ?_ | (refine EnvSub.cons (by simp [Env.get]; done) ?_) | (refine HeapSub.cons (by simp [Heap.get]; done) ?_)))
      intro _ _
      dsimp only
      refine hκ.run 300 ?_
      simp (disch := omega) only [exec_succ, runR_next, runR_guard_ff, runR_call, stepS, runOp, guardS, toSR, sop, rOf, sPick, sLoadIn, sLoad, sInt, sBin, ev, evs, Env.get, Heap.get, takeN, cut, aggOf, OutOK_call, undefS, undef, List.size_toArray, List.length_cons, List.length_nil, List.range, List.range.loop, List.getElem?_toArray, List.getElem?_cons_succ, List.getElem?_cons_zero, Option.bind_some, ↓reduceIte, Nat.reduceAdd, Nat.reduceLT, Nat.reduceEqDiff, Nat.zero_add, Bool.not_true, Bool.not_false, decide_true, and_self, gl0, Try.sz26, Try.ag26]
      refine Does.ret hκ.hP hκ.hgl (rsame_no) ⟨trivial, by simp [SV.bnd, SV.bndL], by first | (simp [SV.bnd, SV.bndL]; done) | assumption⟩ ?_
      refine hκ.run 300 ?_
      simp (disch := omega) only [exec_succ, runR_next, runR_guard_ff, runR_call, stepS, runOp, guardS, toSR, sop, rOf, sPick, sLoadIn, sLoad, sUn, ev, evs, Env.get, Heap.get, takeN, cut, aggOf, setO, OutOK_call, undefS, undef, List.getElem?_toArray, List.getElem?_cons_succ, List.getElem?_cons_zero, Option.bind_some, ↓reduceIte, Nat.reduceLT, Nat.reduceEqDiff, Bool.not_true, Bool.not_false, and_self, gl0, Try.sz26, Try.ag26]
      refine Does.ret hκ.hP hκ.hgl (c4) ⟨trivial, by simp [SV.bnd, SV.bndL], by first | (simp [SV.bnd, SV.bndL]; done) | assumption⟩ ?_
      refine hκ.run 300 ?_
      simp (disch := omega) only [exec_succ, runR_next, runR_fork_false, runR_guard_ff, runR_call, stepS, runOp, guardS, condS, toSR, sop, rOf, sPick, sLoadIn, sLoad, sUn, ev, evs, Env.get, Heap.get, takeN, cut, aggOf, setO, OutOK_call, undefS, undef, List.size_toArray, List.length_cons, List.length_nil, List.range, List.range.loop, List.getElem?_toArray, List.getElem?_cons_succ, List.getElem?_cons_zero, Option.bind_some, ↓reduceIte, Nat.reduceAdd, Nat.reduceLT, Nat.reduceEqDiff, Nat.zero_add, Bool.not_true, Bool.not_false, and_self, gl0, Try.sz26, Try.ag26]
      refine Does.ret hκ.hP hκ.hgl (rcopy_no) ⟨trivial, by simp [SV.bnd, SV.bndL], by first | (simp [SV.bnd, SV.bndL]; done) | assumption⟩ ?_
      refine hκ.run 300 ?_
      simp (disch := omega) only [sBuiltin, exec_succ, runR_next, runR_need, runR_stop, stepS, runOp, toSR, sop, rOf, sLoadIn, sLoad, sStoreIn, sStore, sFieldAddr, sLen, ev, Env.get, Heap.get, Heap.set, takeN, cut, over, paste, aggOf, cellsS, one, ones, setO, OutOK_need, OutOK_stop, undefS, undef, Int.cast_ofNat_Int, List.size_toArray, List.length_cons, List.length_nil, List.range, List.range.loop, List.getElem?_toArray, List.getElem?_cons_succ, List.getElem?_cons_zero, List.map_nil, ↓reduceIte, Nat.reduceAdd, Nat.reduceLT, Nat.reduceEqDiff, Nat.zero_add, Nat.add_zero, Nat.add_one_ne_zero, true_and, and_self, forall_const, gl0, Try.underlying24, Try.sz24, Try.ag24, Try.sz26, Try.fd26f0]
      refine Sat.enter ?_
      refine hκ.run 300 ?_
      simp (disch := omega) only [exec_succ, runR_next, runR_fork_false, runR_call, stepS, runOp, condS, goS, toSR, sop, rOf, sLoadIn, sLoad, sInt, sBin, ev, evs, Env.get, Heap.get, takeN, cut, aggOf, exitTo, OutOK_call, List.size_toArray, List.length_cons, List.length_nil, List.range, List.range.loop, List.getElem?_toArray, List.getElem?_cons_succ, List.getElem?_cons_zero, ↓reduceIte, Nat.reduceAdd, Nat.reduceLT, Nat.reduceEqDiff, Nat.zero_add, Int.reduceLT, decide_false, beq_self_eq_true, gl0, Try.sz26, Try.ag26]
      refine Does.ret hκ.hP hκ.hgl (c4) ⟨trivial, by simp [SV.bnd, SV.bndL], by first | (simp [SV.bnd, SV.bndL]; done) | assumption⟩ ?_
      refine hκ.run 300 ?_
      simp (disch := omega) only [exec_succ, runR_next, runR_fork_false, runR_stop, stepS, runOp, condS, toSR, sop, rOf, sInt, sBin, sUn, ev, Env.get, setO, OutOK_stop, List.size_toArray, List.length_cons, List.length_nil, List.range, List.range.loop, List.getElem?_toArray, List.getElem?_cons_succ, List.getElem?_cons_zero, ↓reduceIte, Nat.reduceAdd, Nat.reduceLT, Nat.reduceEqDiff, Nat.zero_add, Bool.not_true, decide_false, wrap_i64, gl0, he']
      refine Sat.via (fun i => i) (hy) (by intro i j; (repeat (first | omega | split))) (by repeat' (first | exact EnvVia.nil | refine EnvVia.cons (by first | trivial | decide | (simp [SV.bnd, SV.bndL]; done)) rfl ?_)) (by repeat' (first | exact HeapVia.nil | refine HeapVia.cons (by decide) (by first | trivial | (simp [Blk.bnd, SV.bnd, SV.bndL]; done) | exact bndL_mapV _ _ _ | exact LR.bnd (by rw [l2]; simp [bndE, SV.bnd, SV.bndL]) (by rw [l6]; decide)) (by first | rfl | (simp only [Blk.ren, renL_mapV]; rfl) | (rw [LR.ren (by rw [l2] <;> rfl) (by rw [l6] <;> rfl)]; rfl)) ?_)) ⟨by have := hκ.hm; (try dsimp only at this); (first | done | omega), fun i hi => by have := hκ.hm; (try dsimp only at this); (first | omega | (dsimp only; omega) | (rw [if_neg (by omega)]))⟩ ⟨by simp, rfl⟩
end Go.Proofs.Ytfhiaddbpacgeaa

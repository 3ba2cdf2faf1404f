/- The walk of the law ShareApart. No condition. -/
import Derived.Test.YtomfpciigaopiaaLz
import Derived.Test.YtomfpciigaopiaaAu
import Derived.Test.YtomfpciigaopiaaAv
namespace Go.Proofs.Ytomfpciigaopiaa
open Go Go.Sy
set_option maxRecDepth 100000
set_option linter.unusedSimpArgs false
set_option linter.unusedVariables false

/-- Do times lie apart, the error. -/
def apR (l : List Pt) (ts : List Int) (sp : Nat) : Bool × Int := if askE l (okT l ts ts.length) = 0 then (apartB l ts sp, 0) else (false, askE l (okT l ts ts.length))
theorem Apart_ok (l : List Pt) (ts : List Int) (sp : Nat) (hl : ∀ p ∈ l, inP p) (hn : l.length < 2 ^ 40) (ht : ∀ t ∈ ts, i64 t) (htn : ts.length < 2 ^ 40) (hsp : sp < 2 ^ 128) : Con Try.prog gl0 (fnv 25) [Ps l, Ts ts, W sp] 0 [] (Ret (.tup [Bo (apR l ts sp).1, I (apR l ts sp).2])) := by
  rw [apR]
  by_cases h : askE l (okT l ts ts.length) = 0
  · rw [if_pos h]
    obtain ⟨h1, h2⟩ := askE_ok h
    exact Apart_yes l ts sp hl h1 hsp h2
  · rw [if_neg h]
    exact Apart_err l ts sp hl hn ht htn h
theorem apart_law (l : List Pt) (ts : List Int) (sp : Nat) (hl : ∀ p ∈ l, inP p) (hn0 : l.length < 2 ^ 46) (ht : ∀ t ∈ ts, i64 t) (htn : ts.length < 2 ^ 46) (hsp : sp < 2 ^ 128) : Law Try.prog gl0 7 [Ps l, Ts ts, W sp] := by
  refine Law.of (nt := 81) (res := [.tmp 6]) Try.mixed Try.func7 rfl rfl rfl rfl fun κ xc hκ => hκ.run 300 ?_
  simp (disch := omega) only [exec_succ, runR_next, runR_call, stepS, runOp, toSR, sop, rOf, rNew, sBox, isArr, ev, evs, Env.get, cellsS, envOf, OutOK_call, Bool.false_eq_true, List.size_toArray, List.length_cons, List.length_nil, List.range, List.range.loop, List.getElem?_toArray, List.getElem?_cons_succ, List.getElem?_cons_zero, ↓reduceIte, Nat.reduceAdd, Nat.reduceLT, Nat.reduceEqDiff, Nat.zero_add, reduceCtorEq, gl0]
  refine Does.ret hκ.hP hκ.hgl (wakes_ok) ⟨trivial, by simp [SV.bnd, SV.bndL], by first | (simp [SV.bnd, SV.bndL]; done) | assumption⟩ ?_
  by_cases h100 : (100 : Int) < l.length
  · refine hκ.run 300 ?_
    simp (disch := omega) only [sBuiltin, exec_succ, runR_next, runR_fork_true, runR_fork_false, runR_guard_tf, runR_stop, stepS, runOp, guardS, condS, toSR, sop, rOf, sPick, sInt, sBin, sUn, sLen, ev, Env.get, setO, OutOK_stop, undefS, undef, List.size_toArray, List.length_cons, List.length_nil, List.length_map, List.range, List.range.loop, List.getElem?_toArray, List.getElem?_cons_succ, List.getElem?_cons_zero, Option.bind_some, ↓reduceIte, Nat.reduceAdd, Nat.reduceLT, Nat.reduceEqDiff, Nat.zero_add, Nat.add_one_ne_zero, Bool.not_true, Bool.not_false, decide_true, and_self, reduceCtorEq, gl0, Try.underlying22, h100]
    refine hκ.ret _ _ _ _ _ _ trivial rfl ?_
    rfl
  by_cases h101 : (100 : Int) < ts.length
  · refine hκ.run 300 ?_
    simp (disch := omega) only [sBuiltin, exec_succ, runR_next, runR_fork_true, runR_fork_false, runR_guard_ff, runR_stop, stepS, runOp, guardS, condS, toSR, sop, rOf, sPick, sInt, sBin, sUn, sLen, ev, Env.get, setO, OutOK_stop, undefS, undef, List.size_toArray, List.length_cons, List.length_nil, List.length_map, List.range, List.range.loop, List.getElem?_toArray, List.getElem?_cons_succ, List.getElem?_cons_zero, Option.bind_some, ↓reduceIte, Nat.reduceAdd, Nat.reduceLT, Nat.reduceEqDiff, Nat.zero_add, Nat.add_one_ne_zero, Bool.not_true, Bool.not_false, decide_true, decide_false, and_self, reduceCtorEq, gl0, Try.underlying22, Try.underlying56, h100, h101]
    refine hκ.ret _ _ _ _ _ _ trivial rfl ?_
    rfl
  have hn : l.length < 2 ^ 40 := by omega
  have e0 : decide ((ts.length : Int) = (l.length : Int)) = okT l ts 0 := by
    rw [okT, List.take_zero, List.all_nil, Bool.and_true, decide_eq_decide]; omega
  have c5 := rright_ok l hl hn
  have et : List.take l.length (List.map eP l) = List.map eP l := List.take_of_length_le (by simp)
  have et2 : List.take ts.length (List.map (eI .i64) ts) = List.map (eI .i64) ts := List.take_of_length_le (by simp)
  have c1 := Apart_ok l ts sp hl hn ht (by omega) hsp
  generalize hR : apR l ts sp = R at *
  refine hκ.runD 300 ?_
  simp (disch := omega) only [sBuiltin, runR_next, runR_fork_false, runR_guard_ff, stepS, runOp, guardS, condS, toSR, sop, rOf, sPick, sInt, sBin, sUn, sLen, ev, Env.get, setO, OutOK_stop, undefS, undef, halt, isDraw, drawC, execD_succ, List.size_toArray, List.length_cons, List.length_nil, List.length_map, List.range, List.range.loop, List.getElem?_toArray, List.getElem?_cons_succ, List.getElem?_cons_zero, Option.bind_some, ↓reduceIte, Nat.reduceAdd, Nat.reduceLT, Nat.reduceEqDiff, Nat.zero_add, Nat.add_one_ne_zero, Bool.not_true, Bool.not_false, decide_false, and_self, reduceCtorEq, gl0, Try.underlying22, Try.underlying56, h100, h101]
  apply Sat.join (α := Unit) (nx := 5) (dfs := []) (fun _ => True) (fun _ => ([(8, I R.2), (7, Bo R.1), (5, .ptr 0 0 0 0), (0, Ps l), (1, Ts ts)], [(0, .own [U (sp / 18446744073709551616), U (sp % 18446744073709551616)] 44)]))
  · intro hj
    have hj := hj () trivial
    refine hκ.draw (.q 1 (.q 4 (.q 6 (.or (.m 0 [6] (.or (.m 2 [6] (.l 3 [6] (.l 5 [6] (.l 7 [] (.q 8 (.q 9 (.q 10 (.q 11 (.q 12 (.fin)))))))))) (.m 3 [6] (.l 2 [6] (.l 5 [6] (.l 7 [] (.q 8 (.q 9 (.q 10 (.q 11 (.q 12 (.fin)))))))))))) (.m 3 [6] (.l 0 [6] (.l 2 [6] (.l 5 [6] (.l 7 [] (.q 8 (.q 9 (.q 10 (.q 11 (.q 12 (.fin))))))))))))))) [1, 4, 6, 8, 9, 10, 11, 12] (by kernel_rfl) (by kernel_rfl) rfl ?_
    simp (disch := omega) only [sBuiltin, srcS, appArgS, sAppendTo, sAppend, sop, rOf, rNew, sLoadIn, sLoad, sliceT, obind, fillS, evps, repeatL, sBuildSlice, chunk, ev, evs, svs, Env.get, Heap.get, Heap.drop, takeN, cut, aggOf, ones, idFrees, setO, drawP_q, drawP_l, dnext, dq, dqn, dl, slotR, ag, guardP, R1Q, dstOK, loudP, again, again1, slotIs, R1OK, drawP_m, drawP_or, List.take_nil, List.length_cons, List.length_nil, List.length_map, List.getElem?_toArray, List.getElem?_cons_succ, List.getElem?_cons_zero, List.map_nil, List.nil_append, ↓reduceIte, Nat.reduceAdd, Nat.reduceLT, Nat.reduceLeDiff, Nat.reduceEqDiff, Nat.zero_add, Nat.zero_mul, Nat.mul_one, Nat.add_one_ne_zero, true_and, and_self, forall_const, reduceCtorEq, gl0, Try.sz2, Try.ze2, Try.by2, Try.underlying22, Try.sz44, Try.ag44, Try.sz54, Try.ze54, Try.by54, Try.underlying56]
    repeat' (first | (refine ⟨by omega, fun _ => ?_⟩) | (refine And.intro ?_ ?_) | (refine fun (_ : Nat) => ?_))
    all_goals
      refine DCall.of (Does.lent hκ.hP hκ.hgl [2, 3, 4] [Ps l, Ts ts, W sp] c1 ⟨trivial, trivial, rfl, trivial⟩ (by simp [lendL, lendS, lendSl, Heap.get, et, et2]) (by simp [lendPL, lendP, lendSlP, Heap.get, -List.length_eq_zero_iff]; omega) (by simp [SV.bnd, SV.bndL]) ?_)
      rintro s' H' n' ⟨rfl, rfl, rfl⟩
      refine ⟨⟨by simp [SV.bnd, SV.bndL], by simp [SV.plain, SV.plainL], rfl, rfl⟩, ?_⟩
      simp (disch := omega) only [sop, rOf, sExtract, ev, Env.get, setO, drawP_fin, drawP_q, dnext, dq, dqn, guardP, R1Q, dstOK, again, List.getElem?_toArray, List.getElem?_cons_succ, List.getElem?_cons_zero, ↓reduceIte, Nat.reduceLT, Nat.reduceEqDiff, true_and]
    all_goals
      exact hj.less (by repeat' (first | exact EnvSub.nil _ | exact HeapSub.nil _ | refine EnvSub.cons rfl ?_ | refine HeapSub.cons rfl ?_ | (refine EnvSub.cons (by simp [Env.get]; done) ?_) | (refine HeapSub.cons (by simp [Heap.get]; done) ?_))) (by repeat' (first | exact EnvSub.nil _ | exact HeapSub.nil _ | refine EnvSub.cons rfl ?_ | refine HeapSub.cons rfl ?_ | (refine EnvSub.cons (by simp [Env.get]; done) ?_) | (refine HeapSub.cons (by simp [Heap.get]; done) ?_)))
  intro _ _
  cases hr : rightP l
  · rw [apR, if_neg (by rw [askE_no hr]; decide), askE_no hr] at hR
    rw [hr] at c5
    subst hR
    refine hκ.run 300 ?_
    simp (disch := omega) only [exec_succ, runR_next, runR_call, stepS, runOp, toSR, sop, rOf, ev, evs, Env.get, OutOK_call, List.size_toArray, List.length_cons, List.length_nil, List.range, List.range.loop, List.getElem?_toArray, List.getElem?_cons_succ, List.getElem?_cons_zero, ↓reduceIte, Nat.reduceAdd, Nat.reduceLT, Nat.zero_add, Nat.add_one_ne_zero, gl0]
    refine Does.ret hκ.hP hκ.hgl (c5) ⟨trivial, by simp [SV.bnd, SV.bndL], by first | (simp [SV.bnd, SV.bndL]; done) | assumption⟩ ?_
    refine hκ.run 300 ?_
    simp (disch := omega) only [exec_succ, runR_next, runR_fork_true, runR_guard_tt, runR_stop, stepS, runOp, guardS, condS, toSR, sop, rOf, sPick, sInt, sBin, sUn, ev, Env.get, setO, OutOK_stop, undefS, undef, List.size_toArray, List.length_cons, List.length_nil, List.range, List.range.loop, List.getElem?_toArray, List.getElem?_cons_succ, List.getElem?_cons_zero, Option.bind_some, ↓reduceIte, Nat.reduceAdd, Nat.reduceLT, Nat.reduceEqDiff, Nat.zero_add, Bool.not_true, Bool.not_false, decide_true, and_self, gl0]
    refine hκ.ret _ _ _ _ _ _ trivial rfl ?_
    rfl
  rw [hr] at c5
  refine hκ.run 300 ?_
  simp (disch := omega) only [exec_succ, runR_next, runR_call, stepS, runOp, toSR, sop, rOf, ev, evs, Env.get, OutOK_call, List.size_toArray, List.length_cons, List.length_nil, List.range, List.range.loop, List.getElem?_toArray, List.getElem?_cons_succ, List.getElem?_cons_zero, ↓reduceIte, Nat.reduceAdd, Nat.reduceLT, Nat.zero_add, Nat.add_one_ne_zero, gl0]
  refine Does.ret hκ.hP hκ.hgl (c5) ⟨trivial, by simp [SV.bnd, SV.bndL], by first | (simp [SV.bnd, SV.bndL]; done) | assumption⟩ ?_
  refine hκ.run 300 ?_
  simp (disch := omega) only [sBuiltin, exec_succ, runR_next, runR_fork_false, runR_stop, stepS, runOp, condS, toSR, sop, rOf, sInt, sBin, sUn, sLen, ev, Env.get, setO, OutOK_stop, List.size_toArray, List.length_cons, List.length_nil, List.length_map, List.range, List.range.loop, List.getElem?_toArray, List.getElem?_cons_succ, List.getElem?_cons_zero, ↓reduceIte, Nat.reduceAdd, Nat.reduceLT, Nat.reduceEqDiff, Nat.zero_add, Nat.add_one_ne_zero, Bool.not_true, reduceCtorEq, gl0, Try.underlying22, Try.underlying56, e0]
  refine Sat.less (Sat.loop (γ := Nat) (fun k => ([(49, I k), (48, I ts.length), (47, Ts ts), (9, Bo (okT l ts k)), (8, I R.2), (7, Bo R.1), (5, .ptr 0 0 0 0), (0, Ps l), (1, Ts ts)], [(0, .own [U (sp / 18446744073709551616), U (sp % 18446744073709551616)] 44)], 5)) (fun k => ts.length - k) (fun k => k ≤ ts.length) ?round 0 (Nat.zero_le _)) (by repeat' (first | exact EnvSub.nil _ | exact HeapSub.nil _ | refine EnvSub.cons rfl ?_ | refine HeapSub.cons rfl ?_ | (refine EnvSub.cons (by simp [Env.get]; done) ?_) | (refine HeapSub.cons (by simp [Heap.get]; done) ?_))) (by repeat' (first | exact EnvSub.nil _ | exact HeapSub.nil _ | refine EnvSub.cons rfl ?_ | refine HeapSub.cons rfl ?_ | (refine EnvSub.cons (by simp [Env.get]; done) ?_) | (refine HeapSub.cons (by simp [Heap.get]; done) ?_)))
  case round =>
    intro k hk ih
    dsimp only at ih ⊢
    refine hκ.run 300 ?_
    simp (disch := omega) only [exec_succ, runR_next, stepS, runOp, condS, toSR, sop, sInt, sBin, ev, Env.get, List.size_toArray, List.length_cons, List.length_nil, List.range, List.range.loop, List.getElem?_toArray, List.getElem?_cons_zero, ↓reduceIte, Nat.reduceLT, Nat.reduceEqDiff, Nat.zero_add, gl0]
    refine OutOK_fork (fun h => ?_) (fun h => ?_) <;> try simp only [Bool.not_true, Bool.not_false, decide_eq_true_eq, decide_eq_false_iff_not, Bool.not_eq_true', Bool.not_eq_false', Bool.and_eq_true, Bool.or_eq_false_iff, Bool.or_eq_true, Bool.and_eq_false_iff] at h
    · have hz := ih (k + 1) (by omega) (by omega)
      rw [okT_succ (by omega)] at hz
      have g1 : (List.map (eI .i64) ts).getD k [] = eI .i64 (ts.getD k default) := getD_map _ _ _ (by omega)
      generalize ts.getD k default = t at *
      simp (disch := omega) only [exec_succ, runR_next, runR_need, stepS, runOp, guardS, toSR, sop, rOf, sLoad, sIndexAddr, elemT, obind, ev, Env.get, takeN, cut, aggOf, OutOK_need, undefS, undef, List.size_toArray, List.length_cons, List.length_nil, List.length_map, List.range, List.range.loop, List.getElem?_toArray, List.getElem?_cons_succ, List.getElem?_cons_zero, Option.bind_some, ↓reduceIte, Nat.reduceAdd, Nat.reduceLT, Nat.reduceEqDiff, Nat.zero_add, Int.toNat_natCast, Bool.not_true, and_self, eI, Try.sz2, Try.ag2, Try.underlying56, g1]
      (repeat (refine ⟨by first | omega | (refine ⟨?_, ?_⟩ <;> omega) | trivial | (simp; done) | decide +kernel, fun _ => ?_⟩))
      cases hb : okT l ts k
      · rw [hb, Bool.false_and] at hz
        simp (disch := omega) only [exec_succ, runR_next, runR_guard_ft, runR_stop, stepS, runOp, guardS, toSR, sop, rOf, sPick, sInt, sBin, ev, Env.get, OutOK_stop, undefS, undef, List.size_toArray, List.length_cons, List.length_nil, List.range, List.range.loop, List.getElem?_toArray, List.getElem?_cons_succ, List.getElem?_cons_zero, Option.bind_some, ↓reduceIte, Nat.reduceAdd, Nat.reduceLT, Nat.reduceEqDiff, Nat.zero_add, Bool.not_true, and_self, wrap_i64]
        refine Sat.via (fun i => i) (hz) (by intro i j; (repeat (first | omega | split))) (by repeat' (first | exact EnvVia.nil | refine EnvVia.cons (by first | trivial | decide | (simp [SV.bnd, SV.bndL]; done)) rfl ?_)) (by repeat' (first | exact HeapVia.nil | refine HeapVia.cons (by decide) (by first | trivial | (simp [Blk.bnd, SV.bnd, SV.bndL]; done) | exact bndL_mapV _ _ _ | exact LR.bnd (by rw [l2]; simp [bndE, SV.bnd, SV.bndL]) (by rw [l6]; decide)) (by first | rfl | (simp only [Blk.ren, renL_mapV]; rfl) | (rw [LR.ren (by rw [l2] <;> rfl) (by rw [l6] <;> rfl)]; rfl)) ?_)) ⟨by have := hκ.hm; (try dsimp only at this); (first | done | omega), fun i hi => by have := hκ.hm; (try dsimp only at this); (first | omega | (dsimp only; omega) | (rw [if_neg (by omega)]))⟩ ⟨by simp, rfl⟩
      · rw [hb, Bool.true_and] at hz
        by_cases t1 : 0 ≤ t
        · rw [inI, decide_eq_true t1, Bool.true_and] at hz
          simp (disch := omega) only [exec_succ, runR_next, runR_guard_tt, runR_stop, stepS, runOp, guardS, toSR, sop, rOf, sPick, sInt, sBin, ev, Env.get, OutOK_stop, undefS, undef, List.size_toArray, List.length_cons, List.length_nil, List.range, List.range.loop, List.getElem?_toArray, List.getElem?_cons_succ, List.getElem?_cons_zero, Option.bind_some, ↓reduceIte, Nat.reduceAdd, Nat.reduceLT, Nat.reduceEqDiff, Nat.zero_add, Bool.not_true, decide_true, and_self, wrap_i64, t1]
          refine Sat.via (fun i => i) (hz) (by intro i j; (repeat (first | omega | split))) (by repeat' (first | exact EnvVia.nil | refine EnvVia.cons (by first | trivial | decide | (simp [SV.bnd, SV.bndL]; done)) rfl ?_)) (by repeat' (first | exact HeapVia.nil | refine HeapVia.cons (by decide) (by first | trivial | (simp [Blk.bnd, SV.bnd, SV.bndL]; done) | exact bndL_mapV _ _ _ | exact LR.bnd (by rw [l2]; simp [bndE, SV.bnd, SV.bndL]) (by rw [l6]; decide)) (by first | rfl | (simp only [Blk.ren, renL_mapV]; rfl) | (rw [LR.ren (by rw [l2] <;> rfl) (by rw [l6] <;> rfl)]; rfl)) ?_)) ⟨by have := hκ.hm; (try dsimp only at this); (first | done | omega), fun i hi => by have := hκ.hm; (try dsimp only at this); (first | omega | (dsimp only; omega) | (rw [if_neg (by omega)]))⟩ ⟨by simp, rfl⟩
        · rw [inI, decide_eq_false t1, Bool.false_and] at hz
          simp (disch := omega) only [exec_succ, runR_next, runR_guard_tt, runR_guard_ft, runR_stop, stepS, runOp, guardS, toSR, sop, rOf, sPick, sInt, sBin, ev, Env.get, OutOK_stop, undefS, undef, List.size_toArray, List.length_cons, List.length_nil, List.range, List.range.loop, List.getElem?_toArray, List.getElem?_cons_succ, List.getElem?_cons_zero, Option.bind_some, ↓reduceIte, Nat.reduceAdd, Nat.reduceLT, Nat.reduceEqDiff, Nat.zero_add, Bool.not_true, decide_false, and_self, wrap_i64, t1]
          refine Sat.via (fun i => i) (hz) (by intro i j; (repeat (first | omega | split))) (by repeat' (first | exact EnvVia.nil | refine EnvVia.cons (by first | trivial | decide | (simp [SV.bnd, SV.bndL]; done)) rfl ?_)) (by repeat' (first | exact HeapVia.nil | refine HeapVia.cons (by decide) (by first | trivial | (simp [Blk.bnd, SV.bnd, SV.bndL]; done) | exact bndL_mapV _ _ _ | exact LR.bnd (by rw [l2]; simp [bndE, SV.bnd, SV.bndL]) (by rw [l6]; decide)) (by first | rfl | (simp only [Blk.ren, renL_mapV]; rfl) | (rw [LR.ren (by rw [l2] <;> rfl) (by rw [l6] <;> rfl)]; rfl)) ?_)) ⟨by have := hκ.hm; (try dsimp only at this); (first | done | omega), fun i hi => by have := hκ.hm; (try dsimp only at this); (first | omega | (dsimp only; omega) | (rw [if_neg (by omega)]))⟩ ⟨by simp, rfl⟩
    · simp (disch := omega) only [exec_succ, runR_next, stepS, runOp, condS, goS, toSR, sop, rOf, sUn, ev, Env.get, exitTo, List.size_toArray, List.length_cons, List.length_nil, List.range, List.range.loop, List.getElem?_toArray, List.getElem?_cons_succ, List.getElem?_cons_zero, ↓reduceIte, Nat.reduceAdd, Nat.reduceLT, Nat.reduceEqDiff, Nat.zero_add, beq_self_eq_true]
      obtain rfl : k = ts.length := by omega
      cases hok : okT l ts ts.length
      · rw [apR, hok, if_neg (by rw [askE_arg hr]; decide), askE_arg hr] at hR
        subst hR
        simp (disch := omega) only [exec_succ, runR_next, runR_fork_true, runR_guard_tt, runR_stop, stepS, runOp, guardS, toSR, sop, rOf, sPick, sInt, sBin, sUn, ev, Env.get, OutOK_stop, undefS, undef, List.size_toArray, List.length_cons, List.length_nil, List.range, List.range.loop, List.getElem?_toArray, List.getElem?_cons_succ, List.getElem?_cons_zero, Option.bind_some, ↓reduceIte, Nat.reduceAdd, Nat.reduceLT, Nat.reduceEqDiff, Nat.zero_add, Bool.not_true, Bool.not_false, decide_true, and_self]
        refine hκ.ret _ _ _ _ _ _ trivial rfl ?_
        rfl
      · rw [apR, hok, if_pos (askE_yes hr)] at hR
        subst hR
        have c2 := rapart_ok l ts sp hr hsp hok
        simp (disch := omega) only [exec_succ, runR_next, runR_fork_false, runR_guard_tt, runR_call, stepS, runOp, guardS, toSR, sop, rOf, sLoadIn, sLoad, sInt, sBin, ev, evs, Env.get, Heap.get, takeN, cut, aggOf, OutOK_call, undefS, undef, List.size_toArray, List.length_cons, List.length_nil, List.range, List.range.loop, List.getElem?_toArray, List.getElem?_cons_succ, List.getElem?_cons_zero, Option.bind_some, ↓reduceIte, Nat.reduceAdd, Nat.reduceLT, Nat.reduceEqDiff, Nat.zero_add, Nat.add_one_ne_zero, Bool.not_true, decide_true, and_self, reduceCtorEq, Try.sz44, Try.ag44]
        refine Does.ret hκ.hP hκ.hgl (c2) ⟨trivial, by simp [SV.bnd, SV.bndL], by first | (simp [SV.bnd, SV.bndL]; done) | assumption⟩ ?_
        refine hκ.run 300 ?_
        simp (disch := omega) only [exec_succ, runR_next, runR_need, runR_guard_tt, runR_stop, stepS, runOp, guardS, toSR, sop, rOf, sPick, sEq, sEqR, sBin, ev, Env.get, setO, OutOK_need, OutOK_stop, undefS, undef, Bool.false_eq_true, List.getElem?_toArray, List.getElem?_cons_succ, List.getElem?_cons_zero, Option.bind_some, ↓reduceIte, Nat.reduceLT, Nat.reduceEqDiff, Bool.not_true, beq_self_eq_true, true_and, and_self, forall_const, gl0, Try.underlying4]
        refine hκ.ret _ _ _ _ _ _ trivial rfl ?_
        rfl
end Go.Proofs.Ytomfpciigaopiaa

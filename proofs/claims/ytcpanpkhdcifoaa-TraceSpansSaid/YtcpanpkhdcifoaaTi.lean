/- Traces: the reference's At. No condition. -/
import Derived.Test.YtcpanpkhdcifoaaTh
namespace Go.Proofs.Ytcpanpkhdcifoaa
open Go Go.Sy
set_option maxRecDepth 100000
set_option linter.unusedSimpArgs false
set_option linter.unusedVariables false

/-- Does a frame hold at a time? -/
def atB (fs : List Fr) (en now : Int) (k : Nat) : Bool := decide ((fs.getD k default).1 ≤ now) && decide (now < untilT fs en k)
/-- The frame that holds at a time; -1: none. -/
def atT (fs : List Fr) (en now : Int) : Int := (((List.range fs.length).find? (atB fs en now)).map Int.ofNat).getD (-1)
theorem atT_yes {fs : List Fr} {en now : Int} {k : Nat} (hk : k < fs.length) (h : atB fs en now k = true) (hj : ∀ j, j < k → atB fs en now j = false) : atT fs en now = k := by
  rw [atT, List.find?_range_eq_some.2 ⟨h, List.mem_range.2 hk, fun j hjk => by rw [hj j hjk]; rfl⟩]; rfl
theorem atT_no {fs : List Fr} {en now : Int} (hj : ∀ j, j < fs.length → atB fs en now j = false) : atT fs en now = -1 := by
  rw [atT, List.find?_range_eq_none.2 fun j hjk => by rw [hj j hjk]; rfl]; rfl
theorem rat_ok (fs : List Fr) (en now : Int) (hf : ∀ f ∈ fs, inFr f) (he : i64 en) (hw : i64 now) (hn : fs.length < 2 ^ 46) : Con Try.prog gl0 (fnv 24) [Tr fs en, I now] 0 [] (Ret (I (atT fs en now))) := by
  refine Con.of Try.ok24 (nt := 29) (res := [.tmp 4]) Try.mixed Try.func24 rfl rfl rfl rfl fun κ xc hκ => hκ.run 300 ?_
  simp (disch := omega) only [exec_succ, runR_next, runR_stop, stepS, runOp, toSR, sop, rOf, rNew, sBox, isArr, ev, Env.get, cellsS, envOf, OutOK_stop, Bool.false_eq_true, List.size_toArray, List.length_cons, List.length_nil, List.range, List.range.loop, List.getElem?_toArray, List.getElem?_cons_succ, List.getElem?_cons_zero, ↓reduceIte, Nat.reduceAdd, Nat.reduceLT, Nat.zero_add, Int.reduceNeg, gl0]
  refine Sat.less (Sat.loop (γ := Nat) (fun k => ([(5, I k), (2, .ptr 0 0 0 0), (1, I now)], [(0, .own [Fs fs, I en] 24)], 1)) (fun k => fs.length - k) (fun k => k ≤ fs.length ∧ ∀ j, j < k → atB fs en now j = false) ?round 0 ⟨Nat.zero_le _, fun j hj => by omega⟩) (by repeat' (first | exact EnvSub.nil _ | exact HeapSub.nil _ | refine EnvSub.cons rfl ?_ | refine HeapSub.cons rfl ?_ | (refine EnvSub.cons (by simp [Env.get]; done) ?_) | (refine HeapSub.cons (by simp [Heap.get]; done) ?_))) (by repeat' (first | exact EnvSub.nil _ | exact HeapSub.nil _ | refine EnvSub.cons rfl ?_ | refine HeapSub.cons rfl ?_ | (refine EnvSub.cons (by simp [Env.get]; done) ?_) | (refine HeapSub.cons (by simp [Heap.get]; done) ?_)))
  case round =>
    rintro k ⟨hk, hj⟩ ih
    dsimp only at hk hj ih ⊢
    refine hκ.run 300 ?_
    simp (disch := omega) only [sBuiltin, exec_succ, runR_next, stepS, runOp, condS, toSR, sop, rOf, sLoadIn, sLoad, sInt, sBin, sFieldAddr, sLen, ev, Env.get, Heap.get, takeN, cut, aggOf, List.size_toArray, List.length_cons, List.length_nil, List.length_map, List.range, List.range.loop, List.getElem?_toArray, List.getElem?_cons_succ, List.getElem?_cons_zero, ↓reduceIte, Nat.reduceAdd, Nat.reduceLT, Nat.reduceEqDiff, Nat.zero_add, Nat.add_zero, Nat.add_one_ne_zero, Int.reduceNeg, gl0, Try.underlying22, Try.sz22, Try.ag22, Try.fd24f0]
    refine OutOK_fork (fun h => ?_) (fun h => ?_) <;> try simp only [Bool.not_true, Bool.not_false, decide_eq_true_eq, decide_eq_false_iff_not, Bool.not_eq_true', Bool.not_eq_false', Bool.and_eq_true, Bool.or_eq_false_iff, Bool.or_eq_true, Bool.and_eq_false_iff] at h
    · obtain ⟨v1, -⟩ := hf _ (getD_mem (show k < fs.length by omega))
      have c1 := until_ok fs en k hf (by omega) hn
      have hz := fun (h : atB fs en now k = false) => ih (k + 1) ⟨by omega, fun j hjk => by
        by_cases e : j = k
        · rw [e]; exact h
        · exact hj j (by omega)⟩ (by omega)
      by_cases e1 : (fs.getD k default).1 ≤ now
      · simp (disch := omega) only [exec_succ, runR_next, runR_need, runR_guard_tt, runR_call, stepS, runOp, guardS, toSR, sop, rOf, sLoadIn, sLoad, sInt, sBin, sFieldAddr, sIndexAddr, elemT, obind, ev, evs, Env.get, Heap.get, takeN, cut, aggOf, OutOK_need, OutOK_call, undefS, undef, List.size_toArray, List.length_cons, List.length_nil, List.length_map, List.range, List.range.loop, List.getElem?_toArray, List.getElem?_cons_succ, List.getElem?_cons_zero, Option.bind_some, ↓reduceIte, Nat.reduceAdd, Nat.reduceLT, Nat.reduceEqDiff, Nat.zero_add, Nat.add_zero, Nat.add_one_ne_zero, Int.reduceNeg, Int.toNat_natCast, Bool.not_true, decide_true, and_self, getD_map, Try.sz2, Try.ag2, Try.underlying22, Try.sz22, Try.ag22, Try.sz24, Try.ag24, Try.fd24f0, Try.sz58, Try.fd58f0, e1, eF]
        (repeat (refine ⟨by first | omega | (refine ⟨?_, ?_⟩ <;> omega) | trivial | (simp; done) | decide +kernel, fun _ => ?_⟩))
        refine Does.ret hκ.hP hκ.hgl (c1) ⟨trivial, by simp [SV.bnd, SV.bndL], by first | (simp [SV.bnd, SV.bndL]; done) | assumption⟩ ?_
        by_cases e2 : now < untilT fs en k
        · refine hκ.run 300 ?_
          simp (disch := omega) only [exec_succ, runR_next, runR_fork_true, runR_guard_tt, runR_stop, stepS, runOp, guardS, condS, toSR, sop, rOf, sPick, sInt, sBin, ev, Env.get, setO, OutOK_stop, undefS, undef, List.size_toArray, List.length_cons, List.length_nil, List.range, List.range.loop, List.getElem?_toArray, List.getElem?_cons_succ, List.getElem?_cons_zero, Option.bind_some, ↓reduceIte, Nat.reduceAdd, Nat.reduceLT, Nat.reduceEqDiff, Nat.zero_add, Int.reduceNeg, Bool.not_true, decide_true, and_self, gl0, e2]
          refine hκ.ret _ _ _ _ _ _ trivial rfl ?_
          rw [atT_yes (by omega) (by rw [atB, decide_eq_true e1, decide_eq_true e2]; rfl) hj]
          exact .ret trivial
        · have hy := hz (by rw [atB, decide_eq_false e2, Bool.and_false])
          refine hκ.run 300 ?_
          simp (disch := omega) only [exec_succ, runR_next, runR_fork_false, runR_guard_tt, runR_stop, stepS, runOp, guardS, condS, toSR, sop, rOf, sPick, sInt, sBin, ev, Env.get, setO, OutOK_stop, undefS, undef, List.size_toArray, List.length_cons, List.length_nil, List.range, List.range.loop, List.getElem?_toArray, List.getElem?_cons_succ, List.getElem?_cons_zero, Option.bind_some, ↓reduceIte, Nat.reduceAdd, Nat.reduceLT, Nat.reduceEqDiff, Nat.zero_add, Int.reduceNeg, Bool.not_true, decide_false, and_self, wrap_i64, gl0, e2]
          exact hy.less (by repeat' (first | exact EnvSub.nil _ | exact HeapSub.nil _ | refine EnvSub.cons rfl ?_ | refine HeapSub.cons rfl ?_ | (refine EnvSub.cons (by simp [Env.get]; done) ?_) | (refine HeapSub.cons (by simp [Heap.get]; done) ?_))) (by repeat' (first | exact EnvSub.nil _ | exact HeapSub.nil _ | refine EnvSub.cons rfl ?_ | refine HeapSub.cons rfl ?_ | (refine EnvSub.cons (by simp [Env.get]; done) ?_) | (refine HeapSub.cons (by simp [Heap.get]; done) ?_)))
      · have hy := hz (by rw [atB, decide_eq_false e1, Bool.false_and])
        simp (disch := omega) only [exec_succ, runR_next, runR_need, runR_fork_false, runR_guard_ft, runR_stop, stepS, runOp, guardS, condS, toSR, sop, rOf, sPick, sLoadIn, sLoad, sInt, sBin, sFieldAddr, sIndexAddr, elemT, obind, ev, evs, Env.get, Heap.get, takeN, cut, aggOf, OutOK_need, OutOK_stop, undefS, undef, List.size_toArray, List.length_cons, List.length_nil, List.length_map, List.range, List.range.loop, List.getElem?_toArray, List.getElem?_cons_succ, List.getElem?_cons_zero, Option.bind_some, ↓reduceIte, Nat.reduceAdd, Nat.reduceLT, Nat.reduceEqDiff, Nat.zero_add, Nat.add_zero, Nat.add_one_ne_zero, Int.reduceNeg, Int.toNat_natCast, Bool.not_true, decide_false, and_self, getD_map, wrap_i64, Try.sz2, Try.ag2, Try.underlying22, Try.sz22, Try.ag22, Try.sz24, Try.ag24, Try.fd24f0, Try.sz58, Try.fd58f0, e1, eF]
        (repeat (refine ⟨by first | omega | (refine ⟨?_, ?_⟩ <;> omega) | trivial | (simp; done) | decide +kernel, fun _ => ?_⟩))
        exact hy.less (by repeat' (first | exact EnvSub.nil _ | exact HeapSub.nil _ | refine EnvSub.cons rfl ?_ | refine HeapSub.cons rfl ?_ | (refine EnvSub.cons (by simp [Env.get]; done) ?_) | (refine HeapSub.cons (by simp [Heap.get]; done) ?_))) (by repeat' (first | exact EnvSub.nil _ | exact HeapSub.nil _ | refine EnvSub.cons rfl ?_ | refine HeapSub.cons rfl ?_ | (refine EnvSub.cons (by simp [Env.get]; done) ?_) | (refine HeapSub.cons (by simp [Heap.get]; done) ?_)))
    · simp (disch := omega) only [exec_succ, runR_next, runR_stop, stepS, runOp, goS, toSR, sop, rOf, ev, exitTo, OutOK_stop, List.size_toArray, List.length_cons, List.length_nil, List.range, List.range.loop, List.getElem?_toArray, List.getElem?_cons_zero, ↓reduceIte, Nat.reduceLT, Nat.zero_add, Int.reduceNeg, beq_self_eq_true]
      obtain rfl : k = fs.length := by omega
      refine hκ.run 300 ?_
      simp (disch := omega) only [exec_succ, runR_stop, stepS, OutOK_stop, Int.reduceNeg, gl0]
      refine hκ.ret _ _ _ _ _ _ trivial rfl ?_
      rw [atT_no hj]
      exact .ret trivial
end Go.Proofs.Ytcpanpkhdcifoaa

/- Walks of the reference's words on pools; short. No condition. -/
import Derived.Test.YtfhiaddbpacgeaaOc
import Derived.Test.YtfhiaddbpacgeaaSyZ
namespace Go.Proofs.Ytfhiaddbpacgeaa
open Go Go.Sy
set_option maxRecDepth 100000
set_option linter.unusedSimpArgs false
set_option linter.unusedVariables false

theorem rof_ok (xs : List Nat) (c : Int) (hn : xs.length < 2 ^ 46) : Con Try.prog gl0 (fnv 21) [Po xs, I c] 0 [] (Ret (.tup [I (rofV xs c).1, Bo (rofV xs c).2])) := by
  refine Con.of Try.ok21 (nt := 28) (res := [.tmp 4, .tmp 5]) Try.mixed Try.func21 rfl rfl rfl rfl fun κ xc hκ => hκ.run 300 ?_
  simp (disch := omega) only [sBuiltin, exec_succ, runR_next, runR_stop, stepS, runOp, toSR, sop, rOf, rNew, sBox, isArr, sLoadIn, sLoad, sFieldAddr, sLen, ev, Env.get, Heap.get, takeN, cut, aggOf, cellsS, envOf, OutOK_stop, Bool.false_eq_true, List.size_toArray, List.length_cons, List.length_nil, List.length_map, List.range, List.range.loop, List.getElem?_toArray, List.getElem?_cons_succ, List.getElem?_cons_zero, ↓reduceIte, Nat.reduceAdd, Nat.reduceLT, Nat.reduceEqDiff, Nat.zero_add, Nat.add_zero, Nat.add_one_ne_zero, gl0, Try.underlying24, Try.sz24, Try.ag24, Try.fd26f0]
  refine Sat.less (Sat.loop (γ := Nat) (fun k => ([(13, I k), (12, I xs.length), (11, .rd 1 (xs.map eS)), (6, I (rofS xs c k).1), (7, I (rofS xs c k).2), (1, I c)], [], 1)) (fun k => xs.length - k) (fun k => k ≤ xs.length) ?round 0 (Nat.zero_le _)) (by repeat' (first | exact EnvSub.nil _ | exact HeapSub.nil _ | refine EnvSub.cons rfl ?_ | refine HeapSub.cons rfl ?_ | (refine EnvSub.cons (by simp [Env.get]; done) ?_) | (refine HeapSub.cons (by simp [Heap.get]; done) ?_))) (by repeat' (first | exact EnvSub.nil _ | exact HeapSub.nil _ | refine EnvSub.cons rfl ?_ | refine HeapSub.cons rfl ?_ | (refine EnvSub.cons (by simp [Env.get]; done) ?_) | (refine HeapSub.cons (by simp [Heap.get]; done) ?_)))
  case round =>
    intro k hk ih
    dsimp only at hk ih ⊢
    have hle := rofS_le xs c k
    refine hκ.run 300 ?_
    simp (disch := omega) only [exec_succ, runR_next, stepS, runOp, condS, toSR, sop, sInt, sBin, ev, Env.get, List.size_toArray, List.length_cons, List.length_nil, List.range, List.range.loop, List.getElem?_toArray, List.getElem?_cons_zero, ↓reduceIte, Nat.reduceLT, Nat.reduceEqDiff, Nat.zero_add, gl0]
    refine OutOK_fork (fun h => ?_) (fun h => ?_) <;> try simp only [Bool.not_true, Bool.not_false, decide_eq_true_eq, decide_eq_false_iff_not, Bool.not_eq_true', Bool.not_eq_false', Bool.and_eq_true, Bool.or_eq_false_iff, Bool.or_eq_true, Bool.and_eq_false_iff] at h
    · have hz := ih (k + 1) (by omega) (by omega)
      rw [rofS] at hz
      simp (disch := omega) only [exec_succ, runR_next, runR_need, runR_call, stepS, runOp, toSR, sop, rOf, sLoad, sIndexAddr, elemT, obind, ev, evs, Env.get, takeN, cut, aggOf, OutOK_need, OutOK_call, List.size_toArray, List.length_cons, List.length_nil, List.length_map, List.range, List.range.loop, List.getElem?_toArray, List.getElem?_cons_succ, List.getElem?_cons_zero, ↓reduceIte, Nat.reduceAdd, Nat.reduceLT, Nat.reduceEqDiff, Nat.zero_add, Int.toNat_natCast, getD_map, Try.underlying24, Try.sz31, Try.ag31, eS]
      (repeat (refine ⟨by first | omega | (refine ⟨?_, ?_⟩ <;> omega) | trivial | (simp; done) | decide +kernel, fun _ => ?_⟩))
      refine Does.ret hκ.hP hκ.hgl (rhas_ok (xs.getD k default) c) ⟨trivial, by simp [SV.bnd, SV.bndL], by first | (simp [SV.bnd, SV.bndL]; done) | assumption⟩ ?_
      cases hb : hasB (xs.getD k default) c
      · rw [getD_def] at hb
        rw [if_neg (by rw [hb]; simp)] at hz
        refine hκ.run 300 ?_
        simp (disch := omega) only [exec_succ, runR_next, runR_fork_false, runR_stop, stepS, runOp, condS, toSR, sop, rOf, sInt, sBin, ev, Env.get, setO, OutOK_stop, List.size_toArray, List.length_cons, List.length_nil, List.range, List.range.loop, List.getElem?_toArray, List.getElem?_cons_succ, List.getElem?_cons_zero, ↓reduceIte, Nat.reduceAdd, Nat.reduceLT, Nat.reduceEqDiff, Nat.zero_add, wrap_i64, gl0]
        exact hz.less (by repeat' (first | exact EnvSub.nil _ | exact HeapSub.nil _ | refine EnvSub.cons rfl ?_ | refine HeapSub.cons rfl ?_ | (refine EnvSub.cons (by simp [Env.get]; done) ?_) | (refine HeapSub.cons (by simp [Heap.get]; done) ?_))) (by repeat' (first | exact EnvSub.nil _ | exact HeapSub.nil _ | refine EnvSub.cons rfl ?_ | refine HeapSub.cons rfl ?_ | (refine EnvSub.cons (by simp [Env.get]; done) ?_) | (refine HeapSub.cons (by simp [Heap.get]; done) ?_)))
      · rw [getD_def] at hb
        rw [if_pos hb] at hz
        refine hκ.run 300 ?_
        simp (disch := omega) only [exec_succ, runR_next, runR_fork_true, runR_stop, stepS, runOp, condS, toSR, sop, rOf, sInt, sBin, ev, Env.get, setO, OutOK_stop, List.size_toArray, List.length_cons, List.length_nil, List.range, List.range.loop, List.getElem?_toArray, List.getElem?_cons_succ, List.getElem?_cons_zero, ↓reduceIte, Nat.reduceAdd, Nat.reduceLT, Nat.reduceEqDiff, Nat.zero_add, wrap_i64, gl0]
        exact hz.less (by repeat' (first | exact EnvSub.nil _ | exact HeapSub.nil _ | refine EnvSub.cons rfl ?_ | refine HeapSub.cons rfl ?_ | (refine EnvSub.cons (by simp [Env.get]; done) ?_) | (refine HeapSub.cons (by simp [Heap.get]; done) ?_))) (by repeat' (first | exact EnvSub.nil _ | exact HeapSub.nil _ | refine EnvSub.cons rfl ?_ | refine HeapSub.cons rfl ?_ | (refine EnvSub.cons (by simp [Env.get]; done) ?_) | (refine HeapSub.cons (by simp [Heap.get]; done) ?_)))
    · obtain rfl : k = xs.length := by omega
      by_cases h1 : (rofS xs c xs.length).2 = 1
      · have e1 : (((rofS xs c xs.length).2 : Int) = 1) = True := by simp only [eq_iff_iff, iff_true]; omega
        simp (disch := omega) only [exec_succ, runR_next, runR_fork_false, runR_stop, stepS, runOp, condS, goS, toSR, sop, rOf, sInt, sBin, ev, Env.get, exitTo, OutOK_stop, List.size_toArray, List.length_cons, List.length_nil, List.range, List.range.loop, List.getElem?_toArray, List.getElem?_cons_succ, List.getElem?_cons_zero, ↓reduceIte, Nat.reduceAdd, Nat.reduceLT, Nat.reduceEqDiff, Nat.zero_add, Bool.not_true, decide_true, beq_self_eq_true, e1]
        refine hκ.ret _ _ _ _ _ _ trivial rfl ?_
        rw [rofV, if_pos h1]
        exact .ret (by simp [SV.bnd, SV.bndL])
      · have e1 : (((rofS xs c xs.length).2 : Int) = 1) = False := by simp only [eq_iff_iff, iff_false]; omega
        simp (disch := omega) only [exec_succ, runR_next, runR_fork_true, runR_stop, stepS, runOp, condS, goS, toSR, sop, rOf, sInt, sBin, ev, Env.get, exitTo, OutOK_stop, List.size_toArray, List.length_cons, List.length_nil, List.range, List.range.loop, List.getElem?_toArray, List.getElem?_cons_succ, List.getElem?_cons_zero, ↓reduceIte, Nat.reduceAdd, Nat.reduceLT, Nat.reduceEqDiff, Nat.zero_add, Bool.not_false, decide_false, beq_self_eq_true, e1]
        refine hκ.ret _ _ _ _ _ _ trivial rfl ?_
        rw [rofV, if_neg h1]
        exact .ret (by simp [SV.bnd, SV.bndL])
theorem totP_le (xs : List Nat) : totP xs ≤ 8 * xs.length := by
  refine snoc_ind (p := fun xs => totP xs ≤ 8 * xs.length) (by simp [totP]) (fun l s ih => ?_) xs
  have := bits_len s
  rw [totP_snoc, List.length_append, List.length_singleton]
  omega
theorem rofV_one {xs : List Nat} {c : Int} : (rofV xs c).2 = decide (cntH xs c = 1) := by
  have := rofS_cnt xs c xs.length (Nat.le_refl _)
  rw [List.take_length] at this
  rw [rofV, this]
  split <;> simp_all
theorem rpright_ok (xs : List Nat) (hn : xs.length < 2 ^ 46) : Con Try.prog gl0 (fnv 16) [Po xs] 0 [] (Ret (Bo (okP xs))) := by
  rw [← right_ok]
  refine Con.of Try.ok16 (nt := 52) (res := [.tmp 2]) Try.mixed Try.func16 rfl rfl rfl rfl fun κ xc hκ => hκ.run 300 ?_
  simp (disch := omega) only [sBuiltin, exec_succ, runR_next, stepS, runOp, guardS, toSR, sop, rOf, rNew, sBox, isArr, sLoadIn, sLoad, sInt, sBin, sFieldAddr, sLen, ev, Env.get, Heap.get, takeN, cut, aggOf, cellsS, envOf, undefS, undef, Bool.false_eq_true, List.size_toArray, List.length_cons, List.length_nil, List.length_map, List.range, List.range.loop, List.getElem?_toArray, List.getElem?_cons_succ, List.getElem?_cons_zero, Option.bind_some, ↓reduceIte, Nat.reduceAdd, Nat.reduceLT, Nat.reduceEqDiff, Nat.zero_add, Nat.add_zero, Nat.add_one_ne_zero, Bool.not_false, and_self, gl0, Try.underlying24, Try.sz24, Try.ag24, Try.fd26f0]
  by_cases h1 : xs.length < 1
  · have e1 : ((xs.length : Int) < 1) = True := by simp only [eq_iff_iff, iff_true]; omega
    simp (disch := omega) only [sBuiltin, exec_succ, runR_next, runR_fork_true, runR_guard_tf, runR_stop, stepS, runOp, guardS, condS, toSR, sop, rOf, sPick, sLoad, sBin, sLen, ev, Env.get, OutOK_stop, undefS, undef, List.size_toArray, List.length_cons, List.length_nil, List.range, List.range.loop, List.getElem?_toArray, List.getElem?_cons_succ, List.getElem?_cons_zero, Option.bind_some, ↓reduceIte, Nat.reduceLT, Nat.reduceEqDiff, Nat.zero_add, Bool.not_false, decide_true, and_self, e1]
    refine hκ.ret _ _ _ _ _ _ trivial rfl ?_
    rw [rightP, decide_eq_false (by omega)]
    exact .ret trivial
  have e1 : ((xs.length : Int) < 1) = False := by simp only [eq_iff_iff, iff_false]; omega
  by_cases h2 : 4 < xs.length
  · have e2 : ((4 : Int) < xs.length) = True := by simp only [eq_iff_iff, iff_true]; omega
    simp (disch := omega) only [sBuiltin, exec_succ, runR_next, runR_fork_true, runR_guard_ff, runR_stop, stepS, runOp, guardS, condS, toSR, sop, rOf, sPick, sLoadIn, sLoad, sInt, sBin, sLen, ev, Env.get, Heap.get, takeN, cut, aggOf, OutOK_stop, undefS, undef, List.size_toArray, List.length_cons, List.length_nil, List.length_map, List.range, List.range.loop, List.getElem?_toArray, List.getElem?_cons_succ, List.getElem?_cons_zero, Option.bind_some, ↓reduceIte, Nat.reduceLT, Nat.reduceEqDiff, Nat.zero_add, Bool.not_false, decide_true, decide_false, and_self, Try.underlying24, Try.sz24, Try.ag24, e1, e2]
    refine hκ.ret _ _ _ _ _ _ trivial rfl ?_
    rw [rightP, decide_eq_false (by omega)]
    exact .ret trivial
  have e2 : ((4 : Int) < xs.length) = False := by simp only [eq_iff_iff, iff_false]; omega
  have hR : rightP xs = (xs.all (fun s => decide (s < 256) && decide (s ≠ 0)) && (List.range (totP xs)).all (fun c => decide (cntH xs c = 1))) := by
    rw [rightP, decide_eq_true (show 1 ≤ xs.length ∧ xs.length ≤ 4 by omega), Bool.true_and]
  simp (disch := omega) only [sBuiltin, exec_succ, runR_next, runR_fork_false, runR_guard_ff, runR_stop, stepS, runOp, guardS, condS, toSR, sop, rOf, sPick, sLoadIn, sLoad, sInt, sBin, sFieldAddr, sLen, ev, Env.get, Heap.get, takeN, cut, aggOf, OutOK_stop, undefS, undef, List.size_toArray, List.length_cons, List.length_nil, List.length_map, List.range, List.range.loop, List.getElem?_toArray, List.getElem?_cons_succ, List.getElem?_cons_zero, Option.bind_some, ↓reduceIte, Nat.reduceAdd, Nat.reduceLT, Nat.reduceEqDiff, Nat.zero_add, Nat.add_zero, Nat.add_one_ne_zero, Bool.not_false, decide_false, and_self, Try.underlying24, Try.sz24, Try.ag24, Try.fd26f0, e1, e2]
  refine Sat.less (Sat.loop (γ := Nat) (fun k => ([(22, I k), (21, I xs.length), (20, .rd 1 (xs.map eS)), (3, I (totP (xs.take k))), (1, .ptr 0 0 0 0)], [(0, .own [.rd 1 (xs.map eS)] 26)], 1)) (fun k => xs.length - k)
    (fun k => k ≤ xs.length ∧ (xs.take k).all (fun s => decide (s < 256) && decide (s ≠ 0)) = true) ?round 0 ⟨Nat.zero_le _, by simp⟩) (by repeat' (first | exact EnvSub.nil _ | exact HeapSub.nil _ | refine EnvSub.cons rfl ?_ | refine HeapSub.cons rfl ?_ | (refine EnvSub.cons (by simp [Env.get]; done) ?_) | (refine HeapSub.cons (by simp [Heap.get]; done) ?_))) (by repeat' (first | exact EnvSub.nil _ | exact HeapSub.nil _ | refine EnvSub.cons rfl ?_ | refine HeapSub.cons rfl ?_ | (refine EnvSub.cons (by simp [Env.get]; done) ?_) | (refine HeapSub.cons (by simp [Heap.get]; done) ?_)))
  case round =>
    rintro k ⟨hk, ha⟩ ih
    dsimp only at hk ha ih ⊢
    have hle := totP_le (xs.take k)
    have hlt : (xs.take k).length ≤ 4 := by simp; omega
    refine hκ.run 300 ?_
    simp (disch := omega) only [exec_succ, runR_next, stepS, runOp, condS, toSR, sop, sInt, sBin, ev, Env.get, List.size_toArray, List.length_cons, List.length_nil, List.range, List.range.loop, List.getElem?_toArray, List.getElem?_cons_zero, ↓reduceIte, Nat.reduceLT, Nat.reduceEqDiff, Nat.zero_add, gl0]
    refine OutOK_fork (fun h => ?_) (fun h => ?_) <;> try simp only [Bool.not_true, Bool.not_false, decide_eq_true_eq, decide_eq_false_iff_not, Bool.not_eq_true', Bool.not_eq_false', Bool.and_eq_true, Bool.or_eq_false_iff, Bool.or_eq_true, Bool.and_eq_false_iff] at h
    · have ht := take_getD (show k < xs.length by omega)
      have hd : xs.take k ++ xs.drop k = xs := List.take_append_drop k xs
      rw [drop_getD (show k < xs.length by omega)] at hd
      have hno : (decide (xs.getD k default < 256) && decide (xs.getD k default ≠ 0)) = false → xs.all (fun s => decide (s < 256) && decide (s ≠ 0)) = false := fun h => by
        rw [← hd, List.all_append, List.all_cons, h]; simp
      have hz := fun (h : xs.getD k default < 256 ∧ xs.getD k default ≠ 0) => ih (k + 1) ⟨by omega, by rw [ht, List.all_append, ha, List.all_cons, decide_eq_true h.1, decide_eq_true h.2]; rfl⟩ (by omega)
      rw [ht, totP_snoc] at hz
      have hbl := bits_len (xs.getD k default)
      simp (disch := omega) only [exec_succ, runR_next, runR_need, runR_call, stepS, runOp, toSR, sop, rOf, sLoad, sIndexAddr, elemT, obind, ev, evs, Env.get, takeN, cut, aggOf, OutOK_need, OutOK_call, List.size_toArray, List.length_cons, List.length_nil, List.length_map, List.range, List.range.loop, List.getElem?_toArray, List.getElem?_cons_succ, List.getElem?_cons_zero, ↓reduceIte, Nat.reduceAdd, Nat.reduceLT, Nat.reduceEqDiff, Nat.zero_add, Int.toNat_natCast, getD_map, Try.underlying24, Try.sz31, Try.ag31, eS]
      (repeat (refine ⟨by first | omega | (refine ⟨?_, ?_⟩ <;> omega) | trivial | (simp; done) | decide +kernel, fun _ => ?_⟩))
      generalize xs.getD k default = s at hno hz hbl ⊢
      refine Does.ret hκ.hP hκ.hgl (rright_ok s) ⟨trivial, by simp [SV.bnd, SV.bndL], by first | (simp [SV.bnd, SV.bndL]; done) | assumption⟩ ?_
      by_cases g1 : s < 256
      · rw [decide_eq_true g1]
        by_cases g2 : s = 0
        · have e3 : ((s : Int) = 0) = True := by simp only [eq_iff_iff, iff_true]; omega
          refine hκ.run 300 ?_
          simp (disch := omega) only [exec_succ, runR_next, runR_fork_true, runR_guard_ff, runR_stop, stepS, runOp, guardS, condS, toSR, sop, rOf, sPick, sInt, sBin, sUn, ev, Env.get, setO, OutOK_stop, undefS, undef, List.size_toArray, List.length_cons, List.length_nil, List.range, List.range.loop, List.getElem?_toArray, List.getElem?_cons_succ, List.getElem?_cons_zero, Option.bind_some, ↓reduceIte, Nat.reduceLT, Nat.reduceEqDiff, Nat.zero_add, Bool.not_true, Bool.not_false, decide_true, and_self, gl0, e3]
          refine hκ.ret _ _ _ _ _ _ trivial rfl ?_
          rw [hR, hno (by simp [g2]), Bool.false_and]
          exact .ret trivial
        · have e3 : ((s : Int) = 0) = False := by simp only [eq_iff_iff, iff_false]; omega
          refine hκ.run 300 ?_
          simp (disch := omega) only [exec_succ, runR_next, runR_fork_false, runR_guard_ff, runR_call, stepS, runOp, guardS, condS, toSR, sop, rOf, sPick, sInt, sBin, sUn, ev, evs, Env.get, setO, OutOK_call, undefS, undef, List.size_toArray, List.length_cons, List.length_nil, List.range, List.range.loop, List.getElem?_toArray, List.getElem?_cons_succ, List.getElem?_cons_zero, Option.bind_some, ↓reduceIte, Nat.reduceAdd, Nat.reduceLT, Nat.reduceEqDiff, Nat.zero_add, Bool.not_true, Bool.not_false, decide_false, and_self, gl0, e3]
          refine Does.ret hκ.hP hκ.hgl ((rlist_ok s).toRd) ⟨trivial, by simp [SV.bnd, SV.bndL], by first | (simp [SV.bnd, SV.bndL]; done) | assumption⟩ ?_
          refine hκ.run 300 ?_
          simp (disch := omega) only [sBuiltin, exec_succ, runR_next, runR_stop, stepS, runOp, toSR, sop, rOf, sInt, sBin, sLen, ev, Env.get, setO, OutOK_stop, List.size_toArray, List.length_cons, List.length_nil, List.length_map, List.range, List.range.loop, List.getElem?_toArray, List.getElem?_cons_succ, List.getElem?_cons_zero, ↓reduceIte, Nat.reduceAdd, Nat.reduceLT, Nat.reduceEqDiff, Nat.zero_add, wrap_i64, gl0, Try.underlying22]
          exact (hz ⟨g1, g2⟩).less (by repeat' (first | exact EnvSub.nil _ | exact HeapSub.nil _ | refine EnvSub.cons rfl ?_ | refine HeapSub.cons rfl ?_ | (refine EnvSub.cons (by simp [Env.get]; done) ?_) | (refine HeapSub.cons (by simp [Heap.get]; done) ?_))) (by repeat' (first | exact EnvSub.nil _ | exact HeapSub.nil _ | refine EnvSub.cons rfl ?_ | refine HeapSub.cons rfl ?_ | (refine EnvSub.cons (by simp [Env.get]; done) ?_) | (refine HeapSub.cons (by simp [Heap.get]; done) ?_)))
      · rw [decide_eq_false g1]
        refine hκ.run 300 ?_
        simp (disch := omega) only [exec_succ, runR_next, runR_fork_true, runR_guard_tf, runR_stop, stepS, runOp, guardS, condS, toSR, sop, rOf, sPick, sEq, sEqR, sBin, sUn, ev, Env.get, setO, OutOK_stop, undefS, undef, List.size_toArray, List.length_cons, List.length_nil, List.range, List.range.loop, List.getElem?_toArray, List.getElem?_cons_succ, List.getElem?_cons_zero, Option.bind_some, ↓reduceIte, Nat.reduceLT, Nat.reduceEqDiff, Nat.zero_add, Bool.not_false, and_self, gl0]
        refine hκ.ret _ _ _ _ _ _ trivial rfl ?_
        rw [hR, hno (by simp [g1]), Bool.false_and]
        exact .ret trivial
    · obtain rfl : k = xs.length := by omega
      rw [List.take_length] at ha hle ⊢
      rw [ha, Bool.true_and] at hR
      simp (disch := omega) only [exec_succ, runR_next, runR_stop, stepS, runOp, goS, toSR, sop, rOf, ev, Env.get, exitTo, OutOK_stop, List.size_toArray, List.length_cons, List.length_nil, List.range, List.range.loop, List.getElem?_toArray, List.getElem?_cons_succ, List.getElem?_cons_zero, ↓reduceIte, Nat.reduceAdd, Nat.reduceLT, Nat.reduceEqDiff, Nat.zero_add, beq_self_eq_true]
      refine Sat.less (Sat.loop (γ := Nat) (fun k => ([(40, I k), (39, I (totP xs)), (1, .ptr 0 0 0 0)], [(0, .own [.rd 1 (xs.map eS)] 26)], 1)) (fun k => totP xs - k)
        (fun k => k ≤ totP xs ∧ ∀ c : Nat, c < k → cntH xs c = 1) ?round2 0 ⟨Nat.zero_le _, fun c hc => by omega⟩) (by repeat' (first | exact EnvSub.nil _ | exact HeapSub.nil _ | refine EnvSub.cons rfl ?_ | refine HeapSub.cons rfl ?_ | (refine EnvSub.cons (by simp [Env.get]; done) ?_) | (refine HeapSub.cons (by simp [Heap.get]; done) ?_))) (by repeat' (first | exact EnvSub.nil _ | exact HeapSub.nil _ | refine EnvSub.cons rfl ?_ | refine HeapSub.cons rfl ?_ | (refine EnvSub.cons (by simp [Env.get]; done) ?_) | (refine HeapSub.cons (by simp [Heap.get]; done) ?_)))
      case round2 =>
        rintro k ⟨hk, hc⟩ ih
        dsimp only at hk hc ih ⊢
        refine hκ.run 300 ?_
        simp (disch := omega) only [exec_succ, runR_next, stepS, runOp, condS, toSR, sop, sInt, sBin, ev, Env.get, List.size_toArray, List.length_cons, List.length_nil, List.range, List.range.loop, List.getElem?_toArray, List.getElem?_cons_zero, ↓reduceIte, Nat.reduceLT, Nat.reduceEqDiff, Nat.zero_add, gl0]
        refine OutOK_fork (fun h => ?_) (fun h => ?_) <;> try simp only [Bool.not_true, Bool.not_false, decide_eq_true_eq, decide_eq_false_iff_not, Bool.not_eq_true', Bool.not_eq_false', Bool.and_eq_true, Bool.or_eq_false_iff, Bool.or_eq_true, Bool.and_eq_false_iff] at h
        · simp (disch := omega) only [exec_succ, runR_next, runR_call, stepS, runOp, toSR, sop, rOf, sLoadIn, sLoad, ev, evs, Env.get, Heap.get, takeN, cut, aggOf, OutOK_call, List.size_toArray, List.length_cons, List.length_nil, List.range, List.range.loop, List.getElem?_toArray, List.getElem?_cons_succ, List.getElem?_cons_zero, ↓reduceIte, Nat.reduceAdd, Nat.reduceLT, Nat.reduceEqDiff, Nat.zero_add, Try.sz26, Try.ag26]
          refine Does.ret hκ.hP hκ.hgl (rof_ok xs k hn) ⟨trivial, by simp [SV.bnd, SV.bndL], by first | (simp [SV.bnd, SV.bndL]; done) | assumption⟩ ?_
          rw [rofV_one]
          by_cases g : cntH xs k = 1
          · rw [decide_eq_true g]
            refine hκ.run 300 ?_
            simp (disch := omega) only [exec_succ, runR_next, runR_fork_false, runR_stop, stepS, runOp, condS, toSR, sop, rOf, sInt, sBin, sUn, sExtract, ev, Env.get, setO, OutOK_stop, List.size_toArray, List.length_cons, List.length_nil, List.range, List.range.loop, List.getElem?_toArray, List.getElem?_cons_succ, List.getElem?_cons_zero, ↓reduceIte, Nat.reduceAdd, Nat.reduceLT, Nat.reduceEqDiff, Nat.zero_add, Bool.not_true, wrap_i64, gl0]
            refine (ih (k + 1) ⟨by omega, fun c h => ?_⟩ (by omega)).less (by repeat' (first | exact EnvSub.nil _ | exact HeapSub.nil _ | refine EnvSub.cons rfl ?_ | refine HeapSub.cons rfl ?_ | (refine EnvSub.cons (by simp [Env.get]; done) ?_) | (refine HeapSub.cons (by simp [Heap.get]; done) ?_))) (by repeat' (first | exact EnvSub.nil _ | exact HeapSub.nil _ | refine EnvSub.cons rfl ?_ | refine HeapSub.cons rfl ?_ | (refine EnvSub.cons (by simp [Env.get]; done) ?_) | (refine HeapSub.cons (by simp [Heap.get]; done) ?_)))
            by_cases e : c = k
            · rw [e]; exact g
            · exact hc c (by omega)
          · rw [decide_eq_false g]
            refine hκ.run 300 ?_
            simp (disch := omega) only [exec_succ, runR_next, runR_fork_true, runR_stop, stepS, runOp, condS, toSR, sop, rOf, sUn, sExtract, ev, Env.get, setO, OutOK_stop, List.size_toArray, List.length_cons, List.length_nil, List.range, List.range.loop, List.getElem?_toArray, List.getElem?_cons_succ, List.getElem?_cons_zero, ↓reduceIte, Nat.reduceAdd, Nat.reduceLT, Nat.reduceEqDiff, Nat.zero_add, Bool.not_false, gl0]
            refine hκ.ret _ _ _ _ _ _ trivial rfl ?_
            have : (List.range (totP xs)).all (fun c : Nat => decide (cntH xs c = 1)) = false := by
              rw [List.all_eq_false]
              exact ⟨k, List.mem_range.2 (by omega), by simpa using g⟩
            rw [hR, this]
            exact .ret trivial
        · obtain rfl : k = totP xs := by omega
          have : (List.range (totP xs)).all (fun c : Nat => decide (cntH xs c = 1)) = true := by
            rw [List.all_eq_true]
            intro c h
            exact decide_eq_true (hc c (List.mem_range.1 h))
          simp (disch := omega) only [exec_succ, runR_next, runR_stop, stepS, runOp, goS, toSR, sop, rOf, ev, exitTo, OutOK_stop, List.size_toArray, List.length_cons, List.length_nil, List.range, List.range.loop, List.getElem?_toArray, List.getElem?_cons_zero, ↓reduceIte, Nat.reduceLT, Nat.zero_add, beq_self_eq_true]
          refine hκ.ret _ _ _ _ _ _ trivial rfl ?_
          rw [hR, this]
          exact .ret trivial
theorem rpool_ok (xs : List Nat) (n : Int) : Con Try.prog gl0 (fnv 22) [Po xs, I n] 0 [] (Ret (Bo (inR xs n))) := by
  refine Con.of Try.ok22 (nt := 14) (res := [.tmp 4]) Try.mixed Try.func22 rfl rfl rfl rfl fun κ xc hκ => hκ.run 300 ?_
  simp (disch := omega) only [exec_succ, runR_next, stepS, runOp, guardS, toSR, sop, rOf, rNew, sBox, isArr, sInt, sBin, ev, Env.get, cellsS, envOf, undefS, undef, Bool.false_eq_true, List.size_toArray, List.length_cons, List.length_nil, List.range, List.range.loop, List.getElem?_toArray, List.getElem?_cons_succ, List.getElem?_cons_zero, Option.bind_some, ↓reduceIte, Nat.reduceAdd, Nat.reduceLT, Nat.reduceEqDiff, Nat.zero_add, Bool.not_true, and_self, reduceCtorEq, gl0]
  by_cases h1 : 0 ≤ n
  · have e1 : (0 ≤ n) = True := by simp only [h1]
    simp (disch := omega) only [sBuiltin, exec_succ, runR_next, runR_guard_tt, runR_stop, stepS, runOp, guardS, toSR, sop, rOf, sPick, sLoadIn, sLoad, sInt, sBin, sFieldAddr, sLen, ev, Env.get, Heap.get, takeN, cut, aggOf, OutOK_stop, undefS, undef, List.length_map, List.getElem?_toArray, List.getElem?_cons_succ, List.getElem?_cons_zero, Option.bind_some, ↓reduceIte, Nat.reduceLT, Nat.reduceEqDiff, Nat.add_zero, Nat.add_one_ne_zero, Bool.not_true, decide_true, and_self, Try.underlying24, Try.sz24, Try.ag24, Try.fd26f0, e1]
    refine hκ.ret _ _ _ _ _ _ trivial rfl ?_
    have : inR xs n = decide (n < xs.length) := by simp [inR, h1]
    rw [this]
    exact .ret trivial
  · have e1 : (0 ≤ n) = False := by simp only [h1]
    simp (disch := omega) only [sBuiltin, exec_succ, runR_next, runR_guard_ft, runR_stop, stepS, runOp, guardS, toSR, sop, rOf, sPick, sLoad, sBin, sFieldAddr, sLen, ev, Env.get, OutOK_stop, undefS, undef, List.getElem?_toArray, List.getElem?_cons_succ, List.getElem?_cons_zero, Option.bind_some, ↓reduceIte, Nat.reduceLT, Nat.reduceEqDiff, Nat.add_zero, Nat.add_one_ne_zero, Bool.not_true, decide_false, and_self, Try.fd26f0, e1]
    refine hκ.ret _ _ _ _ _ _ trivial rfl ?_
    have : inR xs n = false := by simp [inR, h1]
    rw [this]
    exact .ret trivial
theorem rcopy_ok (xs : List Nat) (hn : xs.length < 2 ^ 44) : Con Try.prog gl0 (fnv 15) [Po xs] 0 [] (RetP 31 1 (fun r => .agg [r]) (xs.map eS)) := by
  refine Con.of Try.ok15 (nt := 8) (res := [.cell 2 26]) Try.mixed Try.func15 rfl rfl rfl rfl fun κ xc hκ => hκ.run 300 ?_
  simp (disch := omega) only [sBuiltin, srcS, appArgS, sAppendTo, sAppend, exec_succ, runR_next, runR_need, runR_all, runR_stop, stepS, runOp, toSR, sop, rOf, rNew, sAlloc, sAlloc0, sBox, isArr, sLoadIn, sLoad, sStoreIn, sStore, sFieldAddr, sliceT, obind, fillS, evps, sBuild, repeatL, sBuildSlice, chunk, ev, svs, Env.get, Heap.get, Heap.set, Heap.drop, takeN, cut, over, paste, aggOf, cellsS, one, ones, idFrees, envOf, OutOK_need, OutOK_all, OutOK_stop, undefS, undef, List.take_nil, Bool.false_eq_true, List.size_toArray, List.length_cons, List.length_nil, List.length_map, List.range, List.range.loop, List.getElem?_toArray, List.getElem?_cons_succ, List.getElem?_cons_zero, List.map_cons, List.map_nil, List.nil_append, ↓reduceIte, Nat.reduceAdd, Nat.reduceLT, Nat.reduceLeDiff, Nat.reduceEqDiff, Nat.zero_add, Nat.add_zero, Nat.mul_one, Nat.add_one_ne_zero, true_and, and_self, forall_const, reduceCtorEq, gl0, Try.underlying24, Try.sz24, Try.ag24, Try.sz26, Try.ze26, Try.pl26, Try.ar26, Try.fd26f0, Try.sz31, Try.ze31, Try.by31]
  (repeat (refine ⟨by first | omega | (refine ⟨?_, ?_⟩ <;> omega) | trivial | (simp; done) | decide +kernel, fun _ => ?_⟩))
  intro c
  have et : List.take xs.length (List.map eS xs) = List.map eS xs := List.take_of_length_le (by simp)
  refine hκ.ret _ _ _ _ _ _ trivial rfl ?_
  exact Post.rowP .agg1 rfl (by simp)
theorem short_row (xs : List Nat) (hn : xs.length < 2 ^ 46) : Con Try.prog gl0 (fnv 11) [Po xs] 0 [] (RetP 31 1 (fun r => .agg [r]) ((xs.take 12).map eS)) := by
  refine Con.of Try.ok11 (nt := 12) (res := [.cell 2 26]) Try.mixed Try.func11 rfl rfl rfl rfl fun κ xc hκ => hκ.run 300 ?_
  simp (disch := omega) only [sBuiltin, sMinMax, exec_succ, runR_next, runR_need, runR_call, stepS, runOp, toSR, sop, rOf, rNew, sAlloc, sAlloc0, sBox, isArr, sLoadIn, sLoad, sFieldAddr, sLen, optI, sSlice, cutL, elemT, obind, fillS, evps, sBuild, ev, evs, svs, Env.get, Heap.get, takeN, cut, over, paste, aggOf, cellsS, envOf, OutOK_need, OutOK_call, Bool.false_eq_true, List.size_toArray, List.length_cons, List.length_nil, List.length_map, List.range, List.range.loop, List.getElem?_toArray, List.getElem?_cons_succ, List.getElem?_cons_zero, List.map_cons, List.map_nil, Option.map_some, Option.map_none, Option.getD_some, Option.getD_none, ↓reduceIte, Nat.reduceAdd, Nat.reduceLT, Nat.reduceEqDiff, Nat.zero_add, Nat.add_zero, Nat.add_one_ne_zero, Int.reduceLE, true_and, and_self, gl0, Try.underlying24, Try.sz24, Try.ag24, Try.ze26, Try.pl26, Try.ar26, Try.fd26f0, Try.sz31]
  obtain ⟨m, hm, hm2⟩ : ∃ m : Nat, min (xs.length : Int) 12 = (m : Int) ∧ m = min xs.length 12 := ⟨min xs.length 12, by omega, rfl⟩
  rw [hm]
  simp (disch := omega) only [Int.toNat_natCast]
  (repeat (refine ⟨by first | omega | (refine ⟨?_, ?_⟩ <;> omega) | trivial | (simp; done) | decide +kernel, fun _ => ?_⟩))
  have et : List.take m (xs.map eS) = (xs.take 12).map eS := by
    rw [← List.map_take, hm2]
    congr 1
    by_cases h : xs.length ≤ 12
    · rw [Nat.min_eq_left h, List.take_length, List.take_of_length_le h]
    · rw [Nat.min_eq_right (by omega)]
  rw [et]
  refine Does.rowP hκ.hP hκ.hgl .agg1 (rcopy_ok (xs.take 12) (by simp; omega)) ⟨trivial, by simp [SV.bnd, SV.bndL]⟩ fun cap hcap => ?_
  refine hκ.run 300 ?_
  simp (disch := omega) only [exec_succ, runR_next, runR_need, runR_stop, stepS, runOp, toSR, sop, sStoreIn, sStore, ev, Env.get, Heap.get, Heap.set, over, paste, cellsS, one, ones, setO, OutOK_need, OutOK_stop, undefS, undef, List.length_cons, List.length_nil, List.length_map, List.getElem?_toArray, List.getElem?_cons_succ, List.getElem?_cons_zero, ↓reduceIte, Nat.reduceAdd, Nat.reduceEqDiff, Nat.zero_add, true_and, and_self, forall_const, gl0, Try.sz26]
  refine hκ.ret _ _ _ _ _ _ trivial rfl ?_
  exact Post.rowP .agg1 rfl (by simp)
theorem short_ok (xs : List Nat) (hn : xs.length < 2 ^ 46) : Con Try.prog gl0 (fnv 11) [Po xs] 0 [] (Ret (Po (xs.take 12))) := (short_row xs hn).toRdP .agg1 (by simp [SV.bnd, SV.bndL])
end Go.Proofs.Ytfhiaddbpacgeaa

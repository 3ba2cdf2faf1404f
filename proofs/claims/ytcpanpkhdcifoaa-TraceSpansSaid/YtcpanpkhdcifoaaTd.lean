/- Traces: too long ones, copies. No condition. -/
import Derived.Test.YtcpanpkhdcifoaaTc
namespace Go.Proofs.Ytcpanpkhdcifoaa
open Go Go.Sy
set_option maxRecDepth 100000
set_option linter.unusedSimpArgs false
set_option linter.unusedVariables false

theorem Pre.trace (en : Int) : Pre fun r => .agg [r, I en] := ⟨fun _ _ => by simp only [SV.ren, SV.renL], fun _ _ h => ⟨h, trivial, trivial⟩, fun _ _ _ => by simp only [lendS, lendL], fun _ _ _ h => by simp only [Go.Sy.lendP, lendPL]; exact ⟨h, trivial, trivial⟩⟩
/-- Is it more than is gone through? -/
def overT (fs : List Fr) : Bool := decide (300 < fs.length) || fs.any fun f => decide (30 < f.2.length)
theorem over_ok (fs : List Fr) (en : Int) (hf : ∀ f ∈ fs, inFr f) (hn : fs.length < 2 ^ 46) : Con Try.prog gl0 (fnv 10) [Tr fs en] 0 [] (Ret (Bo (overT fs))) := by
  refine Con.of Try.ok10 (nt := 21) (res := [.tmp 2]) Try.mixed Try.func10 rfl rfl rfl rfl fun κ xc hκ => hκ.run 300 ?_
  simp (disch := omega) only [sBuiltin, exec_succ, runR_next, stepS, runOp, condS, toSR, sop, rOf, rNew, sBox, isArr, sLoadIn, sLoad, sInt, sBin, sFieldAddr, sLen, ev, Env.get, Heap.get, takeN, cut, aggOf, cellsS, envOf, Bool.false_eq_true, List.size_toArray, List.length_cons, List.length_nil, List.length_map, List.range, List.range.loop, List.getElem?_toArray, List.getElem?_cons_succ, List.getElem?_cons_zero, ↓reduceIte, Nat.reduceAdd, Nat.reduceLT, Nat.reduceEqDiff, Nat.zero_add, Nat.add_zero, Nat.add_one_ne_zero, gl0, Try.underlying22, Try.sz22, Try.ag22, Try.fd24f0]
  refine OutOK_fork (fun h => ?_) (fun h => ?_) <;> try simp only [Bool.not_true, Bool.not_false, decide_eq_true_eq, decide_eq_false_iff_not, Bool.not_eq_true', Bool.not_eq_false', Bool.and_eq_true, Bool.or_eq_false_iff, Bool.or_eq_true, Bool.and_eq_false_iff] at h
  · simp (disch := omega) only [exec_succ, runR_next, runR_stop, stepS, runOp, toSR, sop, rOf, ev, OutOK_stop, List.size_toArray, List.length_cons, List.length_nil, List.range, List.range.loop, List.getElem?_toArray, List.getElem?_cons_zero, ↓reduceIte, Nat.reduceLT, Nat.zero_add]
    refine hκ.ret _ _ _ _ _ _ trivial rfl ?_
    rw [overT, decide_eq_true (by omega), Bool.true_or]
    exact .ret trivial
  simp (disch := omega) only [sBuiltin, exec_succ, runR_next, runR_stop, stepS, runOp, toSR, sop, rOf, sLoadIn, sLoad, sFieldAddr, sLen, ev, Env.get, Heap.get, takeN, cut, aggOf, OutOK_stop, List.size_toArray, List.length_cons, List.length_nil, List.length_map, List.range, List.range.loop, List.getElem?_toArray, List.getElem?_cons_succ, List.getElem?_cons_zero, ↓reduceIte, Nat.reduceAdd, Nat.reduceLT, Nat.reduceEqDiff, Nat.zero_add, Nat.add_zero, Nat.add_one_ne_zero, Try.underlying22, Try.sz22, Try.ag22, Try.fd24f0]
  have ho : overT fs = fs.any fun f => decide (30 < f.2.length) := by rw [overT, decide_eq_false (by omega), Bool.false_or]
  refine Sat.less (Sat.loop (γ := Nat) (fun k => ([(12, I k), (11, I fs.length), (10, Fs fs), (1, .ptr 0 0 0 0)], [(0, .own [Fs fs, I en] 24)], 1)) (fun k => fs.length - k) (fun k => k ≤ fs.length ∧ (fs.take k).any (fun f => decide (30 < f.2.length)) = false) ?round 0 ⟨Nat.zero_le _, by simp⟩) (by repeat' (first | exact EnvSub.nil _ | exact HeapSub.nil _ | refine EnvSub.cons rfl ?_ | refine HeapSub.cons rfl ?_ | (refine EnvSub.cons (by simp [Env.get]; done) ?_) | (refine HeapSub.cons (by simp [Heap.get]; done) ?_))) (by repeat' (first | exact EnvSub.nil _ | exact HeapSub.nil _ | refine EnvSub.cons rfl ?_ | refine HeapSub.cons rfl ?_ | (refine EnvSub.cons (by simp [Env.get]; done) ?_) | (refine HeapSub.cons (by simp [Heap.get]; done) ?_)))
  case round =>
    rintro k ⟨hk, hj⟩ ih
    dsimp only at hk hj ih ⊢
    refine hκ.run 9 ?_
    simp (disch := omega) only [exec_succ, runR_next, stepS, runOp, condS, toSR, sop, sInt, sBin, ev, Env.get, List.size_toArray, List.length_cons, List.length_nil, List.range, List.range.loop, List.getElem?_toArray, List.getElem?_cons_zero, ↓reduceIte, Nat.reduceLT, Nat.reduceEqDiff, Nat.zero_add, gl0]
    refine OutOK_fork (fun h => ?_) (fun h => ?_) <;> try simp only [Bool.not_true, Bool.not_false, decide_eq_true_eq, decide_eq_false_iff_not, Bool.not_eq_true', Bool.not_eq_false', Bool.and_eq_true, Bool.or_eq_false_iff, Bool.or_eq_true, Bool.and_eq_false_iff] at h
    · have hm := getD_mem (show k < fs.length by omega)
      obtain ⟨-, hp, hpn⟩ := hf _ hm
      have hs : (fs.take (k + 1)).any (fun f => decide (30 < f.2.length)) = decide (30 < (fs.getD k default).2.length) := by
        rw [take_getD (by omega), List.any_append, hj, List.any_cons, List.any_nil, Bool.or_false, Bool.false_or]
      have hz := fun h => ih (k + 1) ⟨by omega, h⟩ (by omega)
      rw [hs] at hz
      refine hκ.run 300 ?_
      simp (disch := omega) only [sBuiltin, exec_succ, runR_next, runR_need, stepS, runOp, condS, toSR, sop, rOf, rNew, sAlloc, sAlloc0, sLoadIn, sLoad, sStoreIn, sStore, sInt, sBin, sFieldAddr, sIndexAddr, sLen, elemT, obind, ev, svs, Env.get, Heap.get, Heap.set, takeN, cut, over, paste, aggOf, cellsS, one, ones, Value.oneCell', OutOK_need, undefS, undef, List.size_toArray, List.length_cons, List.length_nil, List.length_map, List.range, List.range.loop, List.getElem?_toArray, List.getElem?_cons_succ, List.getElem?_cons_zero, List.map_cons, List.map_nil, ↓reduceIte, Nat.reduceAdd, Nat.reduceLT, Nat.reduceEqDiff, Nat.zero_add, Nat.add_one_ne_zero, Int.toNat_natCast, true_and, and_self, forall_const, getD_map, gl0, Try.underlying22, Try.underlying25, Try.sz25, Try.ag25, Try.sz58, Try.ag58, Try.ze58, Try.ar58, Try.fd58f1, eF]
      (repeat (refine ⟨by first | omega | (refine ⟨?_, ?_⟩ <;> omega) | trivial | (simp; done) | decide +kernel, fun _ => ?_⟩))
      by_cases h1 : 30 < (fs.getD k default).2.length
      · have e1 : ((30 : Int) < (fs.getD k default).2.length) = True := by simp only [eq_iff_iff, iff_true]; omega
        simp (disch := omega) only [exec_succ, runR_next, runR_fork_true, runR_stop, stepS, runOp, toSR, sop, rOf, ev, OutOK_stop, List.size_toArray, List.length_cons, List.length_nil, List.range, List.range.loop, List.getElem?_toArray, List.getElem?_cons_zero, ↓reduceIte, Nat.reduceLT, Nat.zero_add, decide_true, e1]
        refine hκ.ret _ _ _ _ _ _ trivial rfl ?_
        rw [ho, show fs.any (fun f => decide (30 < f.2.length)) = true from List.any_eq_true.2 ⟨_, hm, decide_eq_true h1⟩]
        exact .ret trivial
      · have e1 : ((30 : Int) < (fs.getD k default).2.length) = False := by simp only [eq_iff_iff, iff_false]; omega
        have hz1 := hz (decide_eq_false h1)
        simp (disch := omega) only [exec_succ, runR_next, runR_fork_false, runR_stop, stepS, runOp, toSR, sop, rOf, sInt, sBin, ev, Env.get, OutOK_stop, List.size_toArray, List.length_cons, List.length_nil, List.range, List.range.loop, List.getElem?_toArray, List.getElem?_cons_succ, List.getElem?_cons_zero, ↓reduceIte, Nat.reduceAdd, Nat.reduceLT, Nat.reduceEqDiff, Nat.zero_add, decide_false, wrap_i64, e1]
        refine Sat.via (fun i => i) (hz1) (by intro i j; (repeat (first | omega | split))) (by repeat' (first | exact EnvVia.nil | refine EnvVia.cons (by first | trivial | decide | (simp [SV.bnd, SV.bndL]; done)) rfl ?_)) (by repeat' (first | exact HeapVia.nil | refine HeapVia.cons (by decide) (by first | trivial | (simp [Blk.bnd, SV.bnd, SV.bndL]; done) | exact bndL_mapV _ _ _ | exact LR.bnd (by rw [l2]; simp [bndE, SV.bnd, SV.bndL]) (by rw [l6]; decide)) (by first | rfl | (simp only [Blk.ren, renL_mapV]; rfl) | (rw [LR.ren (by rw [l2] <;> rfl) (by rw [l6] <;> rfl)]; rfl)) ?_)) ⟨by have := hκ.hm; (try dsimp only at this); (first | done | omega), fun i hi => by have := hκ.hm; (try dsimp only at this); (first | omega | (dsimp only; omega) | (rw [if_neg (by omega)]))⟩ ⟨by simp, rfl⟩
    · simp (disch := omega) only [exec_zero, exec_succ, runR_next, stepS, goS, exitTo, OutOK_stop, List.size_toArray, List.length_cons, List.length_nil, List.range, List.range.loop, ↓reduceIte, Nat.zero_add, beq_self_eq_true]
      obtain rfl : k = fs.length := by omega
      rw [List.take_length] at hj
      refine hκ.run 300 ?_
      simp (disch := omega) only [exec_succ, runR_next, runR_stop, stepS, runOp, toSR, sop, rOf, ev, OutOK_stop, List.getElem?_toArray, List.getElem?_cons_zero, ↓reduceIte, Nat.reduceLT, gl0]
      refine hκ.ret _ _ _ _ _ _ trivial rfl ?_
      rw [ho, hj]
      exact .ret trivial
theorem copied_ok (fs : List Fr) (en : Int) (hf : ∀ f ∈ fs, inFr f) (hs : ∀ f ∈ fs, f.2.length < 2 ^ 40) (hn : fs.length < 2 ^ 40) : Con Try.prog gl0 (fnv 11) [Tr fs en] 0 [] (Ret (Tr fs en)) := by
  refine Con.of Try.ok11 (nt := 30) (res := [.cell 2 24]) Try.mixed Try.func11 rfl rfl rfl rfl fun κ xc hκ => hκ.run 300 ?_
  simp (disch := omega) only [sBuiltin, exec_succ, runR_next, runR_need, runR_stop, stepS, runOp, toSR, sop, rOf, rNew, sAlloc, sAlloc0, sBox, isArr, sLoadIn, sLoad, sStoreIn, sStore, sFieldAddr, sLen, fillS, evps, sBuild, ev, svs, Env.get, Heap.get, Heap.set, takeN, cut, over, paste, aggOf, cellsS, one, ones, envOf, Value.cells, Value.oneCell', OutOK_need, OutOK_stop, undefS, undef, Bool.false_eq_true, List.size_toArray, List.length_cons, List.length_nil, List.length_map, List.range, List.range.loop, List.getElem?_toArray, List.getElem?_cons_succ, List.getElem?_cons_zero, List.map_cons, List.map_nil, List.toList_toArray, ↓reduceIte, Nat.reduceAdd, Nat.reduceLT, Nat.reduceEqDiff, Nat.zero_add, Nat.add_zero, Nat.add_one_ne_zero, true_and, and_self, forall_const, gl0, Try.sz2, Try.ag2, Try.underlying22, Try.sz22, Try.ag22, Try.sz24, Try.ze24, Try.pl24, Try.ar24, Try.fd24f0, Try.fd24f1]
  refine Sat.nilCell 2 2 58 24 [] [I en] rfl ?_
  simp only [Heap.set, List.nil_append, Nat.reduceEqDiff, ↓reduceIte]
  refine Sat.less (Sat.loop (γ := Nat × Nat) (fun g => ([(12, I g.1), (11, I fs.length), (10, Fs fs), (3, .ptr 2 0 0 0), (2, .ptr 1 0 0 0)], [(3, .row 2 g.2 58 ((fs.take g.1).map eF)), (2, .own [.sl 3 2 0 g.1 g.2, I en] 24), (1, .own [.v (.slice none 0 0), I 0] 24), (0, .own [Fs fs, I en] 24)], 4)) (fun g => fs.length - g.1) (fun g => g.1 ≤ fs.length) ?round (0, 0) (Nat.zero_le _)) (by repeat' (first | exact EnvSub.nil _ | exact HeapSub.nil _ | refine EnvSub.cons rfl ?_ | refine HeapSub.cons rfl ?_ | (refine EnvSub.cons (by simp [Env.get]; done) ?_) | (refine HeapSub.cons (by simp [Heap.get]; done) ?_))) (by repeat' (first | exact EnvSub.nil _ | exact HeapSub.nil _ | refine EnvSub.cons rfl ?_ | refine HeapSub.cons rfl ?_ | (refine EnvSub.cons (by simp [Env.get]; done) ?_) | (refine HeapSub.cons (by simp [Heap.get]; done) ?_)))
  case round =>
    rintro ⟨k, cap⟩ hk ih
    dsimp only at hk ih ⊢
    refine Sat.room 3 rfl fun hroom => ?_
    refine hκ.run 9 ?_
    simp (disch := omega) only [exec_succ, runR_next, stepS, runOp, condS, toSR, sop, sInt, sBin, ev, Env.get, List.size_toArray, List.length_cons, List.length_nil, List.range, List.range.loop, List.getElem?_toArray, List.getElem?_cons_zero, ↓reduceIte, Nat.reduceLT, Nat.reduceEqDiff, Nat.zero_add, gl0]
    refine OutOK_fork (fun h => ?_) (fun h => ?_) <;> try simp only [Bool.not_true, Bool.not_false, decide_eq_true_eq, decide_eq_false_iff_not, Bool.not_eq_true', Bool.not_eq_false', Bool.and_eq_true, Bool.or_eq_false_iff, Bool.or_eq_true, Bool.and_eq_false_iff] at h
    · have hm := getD_mem (show k < fs.length by omega)
      obtain ⟨-, hp, -⟩ := hf _ hm
      have hpn := hs _ hm
      have et : List.take k (List.map eF (List.take k fs)) = List.map eF (List.take k fs) := List.take_of_length_le (by simp; omega)
      have el : (List.take k fs).length = k := by simp; omega
      have hz := fun cap => ih (k + 1, cap) (by dsimp only; omega) (by dsimp only; omega)
      dsimp only at hz
      rw [take_getD (by omega), List.map_append, List.map_cons, List.map_nil] at hz
      refine hκ.run 300 ?_
      simp (disch := omega) only [allQuiet, quietOp, drawS, exec_succ, runR_next, runR_need, runR_stop, stepS, runOp, toSR, sop, rOf, rNew, sAlloc, sAlloc0, sLoad, sStoreIn, sStore, sIndexAddr, elemT, obind, ev, svs, Env.get, Heap.get, Heap.set, takeN, cut, over, paste, aggOf, cellsS, one, ones, Value.oneCell', OutOK_need, OutOK_stop, Option.isNone_none, undefS, undef, Bool.and_true, Bool.and_false, List.size_toArray, List.length_cons, List.length_nil, List.length_map, List.range, List.range.loop, List.getElem?_toArray, List.getElem?_cons_succ, List.getElem?_cons_zero, List.map_cons, List.map_nil, ↓reduceIte, Nat.reduceAdd, Nat.reduceLT, Nat.reduceEqDiff, Nat.zero_add, Int.toNat_natCast, true_and, and_self, forall_const, getD_map, gl0, Try.underlying22, Try.sz58, Try.ag58, Try.ze58, Try.ar58, eF]
      (repeat (refine ⟨by first | omega | (refine ⟨?_, ?_⟩ <;> omega) | trivial | (simp; done) | decide +kernel, fun _ => ?_⟩))
      refine hκ.draw (.q 0 (.q 1 (.q 2 (.q 3 (.q 5 (.q 6 (.l 4 [1, 3, 6] (.c true 7 [1, 3] (.q 8 (.l 9 [1, 3, 6] (.l 10 [3, 6] (.q 11 (.l 12 [] (.fin)))))))))))))) [0, 1, 2, 3, 5, 6, 8, 11] (by kernel_rfl) (by kernel_rfl) rfl ?_
      simp (disch := omega) only [sBuiltin, srcS, appArgS, sAppendTo, sAppend, sop, rOf, rNew, isArr, sLoadIn, sLoad, sStoreIn, sStore, sFieldAddr, sliceT, obind, fillS, evps, sBuild, repeatL, sBuildSlice, chunk, ev, svs, Env.get, Heap.get, Heap.set, Heap.drop, takeN, cut, over, paste, aggOf, cellsS, one, ones, idFree, idFrees, setO, Value.cells, Value.oneCell', drawP_fin, drawP_q, drawP_l, dnext, dq, dqn, dl, slotR, ag, guardP, R1Q, dstOK, loudP, again, again1, slotIs, R1OK, undefS, undef, loudC, dlc, drawP_c, frzOk, frzR, Bool.and_true, List.drop_zero, List.take_succ_cons, List.take_nil, List.length_cons, List.length_nil, List.length_map, List.range, List.range.loop, List.getElem?_toArray, List.getElem?_cons_succ, List.getElem?_cons_zero, List.map_cons, List.map_nil, List.append_nil, List.nil_append, List.toList_toArray, ↓reduceIte, Nat.reduceAdd, Nat.reduceLT, Nat.reduceLeDiff, Nat.reduceEqDiff, Nat.zero_add, Nat.add_zero, Nat.zero_mul, Nat.one_mul, Nat.add_one_ne_zero, ne_eq, not_false_eq_true, and_true, true_and, and_self, forall_const, reduceCtorEq, gl0, Try.sz2, Try.ag2, Try.underlying22, Try.sz22, Try.ag22, Try.fd24f0, Try.underlying25, Try.sz25, Try.ag25, Try.sz51, Try.ze51, Try.by51, Try.sz58, Try.ze58, Try.pl58, Try.by58, Try.fd58f0, Try.fd58f1]
      (repeat (refine ⟨by first | omega | (refine ⟨?_, ?_⟩ <;> omega) | trivial | (simp; done) | decide +kernel, fun _ => ?_⟩))
      intro c
      (repeat (refine ⟨by first | omega | (refine ⟨?_, ?_⟩ <;> omega) | trivial | (simp; done) | decide +kernel, fun _ => ?_⟩))
      intro c2
      have hy := hz (k + 1 + c2)
      simp only [List.length_append, List.length_cons, List.length_nil, List.length_singleton, List.length_map, List.length_set, List.length_replicate, Nat.zero_add, Nat.add_zero, Int.natCast_add, Int.natCast_one, Int.ofNat_eq_natCast, List.map_append, List.map_cons, List.map_nil, List.take_length, eI, eB] at hy ⊢
      rw [et]
      refine hκ.run 300 ?_
      simp (disch := omega) only [exec_succ, runR_next, runR_stop, stepS, runOp, toSR, sop, rOf, sInt, sBin, ev, Env.get, OutOK_stop, List.size_toArray, List.length_cons, List.length_nil, List.range, List.range.loop, List.getElem?_toArray, List.getElem?_cons_succ, List.getElem?_cons_zero, ↓reduceIte, Nat.reduceAdd, Nat.reduceLT, Nat.reduceEqDiff, Nat.zero_add, wrap_i64, gl0]
      refine Sat.via (fun i => if i = 3 then 8 else i) (hy) (by intro i j; (repeat (first | omega | split))) (by repeat' (first | exact EnvVia.nil | refine EnvVia.cons (by first | trivial | decide | (simp [SV.bnd, SV.bndL]; done)) rfl ?_)) (by repeat' (first | exact HeapVia.nil | refine HeapVia.cons (by decide) (by first | trivial | (simp [Blk.bnd, SV.bnd, SV.bndL]; done) | exact bndL_mapV _ _ _ | exact LR.bnd (by rw [l2]; simp [bndE, SV.bnd, SV.bndL]) (by rw [l6]; decide)) (by first | rfl | (simp only [Blk.ren, renL_mapV]; rfl) | (rw [LR.ren (by rw [l2] <;> rfl) (by rw [l6] <;> rfl)]; rfl)) ?_)) ⟨by have := hκ.hm; (try dsimp only at this); (first | done | omega), fun i hi => by have := hκ.hm; (try dsimp only at this); (first | omega | (dsimp only; omega) | (rw [if_neg (by omega)]))⟩ ⟨by simp, rfl⟩
    · simp (disch := omega) only [exec_zero, exec_succ, runR_next, stepS, goS, exitTo, OutOK_stop, List.size_toArray, List.length_cons, List.length_nil, List.range, List.range.loop, ↓reduceIte, Nat.reduceAdd, Nat.zero_add, beq_self_eq_true]
      obtain rfl : k = fs.length := by omega
      have et : List.take fs.length (List.map eF fs) = List.map eF fs := List.take_of_length_le (by simp)
      rw [List.take_length]
      rw [List.length_map, List.take_length] at hroom
      refine Sat.frzOwn [3] 2 _ _ rfl (by decide) (by first | (simp [lendPL, lendP, lendSlP, Heap.get]; done) | (simp only [lendPL, lendP, lendSlP, Heap.get, List.mem_singleton, List.mem_cons, List.not_mem_nil, or_false, or_true, true_or, Nat.reduceEqDiff, Nat.one_ne_zero, Nat.zero_ne_one, ↓reduceIte, and_true, true_and, List.length_map, List.length_append, List.length_cons, List.length_nil, List.length_replicate]; omega)) ?_
      simp only [lendL, lendS, lendSl, Heap.get, without, List.mem_singleton, List.mem_cons, List.not_mem_nil, or_false, or_true, true_or, List.drop_zero, List.take_length, List.take_succ_cons, List.take_zero, Nat.reduceAdd, Nat.reduceEqDiff, Nat.one_ne_zero, Nat.zero_ne_one, ↓reduceIte]
      simp only [Heap.set, Nat.reduceEqDiff, ↓reduceIte, et]
      refine hκ.run 300 ?_
      simp (disch := omega) only [exec_succ, runR_next, runR_need, runR_stop, stepS, runOp, toSR, sop, rOf, sLoadIn, sLoad, sStoreIn, sStore, ev, Env.get, Heap.get, Heap.set, takeN, cut, over, paste, aggOf, cellsS, one, ones, Value.oneCell', OutOK_need, OutOK_stop, undefS, undef, List.length_cons, List.length_nil, List.getElem?_toArray, List.getElem?_cons_succ, List.getElem?_cons_zero, ↓reduceIte, Nat.reduceAdd, Nat.reduceLT, Nat.reduceEqDiff, Nat.zero_add, true_and, and_self, forall_const, gl0, Try.sz24, Try.ag24]
      refine hκ.ret _ _ _ _ _ _ trivial rfl ?_
      exact .ret (by simp [SV.bnd, SV.bndL])
end Go.Proofs.Ytcpanpkhdcifoaa

/- Whole numbers bit by bit: twice, products, differences; which is less. No condition. -/
import Derived.Test.YtomfpciigaopiaaAe
import Derived.Test.YtomfpciigaopiaaAd
namespace Go.Proofs.Ytomfpciigaopiaa
open Go Go.Sy
set_option maxRecDepth 100000
set_option linter.unusedSimpArgs false
set_option linter.unusedVariables false

theorem twice_bit (A j : Nat) : (2 * A).testBit (j + 1) = A.testBit j ∧ (2 * A).testBit 0 = false := by
  constructor
  · rw [Nat.testBit_succ, Nat.mul_div_cancel_left _ (by decide)]
  · rw [Nat.testBit_zero]; simp
theorem btwice_ok (A : Nat) : Con Try.prog gl0 (fnv 58) [.arr 1 (Nb A)] 0 [] (Ret (.arr 1 (Nb (2 * A)))) := by
  refine Con.of Try.ok58 (nt := 16) (res := [.cell 2 76]) Try.mixed Try.func58 rfl rfl rfl rfl fun κ xc hκ => hκ.run 300 ?_
  simp (disch := omega) only [sBoxA, exec_succ, runR_next, runR_need, runR_stop, stepS, runOp, toSR, sop, rOf, rNew, sAlloc, sBox, isArr, ev, svs, Env.get, envOf, OutOK_need, OutOK_stop, List.size_toArray, List.length_cons, List.length_nil, List.range, List.range.loop, List.getElem?_toArray, List.getElem?_cons_succ, List.getElem?_cons_zero, List.map_cons, List.map_nil, ↓reduceIte, Nat.reduceAdd, Nat.reduceLT, Nat.zero_add, true_and, forall_const, gl0, Try.ar76, Nb_len]
  have e1 : Ub (2 * A) 0 = Ub (2 * A) 1 := by
    refine Bt_congr fun j _ => ?_
    by_cases e : j = 0
    · subst e; rw [(twice_bit A 0).2]; rfl
    · rw [decide_eq_false (show ¬ j < 0 by omega), decide_eq_false (show ¬ j < 1 by omega)]
  rw [Ub_zero (2 * A), e1]
  refine Sat.less (Sat.loop (γ := Nat) (fun k => ([(4, I (k + 1 : Nat)), (3, .ptr 2 0 0 0), (2, .ptr 1 0 0 0), (1, .ptr 0 0 0 0)], [(2, .row 1 256 76 (Ub (2 * A) (k + 1))), (1, .row 1 256 76 (Ub (2 * A) 1)), (0, .row 1 256 76 (Nb A))], 3)) (fun k => 256 - k) (fun k => k < 256) ?round 0 (by decide)) (by repeat' (first | exact EnvSub.nil _ | exact HeapSub.nil _ | refine EnvSub.cons rfl ?_ | refine HeapSub.cons rfl ?_ | (refine EnvSub.cons (by simp [Env.get]; done) ?_) | (refine HeapSub.cons (by simp [Heap.get]; done) ?_))) (by repeat' (first | exact EnvSub.nil _ | exact HeapSub.nil _ | refine EnvSub.cons rfl ?_ | refine HeapSub.cons rfl ?_ | (refine EnvSub.cons (by simp [Env.get]; done) ?_) | (refine HeapSub.cons (by simp [Heap.get]; done) ?_)))
  case round =>
    intro k hk ih
    dsimp only at ih ⊢
    refine hκ.run 300 ?_
    simp (disch := omega) only [exec_succ, runR_next, stepS, runOp, condS, toSR, sop, rOf, sInt, sBin, ev, Env.get, Int.cast_ofNat_Int, Int.natCast_add, List.size_toArray, List.length_cons, List.length_nil, List.range, List.range.loop, List.getElem?_toArray, List.getElem?_cons_succ, List.getElem?_cons_zero, ↓reduceIte, Nat.reduceAdd, Nat.reduceLT, Nat.zero_add, gl0]
    refine OutOK_fork (fun h => ?_) (fun h => ?_) <;> try simp only [Bool.not_true, Bool.not_false, decide_eq_true_eq, decide_eq_false_iff_not, Bool.not_eq_true', Bool.not_eq_false', Bool.and_eq_true, Bool.or_eq_false_iff, Bool.or_eq_true, Bool.and_eq_false_iff] at h
    · have hz := ih (k + 1) (by omega) (by omega)
      have g1 := Nb_get (n := A) (show k < 256 by omega)
      have g3 := Ub_get (n := 2 * A) (show k + 1 < 256 by omega)
      have g4 := Ub_set (twice_bit A k).1
      have et3 : ((k : Int) + 1).toNat = k + 1 := by omega
      have et4 : ((k : Int) + 1 - 1) = k := by omega
      simp (disch := omega) only [exec_succ, runR_next, runR_need, runR_stop, stepS, runOp, toSR, sop, rOf, sLoadIn, sLoad, sStoreIn, sStore, sInt, sBin, sIndexAddr, elemT, obind, ev, svs, Env.get, Heap.get, Heap.set, takeN, cut, over, paste, aggOf, cellsS, one, ones, idFree, idFrees, Value.cells, Value.oneCell', OutOK_need, OutOK_stop, undefS, undef, Int.cast_ofNat_Int, Bool.and_true, List.size_toArray, List.length_cons, List.length_nil, List.range, List.range.loop, List.getElem?_toArray, List.getElem?_cons_succ, List.getElem?_cons_zero, List.map_cons, List.map_nil, List.toList_toArray, ↓reduceIte, Nat.reduceAdd, Nat.reduceLT, Nat.reduceEqDiff, Nat.zero_add, Nat.add_one_ne_zero, Int.toNat_natCast, and_true, and_self, wrap_i64, Try.sz4, Try.ag4, Try.underlying76, Nb_len, Ub_len, g1, g3, g4, et3, et4]
      (repeat (refine ⟨by first | omega | (refine ⟨?_, ?_⟩ <;> omega) | trivial | (simp; done) | decide +kernel, fun _ => ?_⟩))
      simp only [List.length_append, List.length_cons, List.length_nil, List.length_singleton, List.length_map, List.length_set, List.length_replicate, Nat.zero_add, Nat.add_zero, Int.natCast_add, Int.natCast_one, Int.ofNat_eq_natCast, List.map_append, List.map_cons, List.map_nil, List.take_length, eI, eB] at hz ⊢
      refine Sat.via (fun i => i) (hz) (by intro i j; (repeat (first | omega | split))) (by repeat' (first | exact EnvVia.nil | refine EnvVia.cons (by first | trivial | decide | (simp [SV.bnd, SV.bndL]; done)) rfl ?_)) (by repeat' (first | exact HeapVia.nil | refine HeapVia.cons (by decide) (by first | trivial | (simp [Blk.bnd, SV.bnd, SV.bndL]; done) | exact bndL_mapV _ _ _ | exact LR.bnd (by rw [l2]; simp [bndE, SV.bnd, SV.bndL]) (by rw [l6]; decide)) (by first | rfl | (simp only [Blk.ren, renL_mapV]; rfl) | (rw [LR.ren (by rw [l2] <;> rfl) (by rw [l6] <;> rfl)]; rfl)) ?_)) ⟨by have := hκ.hm; (try dsimp only at this); (first | done | omega), fun i hi => by have := hκ.hm; (try dsimp only at this); (first | omega | (dsimp only; omega) | (rw [if_neg (by omega)]))⟩ ⟨by simp, rfl⟩
    · simp (disch := omega) only [exec_succ, runR_next, runR_need, runR_stop, stepS, runOp, goS, toSR, sop, sLoadIn, sLoad, sStoreArr, sStore, ev, Env.get, Heap.get, Heap.set, exitTo, OutOK_need, OutOK_stop, undefS, undef, List.size_toArray, List.length_cons, List.length_nil, List.range, List.range.loop, List.getElem?_toArray, List.getElem?_cons_succ, List.getElem?_cons_zero, ↓reduceIte, Nat.reduceAdd, Nat.reduceLT, Nat.reduceEqDiff, Nat.zero_add, Nat.mul_one, Nat.add_one_ne_zero, beq_self_eq_true, ne_eq, not_false_eq_true, true_and, and_self, forall_const, Try.sz76, Try.ag76, Ub_len]
      obtain rfl : k = 255 := by omega
      rw [Ub_full _ (by decide)]
      refine hκ.run 300 ?_
      simp (disch := omega) only [exec_succ, runR_stop, stepS, OutOK_stop, Int.cast_ofNat_Int, Int.reduceAdd, Int.reduceLT, decide_false, gl0]
      (repeat (refine ⟨by first | omega | (refine ⟨?_, ?_⟩ <;> omega) | trivial | (simp; done) | decide +kernel, fun _ => ?_⟩))
      refine hκ.ret _ _ _ _ _ _ trivial rfl ?_
      exact .ret trivial
theorem div_test (m k : Nat) : m / 2 ^ k = 2 * (m / 2 ^ (k + 1)) + (m.testBit k).toNat := by
  have h := div_bit m k
  rw [Nat.testBit_eq_decide_div_mod_eq]
  have : m / 2 ^ k % 2 < 2 := Nat.mod_lt _ (by decide)
  by_cases e : m / 2 ^ k % 2 = 1
  · rw [decide_eq_true e]; simp only [Bool.toNat_true]; omega
  · rw [decide_eq_false e]; simp only [Bool.toNat_false]; omega
theorem mul_bit (A m k : Nat) : A * (m / 2 ^ k) = 2 * (A * (m / 2 ^ (k + 1))) + (if m.testBit k = true then A else 0) := by
  rw [div_test m k]
  generalize m / 2 ^ (k + 1) = q
  cases m.testBit k <;> simp <;> grind
theorem bprod_ok (A m : Nat) (hm : m < 2 ^ 64) : Con Try.prog gl0 (fnv 42) [.arr 1 (Nb A), U m] 0 [] (Ret (.arr 1 (Nb (A * m)))) := by
  refine Con.of Try.ok42 (nt := 23) (res := [.cell 4 76]) Try.mixed Try.func42 rfl rfl rfl rfl fun κ xc hκ => hκ.run 300 ?_
  simp (disch := omega) only [sBoxA, exec_succ, runR_next, runR_need, runR_stop, stepS, runOp, toSR, sop, rOf, rNew, sAlloc, sBox, isArr, ev, svs, Env.get, envOf, OutOK_need, OutOK_stop, List.size_toArray, List.length_cons, List.length_nil, List.range, List.range.loop, List.getElem?_toArray, List.getElem?_cons_succ, List.getElem?_cons_zero, List.map_cons, List.map_nil, ↓reduceIte, Nat.reduceAdd, Nat.reduceLT, Nat.zero_add, true_and, forall_const, gl0, Try.ar76, Nb_len]
  rw [← Nb_zero]
  refine Sat.less (Sat.loop (γ := Int × Nat) (fun k => ([(6, I k.1), (5, .ptr 2 0 0 0), (4, .ptr 1 0 0 0), (2, .ptr 0 0 0 0), (1, U m)], [(2, .row 1 256 76 (Nb k.2)), (1, .row 1 256 76 (Nb 0)), (0, .row 1 256 76 (Nb A))], 3)) (fun k => (k.1 + 1).toNat) (fun k => -1 ≤ k.1 ∧ k.1 ≤ 63 ∧ k.2 = A * (m / 2 ^ (k.1 + 1).toNat)) ?round (63, 0) ⟨by decide, by decide, ?start⟩) (by repeat' (first | exact EnvSub.nil _ | exact HeapSub.nil _ | refine EnvSub.cons rfl ?_ | refine HeapSub.cons rfl ?_ | (refine EnvSub.cons (by simp [Env.get]; done) ?_) | (refine HeapSub.cons (by simp [Heap.get]; done) ?_))) (by repeat' (first | exact EnvSub.nil _ | exact HeapSub.nil _ | refine EnvSub.cons rfl ?_ | refine HeapSub.cons rfl ?_ | (refine EnvSub.cons (by simp [Env.get]; done) ?_) | (refine HeapSub.cons (by simp [Heap.get]; done) ?_)))
  case start =>
    rw [show ((63 : Int) + 1).toNat = 64 by decide, Nat.div_eq_of_lt hm, Nat.mul_zero]
  case round =>
    rintro ⟨i, x⟩ ⟨i1, i2, hx⟩ ih
    dsimp only at i1 i2 hx ih ⊢
    refine hκ.run 300 ?_
    simp (disch := omega) only [exec_succ, runR_next, stepS, runOp, condS, toSR, sop, rOf, sInt, sBin, ev, Env.get, List.size_toArray, List.length_cons, List.length_nil, List.range, List.range.loop, List.getElem?_toArray, List.getElem?_cons_succ, List.getElem?_cons_zero, ↓reduceIte, Nat.reduceAdd, Nat.reduceLT, Nat.zero_add, gl0]
    refine OutOK_fork (fun h => ?_) (fun h => ?_) <;> try simp only [Bool.not_true, Bool.not_false, decide_eq_true_eq, decide_eq_false_iff_not, Bool.not_eq_true', Bool.not_eq_false', Bool.and_eq_true, Bool.or_eq_false_iff, Bool.or_eq_true, Bool.and_eq_false_iff] at h
    · obtain ⟨i, rfl⟩ : ∃ j : Nat, i = j := ⟨i.toNat, by omega⟩
      have hz := fun x h => ih ((i : Int) - 1, x) ⟨by dsimp only; omega, by dsimp only; omega, h⟩ (by dsimp only; omega)
      dsimp only at hz
      rw [show ((i : Int) - 1 + 1).toNat = i by omega] at hz
      rw [show ((i : Int) + 1).toNat = i + 1 by omega] at hx
      have hm2 := mul_bit A m i
      rw [← hx] at hm2
      rw [hm2] at hz
      have hz := hz _ rfl
      clear hm2 hx
      have hb := bitI m i
      generalize m.testBit i = b at hb hz
      simp (disch := omega) only [exec_succ, runR_next, runR_need, runR_call, stepS, runOp, toSR, sop, sLoadIn, sLoad, ev, evs, Env.get, Heap.get, OutOK_need, OutOK_call, List.size_toArray, List.length_cons, List.length_nil, List.range, List.range.loop, List.getElem?_toArray, List.getElem?_cons_succ, List.getElem?_cons_zero, ↓reduceIte, Nat.reduceAdd, Nat.reduceLT, Nat.reduceEqDiff, Nat.zero_add, Nat.mul_one, Nat.add_one_ne_zero, true_and, and_self, forall_const, Try.sz76, Try.ag76, Nb_len]
      (repeat (refine ⟨by first | omega | (refine ⟨?_, ?_⟩ <;> omega) | trivial | (simp; done) | decide +kernel, fun _ => ?_⟩))
      refine Does.ret hκ.hP hκ.hgl (btwice_ok x) ⟨trivial, by simp [SV.bnd, SV.bndL], by first | (simp [SV.bnd, SV.bndL]; done) | assumption⟩ ?_
      cases b
      · rw [if_neg (by decide), Nat.add_zero] at hz
        refine hκ.run 300 ?_
        simp (disch := omega) only [exec_succ, runR_next, runR_need, runR_fork_false, runR_stop, stepS, runOp, condS, toSR, sop, rOf, sStoreArr, sStore, sInt, sBin, sConv, ev, Env.get, Heap.get, Heap.set, setO, OutOK_need, OutOK_stop, undefS, undef, List.size_toArray, List.length_cons, List.length_nil, List.range, List.range.loop, List.getElem?_toArray, List.getElem?_cons_succ, List.getElem?_cons_zero, ↓reduceIte, Nat.reduceAdd, Nat.reduceLT, Nat.reduceEqDiff, Nat.zero_add, Nat.mul_one, Nat.add_one_ne_zero, Int.reduceEq, Int.toNat_natCast, ne_eq, not_false_eq_true, true_and, and_self, forall_const, shAmt_of, IntKind.bits, wrap_i64, wrap_u64, gl0, Try.underlying3, Try.sz76, Try.underlying97, Nb_len, hb]
        (repeat (refine ⟨by first | omega | (refine ⟨?_, ?_⟩ <;> omega) | trivial | (simp; done) | decide +kernel, fun _ => ?_⟩))
        refine Sat.via (fun i => i) (hz) (by intro i j; (repeat (first | omega | split))) (by repeat' (first | exact EnvVia.nil | refine EnvVia.cons (by first | trivial | decide | (simp [SV.bnd, SV.bndL]; done)) rfl ?_)) (by repeat' (first | exact HeapVia.nil | refine HeapVia.cons (by decide) (by first | trivial | (simp [Blk.bnd, SV.bnd, SV.bndL]; done) | exact bndL_mapV _ _ _ | exact LR.bnd (by rw [l2]; simp [bndE, SV.bnd, SV.bndL]) (by rw [l6]; decide)) (by first | rfl | (simp only [Blk.ren, renL_mapV]; rfl) | (rw [LR.ren (by rw [l2] <;> rfl) (by rw [l6] <;> rfl)]; rfl)) ?_)) ⟨by have := hκ.hm; (try dsimp only at this); (first | done | omega), fun i hi => by have := hκ.hm; (try dsimp only at this); (first | omega | (dsimp only; omega) | (rw [if_neg (by omega)]))⟩ ⟨by simp, rfl⟩
      · rw [if_pos rfl] at hz
        refine hκ.run 300 ?_
        simp (disch := omega) only [exec_succ, runR_next, runR_need, runR_fork_true, runR_call, stepS, runOp, condS, toSR, sop, rOf, sLoadIn, sLoad, sStoreArr, sStore, sInt, sBin, sConv, ev, evs, Env.get, Heap.get, Heap.set, setO, OutOK_need, OutOK_call, undefS, undef, List.size_toArray, List.length_cons, List.length_nil, List.range, List.range.loop, List.getElem?_toArray, List.getElem?_cons_succ, List.getElem?_cons_zero, ↓reduceIte, Nat.reduceAdd, Nat.reduceLT, Nat.reduceEqDiff, Nat.zero_add, Nat.mul_one, Nat.add_one_ne_zero, Int.reduceEq, Int.toNat_natCast, ne_eq, not_false_eq_true, true_and, and_self, forall_const, shAmt_of, IntKind.bits, wrap_u64, gl0, Try.underlying3, Try.sz76, Try.ag76, Try.underlying97, Nb_len, hb]
        (repeat (refine ⟨by first | omega | (refine ⟨?_, ?_⟩ <;> omega) | trivial | (simp; done) | decide +kernel, fun _ => ?_⟩))
        refine Does.ret hκ.hP hκ.hgl (bsum_ok (2 * x) A) ⟨trivial, by simp [SV.bnd, SV.bndL], by first | (simp [SV.bnd, SV.bndL]; done) | assumption⟩ ?_
        refine hκ.run 300 ?_
        simp (disch := omega) only [exec_succ, runR_next, runR_need, runR_stop, stepS, runOp, toSR, sop, rOf, sStoreArr, sStore, sInt, sBin, ev, Env.get, Heap.get, Heap.set, setO, OutOK_need, OutOK_stop, undefS, undef, List.size_toArray, List.length_cons, List.length_nil, List.range, List.range.loop, List.getElem?_toArray, List.getElem?_cons_succ, List.getElem?_cons_zero, ↓reduceIte, Nat.reduceAdd, Nat.reduceLT, Nat.reduceEqDiff, Nat.zero_add, Nat.mul_one, Nat.add_one_ne_zero, ne_eq, not_false_eq_true, true_and, and_self, forall_const, wrap_i64, gl0, Try.sz76, Nb_len]
        (repeat (refine ⟨by first | omega | (refine ⟨?_, ?_⟩ <;> omega) | trivial | (simp; done) | decide +kernel, fun _ => ?_⟩))
        refine Sat.via (fun i => i) (hz) (by intro i j; (repeat (first | omega | split))) (by repeat' (first | exact EnvVia.nil | refine EnvVia.cons (by first | trivial | decide | (simp [SV.bnd, SV.bndL]; done)) rfl ?_)) (by repeat' (first | exact HeapVia.nil | refine HeapVia.cons (by decide) (by first | trivial | (simp [Blk.bnd, SV.bnd, SV.bndL]; done) | exact bndL_mapV _ _ _ | exact LR.bnd (by rw [l2]; simp [bndE, SV.bnd, SV.bndL]) (by rw [l6]; decide)) (by first | rfl | (simp only [Blk.ren, renL_mapV]; rfl) | (rw [LR.ren (by rw [l2] <;> rfl) (by rw [l6] <;> rfl)]; rfl)) ?_)) ⟨by have := hκ.hm; (try dsimp only at this); (first | done | omega), fun i hi => by have := hκ.hm; (try dsimp only at this); (first | omega | (dsimp only; omega) | (rw [if_neg (by omega)]))⟩ ⟨by simp, rfl⟩
    · simp (disch := omega) only [exec_succ, runR_next, runR_need, runR_stop, stepS, runOp, goS, toSR, sop, sLoadIn, sLoad, sStoreArr, sStore, ev, Env.get, Heap.get, Heap.set, exitTo, OutOK_need, OutOK_stop, undefS, undef, List.size_toArray, List.length_cons, List.length_nil, List.range, List.range.loop, List.getElem?_toArray, List.getElem?_cons_succ, List.getElem?_cons_zero, ↓reduceIte, Nat.reduceAdd, Nat.reduceLT, Nat.reduceEqDiff, Nat.zero_add, Nat.mul_one, Nat.add_one_ne_zero, beq_self_eq_true, ne_eq, not_false_eq_true, true_and, and_self, forall_const, Try.sz76, Try.ag76, Nb_len]
      obtain rfl : i = -1 := by omega
      rw [show ((-1 : Int) + 1).toNat = 0 by decide, Nat.pow_zero, Nat.div_one] at hx
      subst hx
      refine hκ.run 300 ?_
      simp (disch := omega) only [exec_succ, runR_stop, stepS, OutOK_stop, Int.reduceLE, Int.reduceNeg, decide_false, gl0]
      (repeat (refine ⟨by first | omega | (refine ⟨?_, ?_⟩ <;> omega) | trivial | (simp; done) | decide +kernel, fun _ => ?_⟩))
      refine hκ.ret _ _ _ _ _ _ trivial rfl ?_
      exact .ret trivial
theorem less_bit {A B k : Nat} (h : A / 2 ^ (k + 1) = B / 2 ^ (k + 1)) : (A.testBit k = B.testBit k → A / 2 ^ k = B / 2 ^ k) ∧ (A.testBit k ≠ B.testBit k → decide (A < B) = B.testBit k) := by
  have h1 := div_test A k
  have h2 := div_test B k
  rw [← h] at h2
  constructor
  · intro e; rw [h1, h2, e]
  · intro e
    have hp := Nat.two_pow_pos k
    cases ha : A.testBit k <;> cases hb : B.testBit k <;> rw [ha, hb] at e <;> simp at e
    · rw [ha] at h1; rw [hb] at h2
      simp only [Bool.toNat_true, Bool.toNat_false] at h1 h2
      exact decide_eq_true (Nat.lt_of_not_le fun hle => by have := Nat.div_le_div_right (c := 2 ^ k) hle; omega)
    · rw [ha] at h1; rw [hb] at h2
      simp only [Bool.toNat_true, Bool.toNat_false] at h1 h2
      exact decide_eq_false fun hlt => by have := Nat.div_le_div_right (c := 2 ^ k) (Nat.le_of_lt hlt); omega
theorem bless_ok (A B : Nat) (hA : A < 2 ^ 256) (hB : B < 2 ^ 256) : Con Try.prog gl0 (fnv 46) [.arr 1 (Nb A), .arr 1 (Nb B)] 0 [] (Ret (Bo (decide (A < B)))) := by
  refine Con.of Try.ok46 (nt := 20) (res := [.tmp 4]) Try.mixed Try.func46 rfl rfl rfl rfl fun κ xc hκ => hκ.run 300 ?_
  simp (disch := omega) only [sBoxA, exec_succ, runR_next, runR_need, runR_stop, stepS, runOp, toSR, sop, rOf, rNew, sBox, isArr, ev, Env.get, envOf, OutOK_need, OutOK_stop, List.size_toArray, List.length_cons, List.length_nil, List.range, List.range.loop, List.getElem?_toArray, List.getElem?_cons_succ, List.getElem?_cons_zero, ↓reduceIte, Nat.reduceAdd, Nat.reduceLT, Nat.reduceEqDiff, Nat.zero_add, true_and, forall_const, reduceCtorEq, gl0, Try.ar76, Nb_len]
  refine Sat.less (Sat.loop (γ := Int) (fun k => ([(5, I k), (3, .ptr 1 0 0 0), (2, .ptr 0 0 0 0)], [(1, .row 1 256 76 (Nb B)), (0, .row 1 256 76 (Nb A))], 2)) (fun k => (k + 1).toNat) (fun k => -1 ≤ k ∧ k ≤ 255 ∧ A / 2 ^ (k + 1).toNat = B / 2 ^ (k + 1).toNat) ?round 255 ⟨by decide, by decide, ?start⟩) (by repeat' (first | exact EnvSub.nil _ | exact HeapSub.nil _ | refine EnvSub.cons rfl ?_ | refine HeapSub.cons rfl ?_ | (refine EnvSub.cons (by simp [Env.get]; done) ?_) | (refine HeapSub.cons (by simp [Heap.get]; done) ?_))) (by repeat' (first | exact EnvSub.nil _ | exact HeapSub.nil _ | refine EnvSub.cons rfl ?_ | refine HeapSub.cons rfl ?_ | (refine EnvSub.cons (by simp [Env.get]; done) ?_) | (refine HeapSub.cons (by simp [Heap.get]; done) ?_)))
  case start =>
    rw [show ((255 : Int) + 1).toNat = 256 by decide, Nat.div_eq_of_lt hA, Nat.div_eq_of_lt hB]
  case round =>
    rintro i ⟨i1, i2, hx⟩ ih
    dsimp only at ih ⊢
    refine hκ.run 300 ?_
    simp (disch := omega) only [exec_succ, runR_next, stepS, runOp, condS, toSR, sop, rOf, sInt, sBin, ev, Env.get, List.size_toArray, List.length_cons, List.length_nil, List.range, List.range.loop, List.getElem?_toArray, List.getElem?_cons_succ, List.getElem?_cons_zero, ↓reduceIte, Nat.reduceAdd, Nat.reduceLT, Nat.zero_add, gl0]
    refine OutOK_fork (fun h => ?_) (fun h => ?_) <;> try simp only [Bool.not_true, Bool.not_false, decide_eq_true_eq, decide_eq_false_iff_not, Bool.not_eq_true', Bool.not_eq_false', Bool.and_eq_true, Bool.or_eq_false_iff, Bool.or_eq_true, Bool.and_eq_false_iff] at h
    · obtain ⟨i, rfl⟩ : ∃ j : Nat, i = j := ⟨i.toNat, by omega⟩
      have hz := fun h => ih ((i : Int) - 1) ⟨by omega, by omega, h⟩ (by omega)
      rw [show ((i : Int) - 1 + 1).toNat = i by omega] at hz
      rw [show ((i : Int) + 1).toNat = i + 1 by omega] at hx
      obtain ⟨h1, h2⟩ := less_bit hx
      have g1 := Nb_get (n := A) (show i < 256 by omega)
      have g2 := Nb_get (n := B) (show i < 256 by omega)
      have b1 : (!(false == true)) = true := rfl
      have b2 : (!(true == false)) = true := rfl
      cases ha : A.testBit i <;> cases hb : B.testBit i <;> rw [ha] at g1 <;> rw [hb] at g2
      · have hz := hz (h1 (by rw [ha, hb]))
        simp (disch := omega) only [sEqArr, allQuiet, quietOp, drawS, drawGo, drawN, drawFin, exec_succ, runR_next, runR_need, runR_fork_false, runR_stop, stepS, runOp, condS, toSR, sop, rOf, sLoadIn, sLoad, sInt, sEq, sEqR, sEqAgg, aggS, sBin, sIndexAddr, elemT, obind, ev, svs, Env.get, Heap.get, takeN, cut, aggOf, OutOK_need, OutOK_stop, Option.isNone_none, undefS, undef, Int.cast_ofNat_Int, Bool.and_true, Bool.false_eq_true, List.size_toArray, List.length_cons, List.length_nil, List.range, List.range.loop, List.getElem?_toArray, List.getElem?_cons_succ, List.getElem?_cons_zero, ↓reduceIte, Nat.reduceAdd, Nat.reduceLT, Nat.reduceEqDiff, Nat.zero_add, Nat.add_one_ne_zero, Int.toNat_natCast, Bool.not_true, beq_self_eq_true, true_and, forall_const, wrap_i64, Try.underlying4, Try.sz4, Try.ag4, Try.underlying76, Nb_len, g1, g2]
        (repeat (refine ⟨by first | omega | (refine ⟨?_, ?_⟩ <;> omega) | trivial | (simp; done) | decide +kernel, fun _ => ?_⟩))
        refine Sat.via (fun i => i) (hz) (by intro i j; (repeat (first | omega | split))) (by repeat' (first | exact EnvVia.nil | refine EnvVia.cons (by first | trivial | decide | (simp [SV.bnd, SV.bndL]; done)) rfl ?_)) (by repeat' (first | exact HeapVia.nil | refine HeapVia.cons (by decide) (by first | trivial | (simp [Blk.bnd, SV.bnd, SV.bndL]; done) | exact bndL_mapV _ _ _ | exact LR.bnd (by rw [l2]; simp [bndE, SV.bnd, SV.bndL]) (by rw [l6]; decide)) (by first | rfl | (simp only [Blk.ren, renL_mapV]; rfl) | (rw [LR.ren (by rw [l2] <;> rfl) (by rw [l6] <;> rfl)]; rfl)) ?_)) ⟨by have := hκ.hm; (try dsimp only at this); (first | done | omega), fun i hi => by have := hκ.hm; (try dsimp only at this); (first | omega | (dsimp only; omega) | (rw [if_neg (by omega)]))⟩ ⟨by simp, rfl⟩
      · have h2 := h2 (by rw [ha, hb]; decide)
        rw [hb] at h2
        rw [h2] at hκ
        simp (disch := omega) only [sEqArr, allQuiet, quietOp, drawS, drawGo, drawN, drawFin, exec_succ, runR_next, runR_need, runR_fork_true, runR_stop, stepS, runOp, condS, toSR, sop, rOf, sLoadIn, sLoad, sInt, sEq, sEqR, sEqAgg, aggS, sBin, sIndexAddr, elemT, obind, ev, svs, Env.get, Heap.get, takeN, cut, aggOf, OutOK_need, OutOK_stop, Option.isNone_none, undefS, undef, Int.cast_ofNat_Int, Bool.and_true, Bool.false_eq_true, List.size_toArray, List.length_cons, List.length_nil, List.range, List.range.loop, List.getElem?_toArray, List.getElem?_cons_succ, List.getElem?_cons_zero, ↓reduceIte, Nat.reduceAdd, Nat.reduceLT, Nat.reduceEqDiff, Nat.zero_add, Nat.add_one_ne_zero, Int.toNat_natCast, true_and, forall_const, Try.underlying4, Try.sz4, Try.ag4, Try.underlying76, Nb_len, g1, g2, b1]
        (repeat (refine ⟨by first | omega | (refine ⟨?_, ?_⟩ <;> omega) | trivial | (simp; done) | decide +kernel, fun _ => ?_⟩))
        refine hκ.ret _ _ _ _ _ _ trivial rfl ?_
        exact .ret trivial
      · have h2 := h2 (by rw [ha, hb]; decide)
        rw [hb] at h2
        rw [h2] at hκ
        simp (disch := omega) only [sEqArr, allQuiet, quietOp, drawS, drawGo, drawN, drawFin, exec_succ, runR_next, runR_need, runR_fork_true, runR_stop, stepS, runOp, condS, toSR, sop, rOf, sLoadIn, sLoad, sInt, sEq, sEqR, sEqAgg, aggS, sBin, sIndexAddr, elemT, obind, ev, svs, Env.get, Heap.get, takeN, cut, aggOf, OutOK_need, OutOK_stop, Option.isNone_none, undefS, undef, Int.cast_ofNat_Int, Bool.and_true, Bool.false_eq_true, List.size_toArray, List.length_cons, List.length_nil, List.range, List.range.loop, List.getElem?_toArray, List.getElem?_cons_succ, List.getElem?_cons_zero, ↓reduceIte, Nat.reduceAdd, Nat.reduceLT, Nat.reduceEqDiff, Nat.zero_add, Nat.add_one_ne_zero, Int.toNat_natCast, true_and, forall_const, Try.underlying4, Try.sz4, Try.ag4, Try.underlying76, Nb_len, g1, g2, b2]
        (repeat (refine ⟨by first | omega | (refine ⟨?_, ?_⟩ <;> omega) | trivial | (simp; done) | decide +kernel, fun _ => ?_⟩))
        refine hκ.ret _ _ _ _ _ _ trivial rfl ?_
        exact .ret trivial
      · have hz := hz (h1 (by rw [ha, hb]))
        simp (disch := omega) only [sEqArr, allQuiet, quietOp, drawS, drawGo, drawN, drawFin, exec_succ, runR_next, runR_need, runR_fork_false, runR_stop, stepS, runOp, condS, toSR, sop, rOf, sLoadIn, sLoad, sInt, sEq, sEqR, sEqAgg, aggS, sBin, sIndexAddr, elemT, obind, ev, svs, Env.get, Heap.get, takeN, cut, aggOf, OutOK_need, OutOK_stop, Option.isNone_none, undefS, undef, Int.cast_ofNat_Int, Bool.and_true, Bool.false_eq_true, List.size_toArray, List.length_cons, List.length_nil, List.range, List.range.loop, List.getElem?_toArray, List.getElem?_cons_succ, List.getElem?_cons_zero, ↓reduceIte, Nat.reduceAdd, Nat.reduceLT, Nat.reduceEqDiff, Nat.zero_add, Nat.add_one_ne_zero, Int.toNat_natCast, Bool.not_true, beq_self_eq_true, true_and, forall_const, wrap_i64, Try.underlying4, Try.sz4, Try.ag4, Try.underlying76, Nb_len, g1, g2]
        (repeat (refine ⟨by first | omega | (refine ⟨?_, ?_⟩ <;> omega) | trivial | (simp; done) | decide +kernel, fun _ => ?_⟩))
        refine Sat.via (fun i => i) (hz) (by intro i j; (repeat (first | omega | split))) (by repeat' (first | exact EnvVia.nil | refine EnvVia.cons (by first | trivial | decide | (simp [SV.bnd, SV.bndL]; done)) rfl ?_)) (by repeat' (first | exact HeapVia.nil | refine HeapVia.cons (by decide) (by first | trivial | (simp [Blk.bnd, SV.bnd, SV.bndL]; done) | exact bndL_mapV _ _ _ | exact LR.bnd (by rw [l2]; simp [bndE, SV.bnd, SV.bndL]) (by rw [l6]; decide)) (by first | rfl | (simp only [Blk.ren, renL_mapV]; rfl) | (rw [LR.ren (by rw [l2] <;> rfl) (by rw [l6] <;> rfl)]; rfl)) ?_)) ⟨by have := hκ.hm; (try dsimp only at this); (first | done | omega), fun i hi => by have := hκ.hm; (try dsimp only at this); (first | omega | (dsimp only; omega) | (rw [if_neg (by omega)]))⟩ ⟨by simp, rfl⟩
    · simp (disch := omega) only [exec_succ, runR_next, runR_stop, stepS, runOp, goS, toSR, sop, rOf, ev, exitTo, OutOK_stop, List.size_toArray, List.length_cons, List.length_nil, List.range, List.range.loop, List.getElem?_toArray, List.getElem?_cons_zero, ↓reduceIte, Nat.reduceLT, Nat.zero_add, beq_self_eq_true]
      obtain rfl : i = -1 := by omega
      rw [show ((-1 : Int) + 1).toNat = 0 by decide, Nat.pow_zero, Nat.div_one, Nat.div_one] at hx
      rw [decide_eq_false (show ¬ A < B by omega)] at hκ
      refine hκ.ret _ _ _ _ _ _ trivial rfl ?_
      exact .ret trivial
theorem btake_ok (T B : Nat) : Con Try.prog gl0 (fnv 59) [.arr 1 (Nb (T + B)), .arr 1 (Nb B)] 0 [] (Ret (.arr 1 (Nb T))) := by
  refine Con.of Try.ok59 (nt := 37) (res := [.cell 4 76]) Try.mixed Try.func59 rfl rfl rfl rfl fun κ xc hκ => hκ.run 300 ?_
  simp (disch := omega) only [sBoxA, exec_succ, runR_next, runR_need, runR_stop, stepS, runOp, toSR, sop, rOf, rNew, sAlloc, sBox, isArr, ev, svs, Env.get, envOf, OutOK_need, OutOK_stop, List.size_toArray, List.length_cons, List.length_nil, List.range, List.range.loop, List.getElem?_toArray, List.getElem?_cons_succ, List.getElem?_cons_zero, List.map_cons, List.map_nil, ↓reduceIte, Nat.reduceAdd, Nat.reduceLT, Nat.reduceEqDiff, Nat.zero_add, Int.reduceNeg, true_and, forall_const, reduceCtorEq, gl0, Try.ar76, Nb_len]
  rw [Ub_zero T]
  refine Sat.less (Sat.loop (γ := Nat × Bool) (fun k => ([(7, I k.1), (6, Bo k.2), (5, .ptr 3 0 0 0), (4, .ptr 2 0 0 0), (3, .ptr 1 0 0 0), (2, .ptr 0 0 0 0)], [(3, .row 1 256 76 (Ub T k.1)), (2, .row 1 256 76 (Ub T 0)), (1, .row 1 256 76 (Nb B)), (0, .row 1 256 76 (Nb (T + B)))], 4)) (fun k => 256 - k.1) (fun k => k.1 ≤ 256 ∧ k.2 = cy T B k.1) ?round (0, false) ⟨Nat.zero_le _, (cy_zero T B).symm⟩) (by repeat' (first | exact EnvSub.nil _ | exact HeapSub.nil _ | refine EnvSub.cons rfl ?_ | refine HeapSub.cons rfl ?_ | (refine EnvSub.cons (by simp [Env.get]; done) ?_) | (refine HeapSub.cons (by simp [Heap.get]; done) ?_))) (by repeat' (first | exact EnvSub.nil _ | exact HeapSub.nil _ | refine EnvSub.cons rfl ?_ | refine HeapSub.cons rfl ?_ | (refine EnvSub.cons (by simp [Env.get]; done) ?_) | (refine HeapSub.cons (by simp [Heap.get]; done) ?_)))
  case round =>
    rintro ⟨k, c⟩ ⟨hk, hc⟩ ih
    dsimp only at hk hc ih ⊢
    refine hκ.run 300 ?_
    simp (disch := omega) only [exec_succ, runR_next, stepS, runOp, condS, toSR, sop, rOf, sInt, sBin, ev, Env.get, List.size_toArray, List.length_cons, List.length_nil, List.range, List.range.loop, List.getElem?_toArray, List.getElem?_cons_succ, List.getElem?_cons_zero, ↓reduceIte, Nat.reduceAdd, Nat.reduceLT, Nat.zero_add, Int.reduceNeg, gl0]
    refine OutOK_fork (fun h => ?_) (fun h => ?_) <;> try simp only [Bool.not_true, Bool.not_false, decide_eq_true_eq, decide_eq_false_iff_not, Bool.not_eq_true', Bool.not_eq_false', Bool.and_eq_true, Bool.or_eq_false_iff, Bool.or_eq_true, Bool.and_eq_false_iff] at h
    · have hz := fun c h => ih (k + 1, c) ⟨by dsimp only; omega, h⟩ (by dsimp only; omega)
      obtain ⟨h1, h2⟩ := add_bit T B k
      rw [← hc] at h1 h2
      dsimp only at hz
      have hz := hz _ h2.symm
      have g1 : (Nb (T + B)).getD k [] = [Bo ((T + B).testBit k)] := Nb_get (by omega)
      have g2 : (Nb B).getD k [] = [Bo (B.testBit k)] := Nb_get (by omega)
      have g3 := Ub_get (n := T) (show k < 256 by omega)
      have g4 := Ub_set (n := T) (k := k) rfl
      rw [h1] at g1
      clear hc h1 h2
      generalize T.testBit k = a at hz g1 g4
      generalize B.testBit k = b at hz g1 g2
      cases a <;> cases b <;> cases c
      all_goals
        simp only [Bool.xor_false, Bool.xor_true, Bool.false_xor, Bool.true_xor, Bool.not_true, Bool.not_false, Bool.and_self, Bool.and_false, Bool.and_true, Bool.or_self, Bool.or_true, Bool.or_false] at hz g1 g4
        simp (disch := omega) only [exec_succ, runR_next, runR_need, runR_fork_true, runR_fork_false, runR_guard_ff, runR_guard_tf, runR_stop, stepS, runOp, guardS, condS, toSR, sop, rOf, sPick, sLoadIn, sLoad, sStoreIn, sStore, sInt, sEq, sEqR, sBin, sIndexAddr, elemT, obind, ev, svs, Env.get, Heap.get, Heap.set, takeN, cut, over, paste, aggOf, cellsS, one, ones, idFree, idFrees, Value.cells, Value.oneCell', OutOK_need, OutOK_stop, undefS, undef, Int.zero_add, Int.cast_ofNat_Int, Bool.and_true, List.size_toArray, List.length_cons, List.length_nil, List.range, List.range.loop, List.getElem?_toArray, List.getElem?_cons_succ, List.getElem?_cons_zero, List.map_cons, List.map_nil, Option.bind_some, List.toList_toArray, ↓reduceIte, Nat.reduceAdd, Nat.reduceLT, Nat.reduceEqDiff, Nat.zero_add, Nat.add_one_ne_zero, Int.reduceSub, Int.reduceLT, Int.reduceEq, Int.reduceNeg, Int.toNat_natCast, Bool.not_false, decide_true, decide_false, and_true, and_self, reduceCtorEq, wrap_i64, Try.sz4, Try.ag4, Try.underlying76, Nb_len, Ub_len, g1, g2, g3, g4, Int.reduceNeg]
        (repeat (refine ⟨by first | omega | (refine ⟨?_, ?_⟩ <;> omega) | trivial | (simp; done) | decide +kernel, fun _ => ?_⟩))
        refine Sat.via (fun i => i) (hz) (by intro i j; (repeat (first | omega | split))) (by repeat' (first | exact EnvVia.nil | refine EnvVia.cons (by first | trivial | decide | (simp [SV.bnd, SV.bndL]; done)) rfl ?_)) (by repeat' (first | exact HeapVia.nil | refine HeapVia.cons (by decide) (by first | trivial | (simp [Blk.bnd, SV.bnd, SV.bndL]; done) | exact bndL_mapV _ _ _ | exact LR.bnd (by rw [l2]; simp [bndE, SV.bnd, SV.bndL]) (by rw [l6]; decide)) (by first | rfl | (simp only [Blk.ren, renL_mapV]; rfl) | (rw [LR.ren (by rw [l2] <;> rfl) (by rw [l6] <;> rfl)]; rfl)) ?_)) ⟨by have := hκ.hm; (try dsimp only at this); (first | done | omega), fun i hi => by have := hκ.hm; (try dsimp only at this); (first | omega | (dsimp only; omega) | (rw [if_neg (by omega)]))⟩ ⟨by simp, rfl⟩
    · simp (disch := omega) only [exec_succ, runR_next, runR_need, runR_stop, stepS, runOp, goS, toSR, sop, sLoadIn, sLoad, sStoreArr, sStore, ev, Env.get, Heap.get, Heap.set, exitTo, OutOK_need, OutOK_stop, undefS, undef, List.size_toArray, List.length_cons, List.length_nil, List.range, List.range.loop, List.getElem?_toArray, List.getElem?_cons_succ, List.getElem?_cons_zero, ↓reduceIte, Nat.reduceAdd, Nat.reduceLT, Nat.reduceEqDiff, Nat.zero_add, Nat.mul_one, Nat.add_one_ne_zero, Int.reduceNeg, beq_self_eq_true, ne_eq, not_false_eq_true, true_and, and_self, forall_const, Try.sz76, Try.ag76, Ub_len]
      obtain rfl : k = 256 := by omega
      rw [Ub_full _ (Nat.le_refl _)]
      refine hκ.run 300 ?_
      simp (disch := omega) only [exec_succ, runR_stop, stepS, OutOK_stop, Int.cast_ofNat_Int, Int.reduceLT, decide_false, gl0]
      (repeat (refine ⟨by first | omega | (refine ⟨?_, ?_⟩ <;> omega) | trivial | (simp; done) | decide +kernel, fun _ => ?_⟩))
      refine hκ.ret _ _ _ _ _ _ trivial rfl ?_
      exact .ret trivial
end Go.Proofs.Ytomfpciigaopiaa

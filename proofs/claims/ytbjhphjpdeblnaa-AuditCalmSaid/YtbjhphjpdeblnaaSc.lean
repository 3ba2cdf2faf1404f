/- Whole numbers of 128 bits: a product, and more added. No condition. -/
import Derived.Test.YtbjhphjpdeblnaaSb
namespace Go.Proofs.Ytbjhphjpdeblnaa.Sh
open Go Go.Sy
set_option maxRecDepth 100000
set_option linter.unusedSimpArgs false
set_option linter.unusedVariables false

theorem car_bd {N Q f i k : Nat} (hf : f < 4294967296) : dig Q k * f ≤ 18446744065119617025 ∧ carN N Q f i k + (dig N (k + i) + dig Q k * f) < 18446744073709551616 := by
  have h1 := carN_lt (N := N) (Q := Q) (i := i) (k := k) hf
  have h2 := dig_lt N (k + i)
  have h3 := dig_lt Q k
  have h4 : dig Q k * f ≤ 4294967295 * 4294967295 := Nat.mul_le_mul (by omega) (by omega)
  omega
theorem dig_one (k : Nat) : dig 1 (k + 1) = 0 := by
  rw [dig, Nat.div_eq_of_lt, Nat.zero_mod]
  exact Nat.one_lt_two_pow (by omega)
theorem dig_one0 : dig 1 0 = 1 := by decide
/-- A round of the loop that multiplies. -/
theorem times_step {T N Q f i k c j : Nat} (hj : j = k + i) (hk : j < 7) (hf : f < 4294967296) (hc : c = carN N Q f i k) (hT : T = N + f * 2 ^ (32 * i) * Q) :
    ∃ x y z r c' : Nat, (Mx T N j).getD j [] = [U x] ∧ (Qd Q).getD k [] = [U y] ∧ (y : Int) * (f : Int) = (z : Int) ∧ z ≤ 18446744065119617025 ∧ c + (x + z) < 18446744073709551616 ∧ ibits .and .u64 ((c : Int) + ((x : Int) + (z : Int))) 4294967295 = (r : Int) ∧ ((c : Int) + ((x : Int) + (z : Int))) / 4294967296 = (c' : Int) ∧ c' = carN N Q f i (k + 1) ∧ (Mx T N j).set j [U r] = Mx T N (j + 1) := by
  subst hj hT
  obtain ⟨b1, b2⟩ := car_bd (N := N) (Q := Q) (i := i) (k := k) hf
  rw [← hc] at b2
  refine ⟨dig N (k + i), dig Q k, dig Q k * f, (c + (dig N (k + i) + dig Q k * f)) % 4294967296, (c + (dig N (k + i) + dig Q k * f)) / 4294967296, ?_, Qd_get (by omega), by rw [Int.natCast_mul], b1, b2, ?_, by omega, ?_, ?_⟩
  · rw [Mx_get hk, if_neg (Nat.lt_irrefl _)]
  · have := low64 b2
    rw [Int.natCast_add, Int.natCast_add] at this
    exact this
  · rw [car_next, hc]
  · have hs := Mx_set (T := N + f * 2 ^ (32 * i) * Q) (N := N) (c := k + i) hk
    rw [car_dig, ← hc] at hs
    exact hs
/-- A round of the loop that adds. -/
theorem more_step {T N f i k c j : Nat} (hj : j = k + i) (hk : j < 7) (hf : f < 4294967296) (hc : c = carN N 1 f i k + dig 1 k * f) (hT : T = N + f * 2 ^ (32 * i) * 1) :
    ∃ x r c' : Nat, (Mx T N j).getD j [] = [U x] ∧ c + x < 18446744073709551616 ∧ ibits .and .u64 ((c : Int) + (x : Int)) 4294967295 = (r : Int) ∧ ((c : Int) + (x : Int)) / 4294967296 = (c' : Int) ∧ c' = carN N 1 f i (k + 1) + dig 1 (k + 1) * f ∧ (Mx T N j).set j [U r] = Mx T N (j + 1) := by
  subst hj hT
  obtain ⟨b1, b2⟩ := car_bd (N := N) (Q := 1) (i := i) (k := k) hf
  have e : carN N 1 f i k + (dig N (k + i) + dig 1 k * f) = c + dig N (k + i) := by omega
  rw [e] at b2
  refine ⟨dig N (k + i), (c + dig N (k + i)) % 4294967296, (c + dig N (k + i)) / 4294967296, ?_, b2, ?_, by omega, ?_, ?_⟩
  · rw [Mx_get hk, if_neg (Nat.lt_irrefl _)]
  · have := low64 b2
    rw [Int.natCast_add] at this
    exact this
  · rw [car_next, e, dig_one, Nat.zero_mul, Nat.add_zero]
  · have hs := Mx_set (T := N + f * 2 ^ (32 * i) * 1) (N := N) (c := k + i) hk
    rw [car_dig, e] at hs
    exact hs
set_option maxHeartbeats 4000000 in
theorem times_ok (Q m t : Nat) (hm : m < 2 ^ 64) (ht : t < 2 ^ 64) : Con Try.prog gl0 (fnv 86) [.arr 1 (Qd Q), U m, U t] 0 [] (Ret (.arr 1 (Qd (Q * m + t)))) := by
  have c1 := low64 (a := m) (by omega)
  have c2 := low64 (a := t) (by omega)
  have c3 : (m : Int) / 4294967296 = ((m / 4294967296 : Nat) : Int) := by omega
  have c4 : (t : Int) / 4294967296 = ((t / 4294967296 : Nat) : Int) := by omega
  have hm0 : m % 4294967296 < 4294967296 := by omega
  have hm1 : m / 4294967296 < 4294967296 := by omega
  have ht0 : t % 4294967296 < 4294967296 := by omega
  have ht1 : t / 4294967296 < 4294967296 := by omega
  have hT : Q * m + t = 0 + m % 4294967296 * 2 ^ (32 * 0) * Q + m / 4294967296 * 2 ^ (32 * 1) * Q + t % 4294967296 * 2 ^ (32 * 0) * 1 + t / 4294967296 * 2 ^ (32 * 1) * 1 := by
    have e1 : m = 4294967296 * (m / 4294967296) + m % 4294967296 := (Nat.div_add_mod _ _).symm
    have e2 : t = 4294967296 * (t / 4294967296) + t % 4294967296 := (Nat.div_add_mod _ _).symm
    conv => lhs; rw [e1, e2]
    generalize m % 4294967296 = a
    generalize m / 4294967296 = b
    generalize t % 4294967296 = c
    generalize t / 4294967296 = d
    simp only [Nat.mul_zero, Nat.pow_zero, Nat.mul_one, Nat.reducePow]
    grind
  generalize Q * m + t = T at hT ⊢
  generalize m % 4294967296 = f0 at c1 hm0 hT
  generalize m / 4294967296 = f1 at c3 hm1 hT
  generalize t % 4294967296 = g0 at c2 ht0 hT
  generalize t / 4294967296 = g1 at c4 ht1 hT
  obtain ⟨T1, h1⟩ : ∃ T1, T1 = 0 + f0 * 2 ^ (32 * 0) * Q := ⟨_, rfl⟩
  rw [← h1] at hT
  obtain ⟨T2, h2⟩ : ∃ T2, T2 = T1 + f1 * 2 ^ (32 * 1) * Q := ⟨_, rfl⟩
  rw [← h2] at hT
  obtain ⟨T3, h3⟩ : ∃ T3, T3 = T2 + g0 * 2 ^ (32 * 0) * 1 := ⟨_, rfl⟩
  rw [← h3] at hT
  refine Con.of Try.ok86 (nt := 81) (res := [.cell 6 127]) Try.mixed Try.func86 rfl rfl rfl rfl fun κ xc hκ => hκ.run 300 ?_
  simp (disch := omega) only [sBoxA, sBuild0, exec_succ, runR_next, runR_need, runR_stop, stepS, runOp, toSR, sop, rOf, rNew, sAlloc, sBox, isArr, sInt, sBin, fillS, evps, sBuild, ev, svs, Env.get, over, paste, cellsS, envOf, Value.cells, OutOK_need, OutOK_stop, List.size_toArray, List.length_cons, List.length_nil, List.range, List.range.loop, List.getElem?_toArray, List.getElem?_cons_succ, List.getElem?_cons_zero, List.map_cons, List.map_nil, List.toList_toArray, ↓reduceIte, Nat.reduceAdd, Nat.reduceLT, Nat.reduceEqDiff, Nat.zero_add, Int.reduceToNat, Int.reduceLE, true_and, and_self, forall_const, reduceCtorEq, shAmt_of, IntKind.bits, Int.reducePow, Int.fdiv_eq_ediv_of_nonneg, gl0, Try.ar127, Try.ze135, Try.pl135, Try.ar135, c1, c3, Qd_len]
  (repeat (refine ⟨by first | omega | (refine ⟨?_, ?_⟩ <;> omega) | trivial | (simp; done) | decide +kernel, fun _ => ?_⟩))
  refine Sat.enter ?_
  refine hκ.run 300 ?_
  simp (disch := omega) only [exec_succ, runR_next, runR_need, runR_fork_true, runR_stop, stepS, runOp, condS, toSR, sop, rOf, sInt, sBin, sIndex, elemT, obind, ev, Env.get, takeN, cut, aggOf, OutOK_need, OutOK_stop, Int.cast_ofNat_Int, List.size_toArray, List.length_cons, List.length_nil, List.range, List.range.loop, List.getElem?_toArray, List.getElem?_cons_succ, List.getElem?_cons_zero, ↓reduceIte, Nat.reduceAdd, Nat.reduceLT, Nat.reduceEqDiff, Nat.zero_add, Nat.mul_one, Int.reduceToNat, Int.reduceLT, Int.reduceLE, decide_true, true_and, and_self, forall_const, gl0, Try.sz81, Try.ag81, Try.underlying135]
  have ez : List.replicate 7 [SV.v (.int .u64 0)] = Qd 0 := Qd_zero.symm
  rw [ez]
  refine Sat.less (Sat.loop (γ := Nat × Nat) (fun k => ([(11, I k.1), (10, U k.2), (8, I 0), (9, U f0), (21, I 0), (20, .agg [U f0, U f1]), (7, .ptr 2 0 0 0), (6, .ptr 1 0 0 0), (3, .ptr 0 0 0 0), (2, U t)], [(2, .row 1 7 127 (Mx T1 0 (k.1))), (1, .row 1 7 127 (Qd 0)), (0, .row 1 7 127 (Qd Q))], 3)) (fun k => 7 - k.1) (fun k => k.1 + 0 ≤ 7 ∧ k.2 = carN 0 Q f0 0 k.1) ?rndT1 (0, 0) ⟨by decide, (car_zero _ _ _ _).symm⟩) (by repeat' (first | exact EnvSub.nil _ | exact HeapSub.nil _ | refine EnvSub.cons rfl ?_ | refine HeapSub.cons rfl ?_ | (refine EnvSub.cons (by simp [Env.get]; done) ?_) | (refine HeapSub.cons (by simp [Heap.get]; done) ?_))) (by repeat' (first | exact EnvSub.nil _ | exact HeapSub.nil _ | refine EnvSub.cons rfl ?_ | refine HeapSub.cons rfl ?_ | (refine EnvSub.cons (by simp [Env.get]; done) ?_) | (refine HeapSub.cons (by simp [Heap.get]; done) ?_)))
  case rndT1 =>
    rintro ⟨k, c⟩ ⟨hk, hc⟩ ih
    dsimp only at hk hc ih ⊢
    refine hκ.run 300 ?_
    simp (disch := omega) only [exec_succ, runR_next, stepS, runOp, condS, toSR, sop, rOf, sInt, sBin, ev, Env.get, Int.add_zero, List.size_toArray, List.length_cons, List.length_nil, List.range, List.range.loop, List.getElem?_toArray, List.getElem?_cons_succ, List.getElem?_cons_zero, ↓reduceIte, Nat.reduceAdd, Nat.reduceLT, Nat.reduceEqDiff, Nat.zero_add, wrap_i64, gl0]
    refine OutOK_fork (fun h => ?_) (fun h => ?_) <;> try simp only [Bool.not_true, Bool.not_false, decide_eq_true_eq, decide_eq_false_iff_not, Bool.not_eq_true', Bool.not_eq_false', Bool.and_eq_true, Bool.or_eq_false_iff, Bool.or_eq_true, Bool.and_eq_false_iff] at h
    · have hz := fun c h => ih (k + 1, c) ⟨by dsimp only; omega, h⟩ (by dsimp only; omega)
      dsimp only at hz
      obtain ⟨x, y, z, r, c', b1, b2, b3, b4, b5, b6, b7, b8, b9⟩ := times_step (T := T1) (N := 0) (Q := Q) (f := f0) (i := 0) (k := k) (c := c) (j := k) (by omega) (by omega) hm0 hc h1
      have hz := hz c' b8
      have ej : ((k : Int) + 1).toNat = k + 1 := by omega
      simp (disch := omega) only [allQuiet, quietOp, drawS, drawGo, drawN, drawFin, exec_succ, runR_next, runR_need, runR_stop, stepS, runOp, toSR, sop, rOf, sLoadIn, sLoad, sStoreIn, sStore, sInt, sBin, sIndexAddr, elemT, obind, ev, svs, Env.get, Heap.get, Heap.set, takeN, cut, over, paste, aggOf, cellsS, one, ones, idFree, idFrees, Value.cells, Value.oneCell', OutOK_need, OutOK_stop, Option.isNone_none, undefS, undef, Int.add_zero, Int.cast_ofNat_Int, Bool.and_true, Bool.false_eq_true, List.size_toArray, List.length_cons, List.length_nil, List.range, List.range.loop, List.getElem?_toArray, List.getElem?_cons_succ, List.getElem?_cons_zero, List.map_cons, List.map_nil, List.toList_toArray, ↓reduceIte, Nat.reduceAdd, Nat.reduceLT, Nat.reduceEqDiff, Nat.zero_add, Nat.add_one_ne_zero, Int.reduceToNat, Int.reduceLE, Int.toNat_natCast, and_true, true_and, and_self, forall_const, shAmt_of, IntKind.bits, Int.reducePow, Int.fdiv_eq_ediv_of_nonneg, wrap_i64, wrap_u64, Try.sz81, Try.ag81, Try.underlying127, b1, b2, b3, b6, b7, b9, Mx_len, Qd_len]
      (repeat (refine ⟨by first | omega | (refine ⟨?_, ?_⟩ <;> omega) | trivial | (simp; done) | decide +kernel, fun _ => ?_⟩))
      refine Sat.via (fun i => i) (hz) (by intro i j; (repeat (first | omega | split))) (by repeat' (first | exact EnvVia.nil | refine EnvVia.cons (by first | trivial | decide | (simp [SV.bnd, SV.bndL]; done)) rfl ?_)) (by repeat' (first | exact HeapVia.nil | refine HeapVia.cons (by decide) (by first | trivial | (simp [Blk.bnd, SV.bnd, SV.bndL]; done) | exact bndL_mapV _ _ _ | exact LR.bnd (by rw [l2]; simp [bndE, SV.bnd, SV.bndL]) (by rw [l6]; decide)) (by first | rfl | (simp only [Blk.ren, renL_mapV]; rfl) | (rw [LR.ren (by rw [l2] <;> rfl) (by rw [l6] <;> rfl)]; rfl)) ?_)) ⟨by have := hκ.hm; (try dsimp only at this); (first | done | omega), fun i hi => by have := hκ.hm; (try dsimp only at this); (first | omega | (dsimp only; omega) | (rw [if_neg (by omega)]))⟩ ⟨by simp, rfl⟩
    · simp (disch := omega) only [exec_succ, runR_next, runR_stop, stepS, runOp, goS, toSR, sop, rOf, sInt, sBin, ev, Env.get, exitTo, OutOK_stop, Int.zero_add, List.size_toArray, List.length_cons, List.length_nil, List.range, List.range.loop, List.getElem?_toArray, List.getElem?_cons_succ, List.getElem?_cons_zero, ↓reduceIte, Nat.reduceAdd, Nat.reduceLT, Nat.reduceEqDiff, Nat.zero_add, beq_self_eq_true, wrap_i64]
      obtain rfl : k = 7 := by omega
      rw [Mx_full _ _ (by omega)]
      refine Sat.again ?_
      refine hκ.run 300 ?_
      simp (disch := omega) only [exec_succ, runR_next, runR_need, runR_fork_true, runR_stop, stepS, runOp, condS, toSR, sop, rOf, sInt, sBin, sIndex, elemT, obind, ev, Env.get, takeN, cut, aggOf, OutOK_need, OutOK_stop, Int.cast_ofNat_Int, List.size_toArray, List.length_cons, List.length_nil, List.range, List.range.loop, List.getElem?_toArray, List.getElem?_cons_succ, List.getElem?_cons_zero, ↓reduceIte, Nat.reduceAdd, Nat.reduceLT, Nat.reduceEqDiff, Nat.zero_add, Nat.mul_one, Int.reduceToNat, Int.reduceLT, Int.reduceLE, decide_true, decide_false, true_and, and_self, forall_const, gl0, Try.sz81, Try.ag81, Try.underlying135]
      rw [← Mx_same (T := T2) (N := T1) (c := 1) (fun j hj => by rw [h2, Nat.mul_right_comm]; exact dig_low hj)]
      refine Sat.less (Sat.loop (γ := Nat × Nat) (fun k => ([(11, I k.1), (10, U k.2), (8, I 1), (9, U f1), (21, I 1), (20, .agg [U f0, U f1]), (7, .ptr 2 0 0 0), (6, .ptr 1 0 0 0), (3, .ptr 0 0 0 0), (2, U t)], [(2, .row 1 7 127 (Mx T2 T1 (k.1 + 1))), (1, .row 1 7 127 (Qd 0)), (0, .row 1 7 127 (Qd Q))], 3)) (fun k => 7 - k.1) (fun k => k.1 + 1 ≤ 7 ∧ k.2 = carN T1 Q f1 1 k.1) ?rndT2 (0, 0) ⟨by decide, (car_zero _ _ _ _).symm⟩) (by repeat' (first | exact EnvSub.nil _ | exact HeapSub.nil _ | refine EnvSub.cons rfl ?_ | refine HeapSub.cons rfl ?_ | (refine EnvSub.cons (by simp [Env.get]; done) ?_) | (refine HeapSub.cons (by simp [Heap.get]; done) ?_))) (by repeat' (first | exact EnvSub.nil _ | exact HeapSub.nil _ | refine EnvSub.cons rfl ?_ | refine HeapSub.cons rfl ?_ | (refine EnvSub.cons (by simp [Env.get]; done) ?_) | (refine HeapSub.cons (by simp [Heap.get]; done) ?_)))
      case rndT2 =>
        rintro ⟨k, c⟩ ⟨hk, hc⟩ ih
        dsimp only at hk hc ih ⊢
        refine hκ.run 300 ?_
        simp (disch := omega) only [exec_succ, runR_next, stepS, runOp, condS, toSR, sop, rOf, sInt, sBin, ev, Env.get, List.size_toArray, List.length_cons, List.length_nil, List.range, List.range.loop, List.getElem?_toArray, List.getElem?_cons_succ, List.getElem?_cons_zero, ↓reduceIte, Nat.reduceAdd, Nat.reduceLT, Nat.reduceEqDiff, Nat.zero_add, wrap_i64, gl0]
        refine OutOK_fork (fun h => ?_) (fun h => ?_) <;> try simp only [Bool.not_true, Bool.not_false, decide_eq_true_eq, decide_eq_false_iff_not, Bool.not_eq_true', Bool.not_eq_false', Bool.and_eq_true, Bool.or_eq_false_iff, Bool.or_eq_true, Bool.and_eq_false_iff] at h
        · have hz := fun c h => ih (k + 1, c) ⟨by dsimp only; omega, h⟩ (by dsimp only; omega)
          dsimp only at hz
          obtain ⟨x, y, z, r, c', b1, b2, b3, b4, b5, b6, b7, b8, b9⟩ := times_step (T := T2) (N := T1) (Q := Q) (f := f1) (i := 1) (k := k) (c := c) (j := k + 1) (by omega) (by omega) hm1 hc h2
          have hz := hz c' b8
          have ej : ((k : Int) + 1).toNat = k + 1 := by omega
          simp (disch := omega) only [allQuiet, quietOp, drawS, drawGo, drawN, drawFin, exec_succ, runR_next, runR_need, runR_stop, stepS, runOp, toSR, sop, rOf, sLoadIn, sLoad, sStoreIn, sStore, sInt, sBin, sIndexAddr, elemT, obind, ev, svs, Env.get, Heap.get, Heap.set, takeN, cut, over, paste, aggOf, cellsS, one, ones, idFree, idFrees, Value.cells, Value.oneCell', OutOK_need, OutOK_stop, Option.isNone_none, undefS, undef, Int.cast_ofNat_Int, Bool.and_true, Bool.false_eq_true, List.size_toArray, List.length_cons, List.length_nil, List.range, List.range.loop, List.getElem?_toArray, List.getElem?_cons_succ, List.getElem?_cons_zero, List.map_cons, List.map_nil, List.toList_toArray, ↓reduceIte, Nat.reduceAdd, Nat.reduceLT, Nat.reduceEqDiff, Nat.zero_add, Nat.add_one_ne_zero, Int.reduceToNat, Int.reduceLE, Int.toNat_natCast, and_true, true_and, and_self, forall_const, shAmt_of, IntKind.bits, Int.reducePow, Int.fdiv_eq_ediv_of_nonneg, wrap_i64, wrap_u64, Try.sz81, Try.ag81, Try.underlying127, b1, b2, b3, b6, b7, b9, Mx_len, Qd_len, ej]
          (repeat (refine ⟨by first | omega | (refine ⟨?_, ?_⟩ <;> omega) | trivial | (simp; done) | decide +kernel, fun _ => ?_⟩))
          refine Sat.via (fun i => i) (hz) (by intro i j; (repeat (first | omega | split))) (by repeat' (first | exact EnvVia.nil | refine EnvVia.cons (by first | trivial | decide | (simp [SV.bnd, SV.bndL]; done)) rfl ?_)) (by repeat' (first | exact HeapVia.nil | refine HeapVia.cons (by decide) (by first | trivial | (simp [Blk.bnd, SV.bnd, SV.bndL]; done) | exact bndL_mapV _ _ _ | exact LR.bnd (by rw [l2]; simp [bndE, SV.bnd, SV.bndL]) (by rw [l6]; decide)) (by first | rfl | (simp only [Blk.ren, renL_mapV]; rfl) | (rw [LR.ren (by rw [l2] <;> rfl) (by rw [l6] <;> rfl)]; rfl)) ?_)) ⟨by have := hκ.hm; (try dsimp only at this); (first | done | omega), fun i hi => by have := hκ.hm; (try dsimp only at this); (first | omega | (dsimp only; omega) | (rw [if_neg (by omega)]))⟩ ⟨by simp, rfl⟩
        · simp (disch := omega) only [exec_succ, runR_next, runR_stop, stepS, runOp, goS, toSR, sop, rOf, sInt, sBin, ev, Env.get, exitTo, OutOK_stop, List.size_toArray, List.length_cons, List.length_nil, List.range, List.range.loop, List.getElem?_toArray, List.getElem?_cons_succ, List.getElem?_cons_zero, ↓reduceIte, Nat.reduceAdd, Nat.reduceLT, Nat.reduceEqDiff, Nat.zero_add, Int.reduceAdd, beq_self_eq_true, wrap_i64]
          obtain rfl : k = 6 := by omega
          rw [Mx_full _ _ (by omega)]
          refine Sat.again ?_
          refine hκ.run 300 ?_
          simp (disch := omega) only [sBuild0, exec_succ, runR_next, runR_need, runR_fork_false, runR_stop, stepS, runOp, condS, goS, toSR, sop, rOf, isArr, sInt, sBin, fillS, evps, sBuild, ev, svs, Env.get, over, paste, cellsS, exitTo, Value.cells, OutOK_need, OutOK_stop, Int.cast_ofNat_Int, List.size_toArray, List.length_cons, List.length_nil, List.range, List.range.loop, List.getElem?_toArray, List.getElem?_cons_succ, List.getElem?_cons_zero, List.map_cons, List.map_nil, List.toList_toArray, ↓reduceIte, Nat.reduceAdd, Nat.reduceLT, Nat.reduceEqDiff, Nat.zero_add, Int.reduceAdd, Int.reduceToNat, Int.reduceLT, Int.reduceLE, decide_false, beq_self_eq_true, true_and, and_self, forall_const, shAmt_of, IntKind.bits, Int.reducePow, Int.fdiv_eq_ediv_of_nonneg, gl0, Try.ze135, Try.pl135, Try.ar135, c2, c4]
          refine Sat.enter ?_
          refine hκ.run 300 ?_
          simp (disch := omega) only [exec_succ, runR_next, runR_need, runR_fork_true, runR_stop, stepS, runOp, condS, toSR, sop, rOf, sInt, sBin, sIndex, elemT, obind, ev, Env.get, takeN, cut, aggOf, OutOK_need, OutOK_stop, Int.cast_ofNat_Int, List.size_toArray, List.length_cons, List.length_nil, List.range, List.range.loop, List.getElem?_toArray, List.getElem?_cons_succ, List.getElem?_cons_zero, ↓reduceIte, Nat.reduceAdd, Nat.reduceLT, Nat.reduceEqDiff, Nat.zero_add, Nat.mul_one, Int.reduceToNat, Int.reduceLT, Int.reduceLE, decide_true, true_and, and_self, forall_const, gl0, Try.sz81, Try.ag81, Try.underlying135]
          rw [← Mx_zero T3 T2]
          refine Sat.less (Sat.loop (γ := Nat × Nat) (fun k => ([(15, I k.1), (14, U k.2), (12, I 0), (13, U g0), (58, I 0), (57, .agg [U g0, U g1]), (7, .ptr 2 0 0 0), (6, .ptr 1 0 0 0)], [(2, .row 1 7 127 (Mx T3 T2 (k.1))), (1, .row 1 7 127 (Qd 0)), (0, .row 1 7 127 (Qd Q))], 3)) (fun k => 7 - k.1) (fun k => k.1 + 0 ≤ 7 ∧ k.2 = carN T2 1 g0 0 k.1 + dig 1 k.1 * g0) ?rndT3 (0, g0) ⟨by dsimp only; omega, by rw [car_zero, dig_one0, Nat.one_mul, Nat.zero_add]⟩) (by repeat' (first | exact EnvSub.nil _ | exact HeapSub.nil _ | refine EnvSub.cons rfl ?_ | refine HeapSub.cons rfl ?_ | (refine EnvSub.cons (by simp [Env.get]; done) ?_) | (refine HeapSub.cons (by simp [Heap.get]; done) ?_))) (by repeat' (first | exact EnvSub.nil _ | exact HeapSub.nil _ | refine EnvSub.cons rfl ?_ | refine HeapSub.cons rfl ?_ | (refine EnvSub.cons (by simp [Env.get]; done) ?_) | (refine HeapSub.cons (by simp [Heap.get]; done) ?_)))
          case rndT3 =>
            rintro ⟨k, c⟩ ⟨hk, hc⟩ ih
            dsimp only at hk hc ih ⊢
            refine hκ.run 300 ?_
            simp (disch := omega) only [exec_succ, runR_next, stepS, runOp, condS, toSR, sop, rOf, sInt, sBin, ev, Env.get, List.size_toArray, List.length_cons, List.length_nil, List.range, List.range.loop, List.getElem?_toArray, List.getElem?_cons_succ, List.getElem?_cons_zero, ↓reduceIte, Nat.reduceAdd, Nat.reduceLT, Nat.zero_add, gl0]
            refine OutOK_fork (fun h => ?_) (fun h => ?_) <;> try simp only [Bool.not_true, Bool.not_false, decide_eq_true_eq, decide_eq_false_iff_not, Bool.not_eq_true', Bool.not_eq_false', Bool.and_eq_true, Bool.or_eq_false_iff, Bool.or_eq_true, Bool.and_eq_false_iff] at h
            · have hz := fun c h => ih (k + 1, c) ⟨by dsimp only; omega, h⟩ (by dsimp only; omega)
              dsimp only at hz
              obtain ⟨x, r, c', b1, b5, b6, b7, b8, b9⟩ := more_step (T := T3) (N := T2) (f := g0) (i := 0) (k := k) (c := c) (j := k) (by omega) (by omega) ht0 hc h3
              have hz := hz c' b8
              have ej : ((k : Int) + 1).toNat = k + 1 := by omega
              simp (disch := omega) only [exec_succ, runR_next, runR_need, runR_stop, stepS, runOp, toSR, sop, rOf, sLoadIn, sLoad, sStoreIn, sStore, sInt, sBin, sIndexAddr, elemT, obind, ev, svs, Env.get, Heap.get, Heap.set, takeN, cut, over, paste, aggOf, cellsS, one, ones, idFree, idFrees, Value.cells, Value.oneCell', OutOK_need, OutOK_stop, undefS, undef, Int.cast_ofNat_Int, Bool.and_true, List.size_toArray, List.length_cons, List.length_nil, List.range, List.range.loop, List.getElem?_toArray, List.getElem?_cons_succ, List.getElem?_cons_zero, List.map_cons, List.map_nil, List.toList_toArray, ↓reduceIte, Nat.reduceAdd, Nat.reduceLT, Nat.reduceEqDiff, Nat.zero_add, Int.reduceToNat, Int.reduceLE, Int.toNat_natCast, and_true, true_and, and_self, forall_const, shAmt_of, IntKind.bits, Int.reducePow, Int.fdiv_eq_ediv_of_nonneg, wrap_i64, wrap_u64, Try.sz81, Try.ag81, Try.underlying127, b1, b6, b7, b9, Mx_len]
              (repeat (refine ⟨by first | omega | (refine ⟨?_, ?_⟩ <;> omega) | trivial | (simp; done) | decide +kernel, fun _ => ?_⟩))
              refine Sat.via (fun i => i) (hz) (by intro i j; (repeat (first | omega | split))) (by repeat' (first | exact EnvVia.nil | refine EnvVia.cons (by first | trivial | decide | (simp [SV.bnd, SV.bndL]; done)) rfl ?_)) (by repeat' (first | exact HeapVia.nil | refine HeapVia.cons (by decide) (by first | trivial | (simp [Blk.bnd, SV.bnd, SV.bndL]; done) | exact bndL_mapV _ _ _ | exact LR.bnd (by rw [l2]; simp [bndE, SV.bnd, SV.bndL]) (by rw [l6]; decide)) (by first | rfl | (simp only [Blk.ren, renL_mapV]; rfl) | (rw [LR.ren (by rw [l2] <;> rfl) (by rw [l6] <;> rfl)]; rfl)) ?_)) ⟨by have := hκ.hm; (try dsimp only at this); (first | done | omega), fun i hi => by have := hκ.hm; (try dsimp only at this); (first | omega | (dsimp only; omega) | (rw [if_neg (by omega)]))⟩ ⟨by simp, rfl⟩
            · simp (disch := omega) only [exec_succ, runR_next, runR_stop, stepS, runOp, goS, toSR, sop, rOf, sInt, sBin, ev, Env.get, exitTo, OutOK_stop, Int.zero_add, List.size_toArray, List.length_cons, List.length_nil, List.range, List.range.loop, List.getElem?_toArray, List.getElem?_cons_succ, List.getElem?_cons_zero, ↓reduceIte, Nat.reduceAdd, Nat.reduceLT, Nat.reduceEqDiff, Nat.zero_add, beq_self_eq_true, wrap_i64]
              obtain rfl : k = 7 := by omega
              rw [Mx_full _ _ (by omega)]
              refine Sat.again ?_
              refine hκ.run 300 ?_
              simp (disch := omega) only [exec_succ, runR_next, runR_need, runR_fork_true, runR_stop, stepS, runOp, condS, toSR, sop, rOf, sInt, sBin, sIndex, elemT, obind, ev, Env.get, takeN, cut, aggOf, OutOK_need, OutOK_stop, Int.cast_ofNat_Int, List.size_toArray, List.length_cons, List.length_nil, List.range, List.range.loop, List.getElem?_toArray, List.getElem?_cons_succ, List.getElem?_cons_zero, ↓reduceIte, Nat.reduceAdd, Nat.reduceLT, Nat.reduceEqDiff, Nat.zero_add, Nat.mul_one, Int.reduceToNat, Int.reduceLT, Int.reduceLE, decide_true, decide_false, true_and, and_self, forall_const, gl0, Try.sz81, Try.ag81, Try.underlying135]
              rw [← Mx_same (T := T) (N := T3) (c := 1) (fun j hj => by rw [hT, Nat.mul_one]; exact dig_low hj)]
              refine Sat.less (Sat.loop (γ := Nat × Nat) (fun k => ([(15, I (k.1 + 1 : Nat)), (14, U k.2), (12, I 1), (13, U g1), (58, I 1), (57, .agg [U g0, U g1]), (7, .ptr 2 0 0 0), (6, .ptr 1 0 0 0)], [(2, .row 1 7 127 (Mx T T3 (k.1 + 1))), (1, .row 1 7 127 (Qd 0)), (0, .row 1 7 127 (Qd Q))], 3)) (fun k => 7 - k.1) (fun k => k.1 + 1 ≤ 7 ∧ k.2 = carN T3 1 g1 1 k.1 + dig 1 k.1 * g1) ?rndT (0, g1) ⟨by dsimp only; omega, by rw [car_zero, dig_one0, Nat.one_mul, Nat.zero_add]⟩) (by repeat' (first | exact EnvSub.nil _ | exact HeapSub.nil _ | refine EnvSub.cons rfl ?_ | refine HeapSub.cons rfl ?_ | (refine EnvSub.cons (by simp [Env.get]; done) ?_) | (refine HeapSub.cons (by simp [Heap.get]; done) ?_))) (by repeat' (first | exact EnvSub.nil _ | exact HeapSub.nil _ | refine EnvSub.cons rfl ?_ | refine HeapSub.cons rfl ?_ | (refine EnvSub.cons (by simp [Env.get]; done) ?_) | (refine HeapSub.cons (by simp [Heap.get]; done) ?_)))
              case rndT =>
                rintro ⟨k, c⟩ ⟨hk, hc⟩ ih
                dsimp only at hk hc ih ⊢
                refine hκ.run 300 ?_
                simp (disch := omega) only [exec_succ, runR_next, stepS, runOp, condS, toSR, sop, rOf, sInt, sBin, ev, Env.get, Int.cast_ofNat_Int, Int.natCast_add, List.size_toArray, List.length_cons, List.length_nil, List.range, List.range.loop, List.getElem?_toArray, List.getElem?_cons_succ, List.getElem?_cons_zero, ↓reduceIte, Nat.reduceAdd, Nat.reduceLT, Nat.zero_add, gl0]
                refine OutOK_fork (fun h => ?_) (fun h => ?_) <;> try simp only [Bool.not_true, Bool.not_false, decide_eq_true_eq, decide_eq_false_iff_not, Bool.not_eq_true', Bool.not_eq_false', Bool.and_eq_true, Bool.or_eq_false_iff, Bool.or_eq_true, Bool.and_eq_false_iff] at h
                · have hz := fun c h => ih (k + 1, c) ⟨by dsimp only; omega, h⟩ (by dsimp only; omega)
                  dsimp only at hz
                  obtain ⟨x, r, c', b1, b5, b6, b7, b8, b9⟩ := more_step (T := T) (N := T3) (f := g1) (i := 1) (k := k) (c := c) (j := k + 1) (by omega) (by omega) ht1 hc hT
                  have hz := hz c' b8
                  have ej : ((k : Int) + 1).toNat = k + 1 := by omega
                  simp (disch := omega) only [exec_succ, runR_next, runR_need, runR_stop, stepS, runOp, toSR, sop, rOf, sLoadIn, sLoad, sStoreIn, sStore, sInt, sBin, sIndexAddr, elemT, obind, ev, svs, Env.get, Heap.get, Heap.set, takeN, cut, over, paste, aggOf, cellsS, one, ones, idFree, idFrees, Value.cells, Value.oneCell', OutOK_need, OutOK_stop, undefS, undef, Int.cast_ofNat_Int, Bool.and_true, List.size_toArray, List.length_cons, List.length_nil, List.range, List.range.loop, List.getElem?_toArray, List.getElem?_cons_succ, List.getElem?_cons_zero, List.map_cons, List.map_nil, List.toList_toArray, ↓reduceIte, Nat.reduceAdd, Nat.reduceLT, Nat.reduceEqDiff, Nat.zero_add, Int.reduceToNat, Int.reduceLE, and_true, true_and, and_self, forall_const, shAmt_of, IntKind.bits, Int.reducePow, Int.fdiv_eq_ediv_of_nonneg, wrap_i64, wrap_u64, Try.sz81, Try.ag81, Try.underlying127, b1, b6, b7, b9, Mx_len, ej]
                  (repeat (refine ⟨by first | omega | (refine ⟨?_, ?_⟩ <;> omega) | trivial | (simp; done) | decide +kernel, fun _ => ?_⟩))
                  simp only [List.length_append, List.length_cons, List.length_nil, List.length_singleton, List.length_map, List.length_set, List.length_replicate, Nat.zero_add, Nat.add_zero, Int.natCast_add, Int.natCast_one, Int.ofNat_eq_natCast, List.map_append, List.map_cons, List.map_nil, List.take_length, eI, eB] at hz ⊢
                  refine Sat.via (fun i => i) (hz) (by intro i j; (repeat (first | omega | split))) (by repeat' (first | exact EnvVia.nil | refine EnvVia.cons (by first | trivial | decide | (simp [SV.bnd, SV.bndL]; done)) rfl ?_)) (by repeat' (first | exact HeapVia.nil | refine HeapVia.cons (by decide) (by first | trivial | (simp [Blk.bnd, SV.bnd, SV.bndL]; done) | exact bndL_mapV _ _ _ | exact LR.bnd (by rw [l2]; simp [bndE, SV.bnd, SV.bndL]) (by rw [l6]; decide)) (by first | rfl | (simp only [Blk.ren, renL_mapV]; rfl) | (rw [LR.ren (by rw [l2] <;> rfl) (by rw [l6] <;> rfl)]; rfl)) ?_)) ⟨by have := hκ.hm; (try dsimp only at this); (first | done | omega), fun i hi => by have := hκ.hm; (try dsimp only at this); (first | omega | (dsimp only; omega) | (rw [if_neg (by omega)]))⟩ ⟨by simp, rfl⟩
                · simp (disch := omega) only [exec_succ, runR_next, runR_stop, stepS, runOp, goS, toSR, sop, rOf, sInt, sBin, ev, Env.get, exitTo, OutOK_stop, List.size_toArray, List.length_cons, List.length_nil, List.range, List.range.loop, List.getElem?_toArray, List.getElem?_cons_succ, List.getElem?_cons_zero, ↓reduceIte, Nat.reduceAdd, Nat.reduceLT, Nat.reduceEqDiff, Nat.zero_add, Int.reduceAdd, beq_self_eq_true, wrap_i64]
                  obtain rfl : k = 6 := by omega
                  rw [Mx_full _ _ (by omega)]
                  refine Sat.again ?_
                  refine hκ.run 300 ?_
                  simp (disch := omega) only [exec_succ, runR_next, runR_need, runR_fork_false, runR_stop, stepS, runOp, condS, goS, toSR, sop, sLoadIn, sLoad, sStoreArr, sStore, sInt, sBin, ev, Env.get, Heap.get, Heap.set, exitTo, OutOK_need, OutOK_stop, undefS, undef, Int.cast_ofNat_Int, List.size_toArray, List.length_cons, List.length_nil, List.range, List.range.loop, List.getElem?_toArray, List.getElem?_cons_succ, List.getElem?_cons_zero, ↓reduceIte, Nat.reduceAdd, Nat.reduceLT, Nat.reduceEqDiff, Nat.zero_add, Nat.mul_one, Nat.add_one_ne_zero, Int.reduceAdd, Int.reduceLT, decide_false, beq_self_eq_true, ne_eq, not_false_eq_true, true_and, and_self, forall_const, gl0, Try.sz127, Try.ag127, Qd_len]
                  (repeat (refine ⟨by first | omega | (refine ⟨?_, ?_⟩ <;> omega) | trivial | (simp; done) | decide +kernel, fun _ => ?_⟩))
                  refine hκ.ret _ _ _ _ _ _ trivial rfl ?_
                  exact .ret trivial
end Go.Proofs.Ytbjhphjpdeblnaa.Sh

/- Whole numbers of 128 bits: what they are made of. No condition. -/
import Derived.Test.YtbjhphjpdeblnaaSa
namespace Go.Proofs.Ytbjhphjpdeblnaa.Sh
open Go Go.Sy
set_option maxRecDepth 100000
set_option linter.unusedSimpArgs false
set_option linter.unusedVariables false

/-- A number of 128 bits: its upper half, its lower one. -/
abbrev W (n : Nat) : SV := .agg [U (n / 18446744073709551616), U (n % 18446744073709551616)]
theorem bv64 (n : Nat) : BitVec.ofInt 64 (n : Int) = BitVec.ofNat 64 n := by simp
theorem and64 {a b : Nat} (ha : a < 18446744073709551616) (hb : b < 18446744073709551616) : ibits .and .u64 (a : Int) (b : Int) = ((a &&& b : Nat) : Int) := by
  show IntKind.u64.wrap (((BitVec.ofInt 64 (a : Int)) &&& (BitVec.ofInt 64 (b : Int))).toNat : Int) = _
  rw [bv64, bv64, BitVec.toNat_and, BitVec.toNat_ofNat, BitVec.toNat_ofNat, Nat.mod_eq_of_lt ha, Nat.mod_eq_of_lt hb]
  have := Nat.and_le_left (n := a) (m := b)
  exact wrap_u64 (by omega) (by omega)
theorem or64 {a b : Nat} (ha : a < 18446744073709551616) (hb : b < 18446744073709551616) : ibits .or .u64 (a : Int) (b : Int) = ((a ||| b : Nat) : Int) := by
  show IntKind.u64.wrap (((BitVec.ofInt 64 (a : Int)) ||| (BitVec.ofInt 64 (b : Int))).toNat : Int) = _
  rw [bv64, bv64, BitVec.toNat_or, BitVec.toNat_ofNat, BitVec.toNat_ofNat, Nat.mod_eq_of_lt ha, Nat.mod_eq_of_lt hb]
  have : a ||| b < 2 ^ 64 := Nat.or_lt_two_pow ha hb
  exact wrap_u64 (by omega) (by omega)
theorem low64 {a : Nat} (ha : a < 18446744073709551616) : ibits .and .u64 (a : Int) 4294967295 = ((a % 4294967296 : Nat) : Int) := by
  have := and64 ha (show 4294967295 < 18446744073709551616 by decide)
  rw [Nat.and_two_pow_sub_one_eq_mod a 32] at this
  exact this
theorem Qd_of {n : Nat} (h : n < 2 ^ 128) : Qd n = [[U (n % 18446744073709551616 % 4294967296)], [U (n % 18446744073709551616 / 4294967296)], [U (n / 18446744073709551616 % 4294967296)], [U (n / 18446744073709551616 / 4294967296)], [U 0], [U 0], [U 0]] := by
  have e0 : dig n 0 = n % 18446744073709551616 % 4294967296 := by simp only [dig] <;> omega
  have e1 : dig n 1 = n % 18446744073709551616 / 4294967296 := by simp only [dig] <;> omega
  have e2 : dig n 2 = n / 18446744073709551616 % 4294967296 := by simp only [dig] <;> omega
  have e3 : dig n 3 = n / 18446744073709551616 / 4294967296 := by simp only [dig] <;> omega
  have e4 : dig n 4 = 0 := by simp only [dig] <;> omega
  have e5 : dig n 5 = 0 := by simp only [dig] <;> omega
  have e6 : dig n 6 = 0 := by simp only [dig] <;> omega
  rw [← e0, ← e1, ← e2, ← e3]
  show [[U (dig n 0)], [U (dig n 1)], [U (dig n 2)], [U (dig n 3)], [U (dig n 4)], [U (dig n 5)], [U (dig n 6)]] = _
  rw [e4, e5, e6]
theorem W_small {n : Nat} (h : n < 2 ^ 64) : W n = .agg [U 0, U n] := by
  rw [W, Nat.div_eq_of_lt (by omega), Nat.mod_eq_of_lt (by omega)]
theorem wof_ok (n : Nat) (h : n < 2 ^ 128) : Con Try.prog gl0 (fnv 85) [W n] 0 [] (Ret (.arr 1 (Qd n))) := by
  have c1 := low64 (a := n % 18446744073709551616) (by omega)
  have c2 := low64 (a := n / 18446744073709551616) (by omega)
  have c3 : ((n % 18446744073709551616 : Nat) : Int) / 4294967296 = ((n % 18446744073709551616 / 4294967296 : Nat) : Int) := by omega
  have c4 : ((n / 18446744073709551616 : Nat) : Int) / 4294967296 = ((n / 18446744073709551616 / 4294967296 : Nat) : Int) := by omega
  rw [Qd_of h]
  refine Con.of Try.ok85 (nt := 16) (res := [.cell 2 127]) Try.mixed Try.func85 rfl rfl rfl rfl fun κ xc hκ => hκ.run 300 ?_
  simp (disch := omega) only [sBuildA, exec_succ, runR_next, runR_need, runR_stop, stepS, runOp, toSR, sop, rOf, rNew, sAlloc, sBox, isArr, sLoadIn, sLoad, sStoreArr, sStore, sInt, sBin, sFieldAddr, fillS, evps, sBuild, chunk, ev, svs, Env.get, Heap.get, Heap.set, takeN, cut, over, paste, aggOf, cellsS, one, ones, idFree, idFrees, envOf, Value.cells, Value.oneCell', OutOK_need, OutOK_stop, undefS, undef, Bool.and_true, List.drop_zero, List.drop_succ_cons, List.take_zero, List.take_succ_cons, List.take_nil, Bool.false_eq_true, List.size_toArray, List.length_cons, List.length_nil, List.range, List.range.loop, List.getElem?_toArray, List.getElem?_cons_succ, List.getElem?_cons_zero, List.map_cons, List.map_nil, List.toList_toArray, ↓reduceIte, Nat.reduceAdd, Nat.reduceLT, Nat.reduceEqDiff, Nat.zero_add, Nat.add_zero, Nat.mul_one, Nat.add_one_ne_zero, Int.reduceToNat, Int.reduceLE, ne_eq, not_false_eq_true, true_and, and_self, forall_const, shAmt_of, IntKind.bits, Int.reducePow, Int.fdiv_eq_ediv_of_nonneg, gl0, Try.sz81, Try.ag81, Try.fd83f0, Try.fd83f1, Try.sz127, Try.ze127, Try.pl127, Try.ar127, c1, c2, c3, c4]
  refine hκ.ret _ _ _ _ _ _ trivial rfl ?_
  exact .ret trivial
theorem wOf_ok (n : Nat) (h : n < 2 ^ 64) : Con Try.prog gl0 (fnv 48) [U n] 0 [] (Ret (W n)) := by
  rw [W_small h]
  refine Con.of Try.ok48 (nt := 5) (res := [.cell 2 83]) Try.mixed Try.func48 rfl rfl rfl rfl fun κ xc hκ => hκ.run 300 ?_
  simp (disch := omega) only [sBuild0, exec_succ, runR_next, runR_need, runR_stop, stepS, runOp, toSR, sop, rOf, rNew, sAlloc, sAlloc0, isArr, sStoreIn, sStore, fillS, evps, sBuild, ev, svs, Env.get, Heap.get, Heap.set, over, paste, cellsS, one, ones, envOf, Value.cells, Value.oneCell', OutOK_need, OutOK_stop, undefS, undef, List.size_toArray, List.length_cons, List.length_nil, List.range, List.range.loop, List.getElem?_toArray, List.getElem?_cons_succ, List.getElem?_cons_zero, List.map_cons, List.map_nil, List.toList_toArray, ↓reduceIte, Nat.reduceAdd, Nat.reduceLT, Nat.reduceEqDiff, Nat.zero_add, Nat.add_one_ne_zero, true_and, and_self, forall_const, gl0, Try.sz83, Try.ze83, Try.pl83, Try.ar83]
  refine hκ.ret _ _ _ _ _ _ trivial rfl ?_
  exact .ret (by simp [SV.bnd, SV.bndL])
theorem hi_lo {a b : Nat} (hb : b < 4294967296) : a * 4294967296 ||| b = a * 4294967296 + b := by
  have := Nat.two_pow_add_eq_or_of_lt (i := 32) hb a
  rw [Nat.mul_comm] at this
  exact this.symm
theorem wide_ok (N : Nat) (h : N < 2 ^ 224) : Con Try.prog gl0 (fnv 87) [.arr 1 (Qd N)] 0 [] (Ret (.tup [W (N % 2 ^ 128), Bo (decide (N < 2 ^ 128))])) := by
  have d0 := dig_lt N 0
  have d1 := dig_lt N 1
  have d2 := dig_lt N 2
  have d3 := dig_lt N 3
  have e : Qd N = [[U (dig N 0)], [U (dig N 1)], [U (dig N 2)], [U (dig N 3)], [U (dig N 4)], [U (dig N 5)], [U (dig N 6)]] := rfl
  have hW : W (N % 2 ^ 128) = .agg [.v (.int .u64 (((dig N 3 * 4294967296 : Nat) : Int) + (dig N 2 : Nat))), .v (.int .u64 (((dig N 1 * 4294967296 : Nat) : Int) + (dig N 0 : Nat)))] := by
    have h1 : ((N % 2 ^ 128 / 18446744073709551616 : Nat) : Int) = ((dig N 3 * 4294967296 : Nat) : Int) + (dig N 2 : Nat) := by simp only [dig]; omega
    have h2 : ((N % 2 ^ 128 % 18446744073709551616 : Nat) : Int) = ((dig N 1 * 4294967296 : Nat) : Int) + (dig N 0 : Nat) := by simp only [dig]; omega
    rw [W, U, U, h1, h2]
  have h4 : N < 2 ^ 128 ↔ dig N 4 = 0 ∧ dig N 5 = 0 ∧ dig N 6 = 0 := by simp only [dig]; omega
  rw [e, hW]
  have s1 : ((dig N 3 : Nat) : Int) * 4294967296 = ((dig N 3 * 4294967296 : Nat) : Int) := by omega
  have s2 : ((dig N 1 : Nat) : Int) * 4294967296 = ((dig N 1 * 4294967296 : Nat) : Int) := by omega
  have o1 := or64 (a := dig N 3 * 4294967296) (b := dig N 2) (by omega) (by omega)
  have o2 := or64 (a := dig N 1 * 4294967296) (b := dig N 0) (by omega) (by omega)
  rw [hi_lo d2] at o1
  rw [hi_lo d0] at o2
  generalize dig N 0 = x0 at *
  generalize dig N 1 = x1 at *
  generalize dig N 2 = x2 at *
  generalize dig N 3 = x3 at *
  generalize dig N 4 = x4 at *
  generalize dig N 5 = x5 at *
  generalize dig N 6 = x6 at *
  refine Con.of Try.ok87 (nt := 30) (res := [.cell 2 83, .tmp 3]) Try.mixed Try.func87 rfl rfl rfl rfl fun κ xc hκ => hκ.run 300 ?_
  simp (disch := omega) only [sBoxA, allQuiet, quietOp, drawS, exec_succ, runR_next, runR_need, runR_stop, stepS, runOp, toSR, sop, rOf, rNew, sAlloc, sAlloc0, sBox, isArr, ev, svs, Env.get, envOf, OutOK_need, OutOK_stop, Option.isNone_none, Option.isNone_some, Bool.and_true, Bool.and_false, List.size_toArray, List.length_cons, List.length_nil, List.range, List.range.loop, List.getElem?_toArray, List.getElem?_cons_succ, List.getElem?_cons_zero, List.map_cons, List.map_nil, ↓reduceIte, Nat.reduceAdd, Nat.reduceLT, Nat.zero_add, true_and, forall_const, gl0, Try.ze83, Try.ar83, Try.ar127]
  by_cases e4 : x4 = 0
  case neg =>
    rw [decide_eq_false (fun h => e4 (h4.1 h).1)] at hκ
    have f4 : ((x4 : Int) = 0) = False := by first | (simp only [eq_iff_iff, iff_false]; first | assumption | omega) | (simp; omega)
    refine hκ.draw (.q 0 (.q 1 (.q 2 (.q 3 (.q 4 (.q 5 (.q 6 (.q 7 (.q 8 (.q 9 (.q 10 (.q 11 (.q 12 (.q 13 (.q 14 (.q 15 (.q 16 (.q 17 (.q 18 (.q 19 (.q 20 (.q 21 (.q 22 (.q 23 (.q 24 (.q 25 (.l 26 [14, 18, 23] (.q 27 (.fin))))))))))))))))))))))))))))) [0, 1, 2, 3, 4, 5, 6, 7, 8, 9, 10, 11, 12, 13, 14, 15, 16, 17, 18, 19, 20, 21, 22, 23, 24, 25, 27] (by kernel_rfl) (by kernel_rfl) rfl ?_
    simp (disch := omega) only [sBuild0, sop, rOf, sPick, isArr, sLoadIn, sLoad, sStoreIn, sStore, sInt, sBin, sIndexAddr, elemT, obind, fillS, evps, sBuild, ev, svs, Env.get, Heap.get, Heap.set, takeN, cut, over, paste, aggOf, cellsS, one, ones, setO, Value.cells, Value.oneCell', drawP_fin, drawP_q, drawP_l, dnext, dq, dqn, dl, slotR, ag, GF.ft, guardP, R1Q, dstOK, loudP, again, again1, slotIs, R1OK, undefS, undef, Int.cast_ofNat_Int, Int.natCast_add, List.length_cons, List.length_nil, List.getElem?_toArray, List.getElem?_cons_succ, List.getElem?_cons_zero, List.getD_cons_zero, List.getD_cons_succ, List.map_cons, List.map_nil, Option.bind_some, List.toList_toArray, ↓reduceIte, Nat.reduceAdd, Nat.reduceLT, Nat.reduceEqDiff, Nat.zero_add, Nat.add_one_ne_zero, Int.reduceToNat, Int.reduceLT, Int.reduceLE, decide_false, true_and, and_self, forall_const, shAmt_of, IntKind.bits, Int.reducePow, wrap_u64, gl0, Try.sz81, Try.ag81, Try.sz83, Try.ze83, Try.pl83, Try.ar83, Try.underlying127, f4, s1, s2, o1, o2]
    refine hκ.run 300 ?_
    simp (disch := omega) only [exec_succ, runR_stop, stepS, OutOK_stop, gl0]
    refine hκ.ret _ _ _ _ _ _ trivial rfl ?_
    exact .ret (by simp [SV.bnd, SV.bndL])
  have f4 : ((x4 : Int) = 0) = True := by first | (simp only [eq_iff_iff, iff_true]; first | assumption | omega) | (simp; omega)
  by_cases e5 : x5 = 0
  case neg =>
    rw [decide_eq_false (fun h => e5 (h4.1 h).2.1)] at hκ
    have f5 : ((x5 : Int) = 0) = False := by first | (simp only [eq_iff_iff, iff_false]; first | assumption | omega) | (simp; omega)
    refine hκ.draw (.q 0 (.q 1 (.q 2 (.q 3 (.q 4 (.q 5 (.q 6 (.q 7 (.q 8 (.q 9 (.q 10 (.q 11 (.q 12 (.q 13 (.q 14 (.q 15 (.q 16 (.q 17 (.q 18 (.q 19 (.q 20 (.q 21 (.q 22 (.q 23 (.q 24 (.q 25 (.l 26 [14, 18, 23] (.q 27 (.fin))))))))))))))))))))))))))))) [0, 1, 2, 3, 4, 5, 6, 7, 8, 9, 10, 11, 12, 13, 14, 15, 16, 17, 18, 19, 20, 21, 22, 23, 24, 25, 27] (by kernel_rfl) (by kernel_rfl) rfl ?_
    simp (disch := omega) only [sBuild0, sop, rOf, sPick, isArr, sLoadIn, sLoad, sStoreIn, sStore, sInt, sBin, sIndexAddr, elemT, obind, fillS, evps, sBuild, ev, svs, Env.get, Heap.get, Heap.set, takeN, cut, over, paste, aggOf, cellsS, one, ones, setO, Value.cells, Value.oneCell', drawP_fin, drawP_q, drawP_l, dnext, dq, dqn, dl, slotR, ag, GF.tt, GF.ft, guardP, R1Q, dstOK, loudP, again, again1, slotIs, R1OK, undefS, undef, Int.cast_ofNat_Int, Int.natCast_add, List.length_cons, List.length_nil, List.getElem?_toArray, List.getElem?_cons_succ, List.getElem?_cons_zero, List.getD_cons_zero, List.getD_cons_succ, List.map_cons, List.map_nil, Option.bind_some, List.toList_toArray, ↓reduceIte, Nat.reduceAdd, Nat.reduceLT, Nat.reduceEqDiff, Nat.zero_add, Nat.add_one_ne_zero, Int.reduceToNat, Int.reduceLT, Int.reduceLE, decide_true, decide_false, true_and, and_self, forall_const, shAmt_of, IntKind.bits, Int.reducePow, wrap_u64, gl0, Try.sz81, Try.ag81, Try.sz83, Try.ze83, Try.pl83, Try.ar83, Try.underlying127, f4, f5, s1, s2, o1, o2]
    refine hκ.run 300 ?_
    simp (disch := omega) only [exec_succ, runR_stop, stepS, OutOK_stop, gl0]
    refine hκ.ret _ _ _ _ _ _ trivial rfl ?_
    exact .ret (by simp [SV.bnd, SV.bndL])
  have f5 : ((x5 : Int) = 0) = True := by first | (simp only [eq_iff_iff, iff_true]; first | assumption | omega) | (simp; omega)
  by_cases e6 : x6 = 0
  case neg =>
    rw [decide_eq_false (fun h => e6 (h4.1 h).2.2)] at hκ
    have f6 : ((x6 : Int) = 0) = False := by first | (simp only [eq_iff_iff, iff_false]; first | assumption | omega) | (simp; omega)
    refine hκ.draw (.q 0 (.q 1 (.q 2 (.q 3 (.q 4 (.q 5 (.q 6 (.q 7 (.q 8 (.q 9 (.q 10 (.q 11 (.q 12 (.q 13 (.q 14 (.q 15 (.q 16 (.q 17 (.q 18 (.q 19 (.q 20 (.q 21 (.q 22 (.q 23 (.q 24 (.q 25 (.l 26 [14, 18, 23] (.q 27 (.fin))))))))))))))))))))))))))))) [0, 1, 2, 3, 4, 5, 6, 7, 8, 9, 10, 11, 12, 13, 14, 15, 16, 17, 18, 19, 20, 21, 22, 23, 24, 25, 27] (by kernel_rfl) (by kernel_rfl) rfl ?_
    simp (disch := omega) only [sBuild0, sop, rOf, sPick, isArr, sLoadIn, sLoad, sStoreIn, sStore, sInt, sBin, sIndexAddr, elemT, obind, fillS, evps, sBuild, ev, svs, Env.get, Heap.get, Heap.set, takeN, cut, over, paste, aggOf, cellsS, one, ones, setO, Value.cells, Value.oneCell', drawP_fin, drawP_q, drawP_l, dnext, dq, dqn, dl, slotR, ag, GF.tt, guardP, R1Q, dstOK, loudP, again, again1, slotIs, R1OK, undefS, undef, Int.cast_ofNat_Int, Int.natCast_add, List.length_cons, List.length_nil, List.getElem?_toArray, List.getElem?_cons_succ, List.getElem?_cons_zero, List.getD_cons_zero, List.getD_cons_succ, List.map_cons, List.map_nil, Option.bind_some, List.toList_toArray, ↓reduceIte, Nat.reduceAdd, Nat.reduceLT, Nat.reduceEqDiff, Nat.zero_add, Nat.add_one_ne_zero, Int.reduceToNat, Int.reduceLT, Int.reduceLE, decide_true, decide_false, true_and, and_self, forall_const, shAmt_of, IntKind.bits, Int.reducePow, wrap_u64, gl0, Try.sz81, Try.ag81, Try.sz83, Try.ze83, Try.pl83, Try.ar83, Try.underlying127, f4, f5, f6, s1, s2, o1, o2]
    refine hκ.run 300 ?_
    simp (disch := omega) only [exec_succ, runR_stop, stepS, OutOK_stop, gl0]
    refine hκ.ret _ _ _ _ _ _ trivial rfl ?_
    exact .ret (by simp [SV.bnd, SV.bndL])
  rw [decide_eq_true (h4.2 ⟨e4, e5, e6⟩)] at hκ
  have f6 : ((x6 : Int) = 0) = True := by first | (simp only [eq_iff_iff, iff_true]; first | assumption | omega) | (simp; omega)
  refine hκ.draw (.q 0 (.q 1 (.q 2 (.q 3 (.q 4 (.q 5 (.q 6 (.q 7 (.q 8 (.q 9 (.q 10 (.q 11 (.q 12 (.q 13 (.q 14 (.q 15 (.q 16 (.q 17 (.q 18 (.q 19 (.q 20 (.q 21 (.q 22 (.q 23 (.q 24 (.q 25 (.l 26 [14, 18, 23] (.q 27 (.fin))))))))))))))))))))))))))))) [0, 1, 2, 3, 4, 5, 6, 7, 8, 9, 10, 11, 12, 13, 14, 15, 16, 17, 18, 19, 20, 21, 22, 23, 24, 25, 27] (by kernel_rfl) (by kernel_rfl) rfl ?_
  simp (disch := omega) only [sBuild0, sop, rOf, sPick, isArr, sLoadIn, sLoad, sStoreIn, sStore, sInt, sBin, sIndexAddr, elemT, obind, fillS, evps, sBuild, ev, svs, Env.get, Heap.get, Heap.set, takeN, cut, over, paste, aggOf, cellsS, one, ones, setO, Value.cells, Value.oneCell', drawP_fin, drawP_q, drawP_l, dnext, dq, dqn, dl, slotR, ag, GF.tt, guardP, R1Q, dstOK, loudP, again, again1, slotIs, R1OK, undefS, undef, Int.cast_ofNat_Int, Int.natCast_add, List.length_cons, List.length_nil, List.getElem?_toArray, List.getElem?_cons_succ, List.getElem?_cons_zero, List.getD_cons_zero, List.getD_cons_succ, List.map_cons, List.map_nil, Option.bind_some, List.toList_toArray, ↓reduceIte, Nat.reduceAdd, Nat.reduceLT, Nat.reduceEqDiff, Nat.zero_add, Nat.add_one_ne_zero, Int.reduceToNat, Int.reduceLT, Int.reduceLE, decide_true, true_and, and_self, forall_const, shAmt_of, IntKind.bits, Int.reducePow, wrap_u64, gl0, Try.sz81, Try.ag81, Try.sz83, Try.ze83, Try.pl83, Try.ar83, Try.underlying127, f4, f5, f6, s1, s2, o1, o2]
  refine hκ.run 300 ?_
  simp (disch := omega) only [exec_succ, runR_stop, stepS, OutOK_stop, gl0]
  refine hκ.ret _ _ _ _ _ _ trivial rfl ?_
  exact .ret (by simp [SV.bnd, SV.bndL])
end Go.Proofs.Ytbjhphjpdeblnaa.Sh

/- Walks of the reference's words on sets. No condition. -/
import Derived.Test.YtbjhphjpdeblnaaCl
namespace Go.Proofs.Ytbjhphjpdeblnaa
open Go Go.Sy
set_option maxRecDepth 100000
set_option linter.unusedSimpArgs false
set_option linter.unusedVariables false

abbrev Is (l : List Int) : SV := .rd 1 (l.map (eI .i64))
theorem take_eq_succ' {α : Type} [Inhabited α] {us bs : List α} {k : Nat} (ha : k < us.length) (hb : k < bs.length) (h : us.take k = bs.take k) (e : us.getD k default = bs.getD k default) : us.take (k + 1) = bs.take (k + 1) := by
  rw [List.take_succ_eq_append_getElem ha, List.take_succ_eq_append_getElem hb, h]
  simp only [List.getD, List.getElem?_eq_getElem ha, List.getElem?_eq_getElem hb, Option.getD_some] at e
  rw [e]
theorem drop_find {p : Int → Bool} {l : List Int} {k : Nat} (h : k < l.length) : (l.drop k).find? p = if p (l.getD k default) = true then some (l.getD k default) else (l.drop (k + 1)).find? p := by
  rw [List.drop_eq_getElem_cons h, List.find?_cons]
  simp only [List.getD, List.getElem?_eq_getElem h, Option.getD_some]
  cases p l[k] <;> rfl
theorem bit_div (s c : Nat) : decide ((s : Int) / 2 ^ c % 2 = 1) = s.testBit c := by
  rw [Nat.testBit_eq_decide_div_mod_eq]
  apply decide_eq_decide.2
  have : (s : Int) / 2 ^ c % 2 = ((s / 2 ^ c % 2 : Nat) : Int) := by simp
  rw [this]; omega

theorem rright_ok (s : Nat) : Con Try.prog gl0 (fnv 82) [S s] 0 [] (Ret (Bo (decide (s < 256)))) := by
  refine Con.of Try.ok82 (nt := 5) (res := [.tmp 2]) Try.mixed Try.func82 rfl rfl rfl rfl fun κ xc hκ => hκ.run 300 ?_
  simp (disch := omega) only [sBuiltin, srcS, zerosS, appArgS, appNew, sAppendTo, sAppend, sCopy, sMakeSlice, sMinMax, sMakeMap, sLookup, sLookupIn, sMapUp, sMapUpIn, keyS, intCells, allQuiet, quietOp, drawS, drawGo, drawN, drawSkip, drawG, drawFin, exec_zero, exec_succ, runR_next, runR_need, runR_all, runR_fork_true, runR_fork_false, runR_guard_tt, runR_guard_ff, runR_guard_tf, runR_guard_ft, runR_call, runR_stop, runR_fail, stepS, runOp, guardS, condS, goS, toSR, sop, rOf, rNew, sPick, sAlloc, sAlloc0, sBox, isArr, sLoadIn, sLoad, sStoreIn, sStoreArr, sStore, sNil, sInt, sEq, sEqR, sEqAgg, aggS, eqCells, sBin, sUn, sConv, sMakeFunc, sFieldAddr, sField, sIndexAddr, sIndex, sExtract, sLen, sCap, optI, sSlice, cutL, elemT, sliceT, obind, fillS, evps, sBuild, repeatL, sBuildSlice, chunk, ev, evs, glS, Gl.get, svs, vals, Env.get, Heap.get, Heap.set, Heap.drop, takeN, cut, over, paste, aggOf, cellsS, one, ones, idFree, idFrees, idFree', setO, exitTo, gotoIn, findLabel, envOf, Value.cells, Value.oneCell', OutOK_need, OutOK_all, OutOK_call, OutOK_stop, OutOK_fail, drawP_fin, drawP_q, drawP_l, dnext, dq, dqn, dl, slotR, ag, GF.tt, GF.ff, GF.tf, GF.ft, guardP, R1Q, dstOK, Option.isNone_none, Option.isNone_some, loudP, again, again1, slotIs, R1OK, undefS, undef, dropL, without, List.mem_singleton, halt, isDraw, drawC, execD_zero, execD_succ, drawP_m, drawP_or, isAt, atC, execA_zero, execA_succ, isOp, execO_zero, execO_succ, sClear, sAppendToC, sAppendC, sBuiltinC, sopC, loudC, dlc, drawP_c, frzOk, frzR, eq_self, resV, Int.toNat_add_nat, Int.zero_add, Int.add_zero, Int.sub_zero, Int.cast_ofNat_Int, Int.natCast_add, Int.natCast_one, List.all_cons, List.all_nil, Bool.and_true, Bool.true_and, Bool.and_false, Bool.false_and, List.drop_zero, List.drop_succ_cons, List.take_zero, List.take_succ_cons, List.take_nil, List.drop_nil, List.take_length, List.drop_length, Bool.false_eq_true, List.size_toArray, List.length_cons, List.length_nil, List.length_map, List.length_append, List.length_replicate, List.length_set, List.range, List.range.loop, List.getElem?_toArray, List.getElem?_cons_succ, List.getElem?_cons_zero, List.getElem?_nil, List.getD_cons_zero, List.getD_cons_succ, List.map_cons, List.map_nil, List.append_nil, List.cons_append, List.nil_append, Option.bind_some, Option.bind_none, Option.map_some, Option.map_none, Option.getD_some, Option.getD_none, Option.isSome_some, Option.isSome_none, List.toList_toArray, ↓reduceIte, Nat.reduceAdd, Nat.reduceMul, Nat.reduceSub, Nat.reduceLT, Nat.reduceLeDiff, Nat.reduceEqDiff, Nat.zero_add, Nat.add_zero, Nat.mul_zero, Nat.zero_mul, Nat.mul_one, Nat.one_mul, Nat.sub_zero, Nat.add_one_ne_zero, Nat.reduceBEq, Int.reduceAdd, Int.reduceSub, Int.reduceMul, Int.reduceToNat, Int.reduceLT, Int.reduceLE, Int.reduceEq, Int.reduceNeg, Int.toNat_natCast, Int.ofNat_eq_natCast, decide_eq_true_eq, decide_eq_false_iff_not, Bool.not_eq_true', Bool.not_eq_false', Bool.not_true, Bool.not_false, Bool.or_false, Bool.or_true, Bool.false_or, Bool.true_or, decide_true, decide_false, beq_self_eq_true, ne_eq, not_true_eq_false, not_false_eq_true, and_true, true_and, and_self, forall_const, true_implies, implies_true, reduceCtorEq, imp_self, Option.some.injEq, List.singleton_append, getD_map, eI, eB, shAmt_of, IntKind.bits, Int.reducePow, Int.tdiv_eq_ediv_of_nonneg, Int.tmod_eq_emod_of_nonneg, Int.fdiv_eq_ediv_of_nonneg, wrap_i64, wrap_u64, wrap_u32, wrap_u16, wrap_u8, wrap_i32, gl0, Try.underlying4, Try.sz4, Try.ag4, Try.ze4, Try.by4, Try.ar4, Try.underlying62, Try.sz62, Try.ag62, Try.ze62, Try.by62, Try.ar62, Try.underlying63, Try.sz63, Try.ag63, Try.ze63, Try.by63, Try.ar63]
  refine hκ.ret _ _ _ _ _ _ trivial rfl ?_
  rw [show decide (s < 256) = decide ((s : Int) < 256) from decide_eq_decide.2 (by omega)]
  exact .ret trivial
end Go.Proofs.Ytbjhphjpdeblnaa

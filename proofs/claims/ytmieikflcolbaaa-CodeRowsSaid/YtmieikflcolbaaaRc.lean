/- The document's words: the letters of a kind. No condition. Printed by gen_rc.py. -/
import Derived.Test.YtmieikflcolbaaaWa
namespace Go.Proofs.Ytmieikflcolbaaa
open Go Go.Sy
set_option maxRecDepth 100000
set_option linter.unusedSimpArgs false
set_option linter.unusedVariables false
set_option maxHeartbeats 4000000
theorem pl110 : tyPlaces Try.prog 110 = some [(0, 1), (1, 1), (2, 1), (3, 1), (4, 1), (5, 1), (6, 1), (7, 1), (8, 1), (9, 1), (10, 1), (11, 1), (12, 1), (13, 1), (14, 1), (15, 1), (16, 1), (17, 1), (18, 1), (19, 1), (20, 1)] := by kernel_rfl
def cAll : List (List SV) := [[.v (.string ⟨#[]⟩)], [.v (.string ⟨#[100, 119, 99, 113]⟩)], [.v (.string ⟨#[100]⟩)], [.v (.string ⟨#[100, 109]⟩)], [.v (.string ⟨#[118]⟩)], [.v (.string ⟨#[118]⟩)], [.v (.string ⟨#[118]⟩)], [.v (.string ⟨#[118]⟩)], [.v (.string ⟨#[118]⟩)], [.v (.string ⟨#[118]⟩)], [.v (.string ⟨#[118, 110, 97]⟩)], [.v (.string ⟨#[118]⟩)], [.v (.string ⟨#[118]⟩)], [.v (.string ⟨#[112, 111]⟩)], [.v (.string ⟨#[112]⟩)], [.v (.string ⟨#[112]⟩)], [.v (.string ⟨#[112, 102]⟩)], [.v (.string ⟨#[112]⟩)], [.v (.string ⟨#[112, 118]⟩)], [.v (.string ⟨#[118, 112, 101, 97]⟩)], [.v (.string ⟨#[118]⟩)]]
theorem b110 (H : Heap) (nx : Nat) : sBuildA 21 1 [.string ⟨#[]⟩] (some [(0, 1), (1, 1), (2, 1), (3, 1), (4, 1), (5, 1), (6, 1), (7, 1), (8, 1), (9, 1), (10, 1), (11, 1), (12, 1), (13, 1), (14, 1), (15, 1), (16, 1), (17, 1), (18, 1), (19, 1), (20, 1)]) (some [.string ⟨#[]⟩, .string ⟨#[]⟩, .string ⟨#[]⟩, .string ⟨#[]⟩, .string ⟨#[]⟩, .string ⟨#[]⟩, .string ⟨#[]⟩, .string ⟨#[]⟩, .string ⟨#[]⟩, .string ⟨#[]⟩, .string ⟨#[]⟩, .string ⟨#[]⟩, .string ⟨#[]⟩, .string ⟨#[]⟩, .string ⟨#[]⟩, .string ⟨#[]⟩, .string ⟨#[]⟩, .string ⟨#[]⟩, .string ⟨#[]⟩, .string ⟨#[]⟩, .string ⟨#[]⟩]) H nx (some [(0, .v (.string ⟨#[]⟩)), (1, .v (.string ⟨#[100, 119, 99, 113]⟩)), (2, .v (.string ⟨#[100]⟩)), (3, .v (.string ⟨#[100, 109]⟩)), (4, .v (.string ⟨#[118]⟩)), (5, .v (.string ⟨#[118]⟩)), (6, .v (.string ⟨#[118]⟩)), (7, .v (.string ⟨#[118]⟩)), (8, .v (.string ⟨#[118]⟩)), (9, .v (.string ⟨#[118]⟩)), (10, .v (.string ⟨#[118, 110, 97]⟩)), (11, .v (.string ⟨#[118]⟩)), (12, .v (.string ⟨#[118]⟩)), (13, .v (.string ⟨#[112, 111]⟩)), (14, .v (.string ⟨#[112]⟩)), (15, .v (.string ⟨#[112]⟩)), (16, .v (.string ⟨#[112, 102]⟩)), (17, .v (.string ⟨#[112]⟩)), (18, .v (.string ⟨#[112, 118]⟩)), (19, .v (.string ⟨#[118, 112, 101, 97]⟩)), (20, .v (.string ⟨#[118]⟩))]) = .need (ones [.v (.string ⟨#[]⟩), .v (.string ⟨#[100, 119, 99, 113]⟩), .v (.string ⟨#[100]⟩), .v (.string ⟨#[100, 109]⟩), .v (.string ⟨#[118]⟩), .v (.string ⟨#[118]⟩), .v (.string ⟨#[118]⟩), .v (.string ⟨#[118]⟩), .v (.string ⟨#[118]⟩), .v (.string ⟨#[118]⟩), .v (.string ⟨#[118, 110, 97]⟩), .v (.string ⟨#[118]⟩), .v (.string ⟨#[118]⟩), .v (.string ⟨#[112, 111]⟩), .v (.string ⟨#[112]⟩), .v (.string ⟨#[112]⟩), .v (.string ⟨#[112, 102]⟩), .v (.string ⟨#[112]⟩), .v (.string ⟨#[112, 118]⟩), .v (.string ⟨#[118, 112, 101, 97]⟩), .v (.string ⟨#[118]⟩)] ∧ 21 = 21 * 1) (.ok (.arr 1 cAll) H nx) := rfl
theorem l110 : cAll.length = 21 := rfl
theorem pl111 : tyPlaces Try.prog 111 = some [(0, 1), (1, 1), (2, 1), (3, 1), (4, 1), (5, 1), (6, 1), (7, 1), (8, 1), (9, 1), (10, 1)] := by kernel_rfl
def lAll : List (List SV) := [[.v (.string ⟨#[]⟩)], [.v (.string ⟨#[68, 87]⟩)], [.v (.string ⟨#[68, 67]⟩)], [.v (.string ⟨#[68, 80]⟩)], [.v (.string ⟨#[86, 77]⟩)], [.v (.string ⟨#[78]⟩)], [.v (.string ⟨#[71]⟩)], [.v (.string ⟨#[86]⟩)], [.v (.string ⟨#[80, 83]⟩)], [.v (.string ⟨#[80, 73]⟩)], [.v (.string ⟨#[85, 80]⟩)]]
theorem b111 (H : Heap) (nx : Nat) : sBuildA 11 1 [.string ⟨#[]⟩] (some [(0, 1), (1, 1), (2, 1), (3, 1), (4, 1), (5, 1), (6, 1), (7, 1), (8, 1), (9, 1), (10, 1)]) (some [.string ⟨#[]⟩, .string ⟨#[]⟩, .string ⟨#[]⟩, .string ⟨#[]⟩, .string ⟨#[]⟩, .string ⟨#[]⟩, .string ⟨#[]⟩, .string ⟨#[]⟩, .string ⟨#[]⟩, .string ⟨#[]⟩, .string ⟨#[]⟩]) H nx (some [(0, .v (.string ⟨#[]⟩)), (1, .v (.string ⟨#[68, 87]⟩)), (2, .v (.string ⟨#[68, 67]⟩)), (3, .v (.string ⟨#[68, 80]⟩)), (4, .v (.string ⟨#[86, 77]⟩)), (5, .v (.string ⟨#[78]⟩)), (6, .v (.string ⟨#[71]⟩)), (7, .v (.string ⟨#[86]⟩)), (8, .v (.string ⟨#[80, 83]⟩)), (9, .v (.string ⟨#[80, 73]⟩)), (10, .v (.string ⟨#[85, 80]⟩))]) = .need (ones [.v (.string ⟨#[]⟩), .v (.string ⟨#[68, 87]⟩), .v (.string ⟨#[68, 67]⟩), .v (.string ⟨#[68, 80]⟩), .v (.string ⟨#[86, 77]⟩), .v (.string ⟨#[78]⟩), .v (.string ⟨#[71]⟩), .v (.string ⟨#[86]⟩), .v (.string ⟨#[80, 83]⟩), .v (.string ⟨#[80, 73]⟩), .v (.string ⟨#[85, 80]⟩)] ∧ 11 = 11 * 1) (.ok (.arr 1 lAll) H nx) := rfl
theorem l111 : lAll.length = 11 := rfl
def strB (l : List Nat) : ByteArray := ⟨(l.map UInt8.ofNat).toArray⟩
def fldR (k s : Int) : Option (List Nat) := if k = 1 then callL s else if k = 2 then liveL s else if k = 3 ∧ s = 0 then some [116] else none
theorem cAll_get {s : Int} (h : 1 ≤ s ∧ s ≤ 20) : cAll.getD s.toNat [] = [.v (.string (strB ((callL s).getD [])))] ∧ (callL s).isSome = true := by
  obtain ⟨n, rfl⟩ : ∃ n : Nat, s = n := ⟨s.toNat, by omega⟩
  rcases (show n = 1 ∨ n = 2 ∨ n = 3 ∨ n = 4 ∨ n = 5 ∨ n = 6 ∨ n = 7 ∨ n = 8 ∨ n = 9 ∨ n = 10 ∨ n = 11 ∨ n = 12 ∨ n = 13 ∨ n = 14 ∨ n = 15 ∨ n = 16 ∨ n = 17 ∨ n = 18 ∨ n = 19 ∨ n = 20 by omega) with rfl | rfl | rfl | rfl | rfl | rfl | rfl | rfl | rfl | rfl | rfl | rfl | rfl | rfl | rfl | rfl | rfl | rfl | rfl | rfl <;> exact ⟨rfl, rfl⟩
theorem lAll_get {s : Int} (h : 1 ≤ s ∧ s ≤ 10) : lAll.getD s.toNat [] = [.v (.string (strB ((liveL s).getD [])))] ∧ (liveL s).isSome = true := by
  obtain ⟨n, rfl⟩ : ∃ n : Nat, s = n := ⟨s.toNat, by omega⟩
  rcases (show n = 1 ∨ n = 2 ∨ n = 3 ∨ n = 4 ∨ n = 5 ∨ n = 6 ∨ n = 7 ∨ n = 8 ∨ n = 9 ∨ n = 10 by omega) with rfl | rfl | rfl | rfl | rfl | rfl | rfl | rfl | rfl | rfl <;> exact ⟨rfl, rfl⟩
theorem fields_ok (k s : Int) : Con Try.prog gl0 (fnv 36) [I k, I s] 0 [] (Ret (.tup [.v (.string (strB ((fldR k s).getD []))), Bo (fldR k s).isSome])) := by
  refine Con.of Try.ok36 (nt := 45) (res := [.tmp 4, .tmp 5]) Try.mixed Try.func36 rfl rfl rfl rfl fun κ xc hκ => hκ.runA 3 300 ?_
  simp (disch := omega) only [sBoxA, sBuild0, sEqArr, sBuiltin, srcS, zerosS, appArgS, appNew, sAppendTo, sAppend, sCopy, sMakeSlice, sMinMax, sMakeMap, sLookup, sLookupIn, sMapUp, sMapUpIn, keyS, intCells, allQuiet, quietOp, drawS, drawGo, drawN, drawSkip, drawG, drawFin, exec_zero, exec_succ, runR_next, runR_need, runR_all, runR_fork_true, runR_fork_false, runR_guard_tt, runR_guard_ff, runR_guard_tf, runR_guard_ft, runR_call, runR_stop, runR_fail, stepS, runOp, guardS, condS, goS, toSR, sop, rOf, rNew, sPick, sAlloc, sAlloc0, sBox, isArr, sLoadIn, sLoad, sStoreIn, sStoreArr, sStore, sRange, sNextIn, sNext, sNil, sInt, sEq, sEqR, sEqAgg, aggS, eqCells, sBin, sUn, sConv, sMakeFunc, sFieldAddr, sField, sIndexAddr, sIndex, sExtract, sLen, sCap, optI, sSlice, cutL, elemT, sliceT, obind, fillS, evps, sBuild, repeatL, sBuildSlice, chunk, ev, evs, glS, Gl.get, svs, vals, Env.get, Heap.get, Heap.set, Heap.drop, takeN, cut, over, paste, aggOf, cellsS, one, ones, idFree, idFrees, idFree', setO, exitTo, gotoIn, findLabel, envOf, Value.cells, Value.oneCell', OutOK_need, OutOK_all, OutOK_call, OutOK_stop, OutOK_fail, drawP_fin, drawP_q, drawP_l, dnext, dq, dqn, dl, slotR, ag, GF.tt, GF.ff, GF.tf, GF.ft, guardP, R1Q, dstOK, Option.isNone_none, Option.isNone_some, loudP, again, again1, slotIs, R1OK, undefS, undef, dropL, without, List.mem_singleton, halt, isDraw, drawC, execD_zero, execD_succ, drawP_m, drawP_or, isAt, atC, execA_zero, execA_succ, isOp, execO_zero, execO_succ, sClear, sAppendToC, sAppendC, sBuiltinC, sopC, loudC, dlc, drawP_c, frzOk, frzR, eq_self, resV, Int.toNat_add_nat, Int.zero_add, Int.add_zero, Int.sub_zero, Int.cast_ofNat_Int, Int.natCast_add, Int.natCast_one, List.all_cons, List.all_nil, Bool.and_true, Bool.true_and, Bool.and_false, Bool.false_and, List.drop_zero, List.drop_succ_cons, List.take_zero, List.take_succ_cons, List.take_nil, List.drop_nil, List.take_length, List.drop_length, Bool.false_eq_true, List.size_toArray, List.length_cons, List.length_nil, List.length_map, List.length_append, List.length_replicate, List.length_set, List.range, List.range.loop, List.getElem?_toArray, List.getElem?_cons_succ, List.getElem?_cons_zero, List.getElem?_nil, List.getD_cons_zero, List.getD_cons_succ, List.map_cons, List.map_nil, List.append_nil, List.cons_append, List.nil_append, Option.bind_some, Option.bind_none, Option.map_some, Option.map_none, Option.getD_some, Option.getD_none, Option.isSome_some, Option.isSome_none, List.toList_toArray, ↓reduceIte, Nat.reduceAdd, Nat.reduceMul, Nat.reduceSub, Nat.reduceLT, Nat.reduceLeDiff, Nat.reduceEqDiff, Nat.zero_add, Nat.add_zero, Nat.mul_zero, Nat.zero_mul, Nat.mul_one, Nat.one_mul, Nat.sub_zero, Nat.add_one_ne_zero, Nat.reduceBEq, Int.reduceAdd, Int.reduceSub, Int.reduceMul, Int.reduceToNat, Int.reduceLT, Int.reduceLE, Int.reduceEq, Int.reduceNeg, Int.toNat_natCast, Int.ofNat_eq_natCast, decide_eq_true_eq, decide_eq_false_iff_not, Bool.not_eq_true', Bool.not_eq_false', Bool.not_true, Bool.not_false, Bool.or_false, Bool.or_true, Bool.false_or, Bool.true_or, decide_true, decide_false, beq_self_eq_true, ne_eq, not_true_eq_false, not_false_eq_true, and_true, true_and, and_self, forall_const, true_implies, implies_true, reduceCtorEq, imp_self, Option.some.injEq, List.singleton_append, getD_map, eI, eB, shAmt_of, IntKind.bits, Int.reducePow, Int.tdiv_eq_ediv_of_nonneg, Int.tmod_eq_emod_of_nonneg, Int.fdiv_eq_ediv_of_nonneg, wrap_i64, wrap_u64, wrap_u32, wrap_u16, wrap_u8, wrap_i32, gl0, Try.underlying0, Try.sz0, Try.ag0, Try.by0, Try.ar0, Try.underlying3, Try.sz3, Try.ag3, Try.ze3, Try.by3, Try.ar3, Try.underlying4, Try.sz4, Try.ag4, Try.ze4, Try.by4, Try.ar4, Try.underlying9, Try.sz9, Try.ag9, Try.ze9, Try.by9, Try.ar9, Try.underlying110, Try.sz110, Try.ag110, Try.ze110, Try.by110, Try.ar110, Try.underlying111, Try.sz111, Try.ag111, Try.ze111, Try.pl111, Try.by111, Try.ar111, b110, b111, pl110, pl111, l110, l111]
  by_cases h1 : k = 1
  · subst h1
    have e : fldR 1 s = callL s := rfl
    rw [e] at hκ
    by_cases hs : 1 ≤ s ∧ s ≤ 20
    · obtain ⟨g1, g2⟩ := cAll_get hs
      rw [g2] at hκ
      have q1 : (1 ≤ s) = True := by first | (simp only [eq_iff_iff, iff_true]; first | assumption | omega) | (simp; omega)
      have q2 : (s ≤ 20) = True := by first | (simp only [eq_iff_iff, iff_true]; first | assumption | omega) | (simp; omega)
      refine hκ.run 300 ?_
      simp (disch := omega) only [push_cast, simprocAttr, q1, q2, g1, l110]
      (repeat (refine ⟨by first | omega | (refine ⟨?_, ?_⟩ <;> omega) | trivial | (simp; done) | decide +kernel, fun _ => ?_⟩))
      refine hκ.ret _ _ _ _ _ _ trivial rfl ?_
      exact .ret (by simp [SV.bnd, SV.bndL])
    · rw [callL_none (by omega)] at hκ
      by_cases h : 1 ≤ s
      · have q1 : (1 ≤ s) = True := by first | (simp only [eq_iff_iff, iff_true]; first | assumption | omega) | (simp; omega)
        have q2 : (s ≤ 20) = False := by first | (simp only [eq_iff_iff, iff_false]; first | assumption | omega) | (simp; omega)
        refine hκ.run 300 ?_
        simp (disch := omega) only [push_cast, simprocAttr, q1, q2]
        refine hκ.ret _ _ _ _ _ _ trivial rfl ?_
        exact .ret (by simp [SV.bnd, SV.bndL])
      · have q1 : (1 ≤ s) = False := by first | (simp only [eq_iff_iff, iff_false]; first | assumption | omega) | (simp; omega)
        refine hκ.run 300 ?_
        simp (disch := omega) only [push_cast, simprocAttr, q1]
        refine hκ.ret _ _ _ _ _ _ trivial rfl ?_
        exact .ret (by simp [SV.bnd, SV.bndL])
  by_cases h2 : k = 2
  · subst h2
    have e : fldR 2 s = liveL s := rfl
    rw [e] at hκ
    by_cases hs : 1 ≤ s ∧ s ≤ 10
    · obtain ⟨g1, g2⟩ := lAll_get hs
      rw [g2] at hκ
      have q1 : (1 ≤ s) = True := by first | (simp only [eq_iff_iff, iff_true]; first | assumption | omega) | (simp; omega)
      have q2 : (s ≤ 10) = True := by first | (simp only [eq_iff_iff, iff_true]; first | assumption | omega) | (simp; omega)
      refine hκ.run 300 ?_
      simp (disch := omega) only [push_cast, simprocAttr, q1, q2, g1, l111]
      (repeat (refine ⟨by first | omega | (refine ⟨?_, ?_⟩ <;> omega) | trivial | (simp; done) | decide +kernel, fun _ => ?_⟩))
      refine hκ.ret _ _ _ _ _ _ trivial rfl ?_
      exact .ret (by simp [SV.bnd, SV.bndL])
    · rw [liveL_none (by omega)] at hκ
      by_cases h : 1 ≤ s
      · have q1 : (1 ≤ s) = True := by first | (simp only [eq_iff_iff, iff_true]; first | assumption | omega) | (simp; omega)
        have q2 : (s ≤ 10) = False := by first | (simp only [eq_iff_iff, iff_false]; first | assumption | omega) | (simp; omega)
        refine hκ.run 300 ?_
        simp (disch := omega) only [push_cast, simprocAttr, q1, q2]
        refine hκ.ret _ _ _ _ _ _ trivial rfl ?_
        exact .ret (by simp [SV.bnd, SV.bndL])
      · have q1 : (1 ≤ s) = False := by first | (simp only [eq_iff_iff, iff_false]; first | assumption | omega) | (simp; omega)
        refine hκ.run 300 ?_
        simp (disch := omega) only [push_cast, simprocAttr, q1]
        refine hκ.ret _ _ _ _ _ _ trivial rfl ?_
        exact .ret (by simp [SV.bnd, SV.bndL])
  by_cases h3 : k = 3 ∧ s = 0
  · obtain ⟨rfl, rfl⟩ := h3
    refine hκ.run 300 ?_
    simp (disch := omega) only [push_cast, simprocAttr]
    refine hκ.ret _ _ _ _ _ _ trivial rfl ?_
    exact .ret (by simp [SV.bnd, SV.bndL])
  have e : fldR k s = none := by rw [fldR, if_neg h1, if_neg h2, if_neg h3]
  rw [e] at hκ
  by_cases h : k = 3
  · have h0 : ¬ s = 0 := fun z => h3 ⟨h, z⟩
    subst h
    refine hκ.run 300 ?_
    simp (disch := omega) only [push_cast, simprocAttr, h0]
    refine hκ.ret _ _ _ _ _ _ trivial rfl ?_
    exact .ret (by simp [SV.bnd, SV.bndL])
  · skip
    refine hκ.run 300 ?_
    simp (disch := omega) only [push_cast, simprocAttr, h1, h2, h]
    refine hκ.ret _ _ _ _ _ _ trivial rfl ?_
    exact .ret (by simp [SV.bnd, SV.bndL])
end Go.Proofs.Ytmieikflcolbaaa

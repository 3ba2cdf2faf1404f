/- bytes.Equal: rows of bytes as texts. No condition. -/
import Derived.Test.YtllidfmecghccaaWa
namespace Go.Proofs.Ytllidfmecghccaa
open Go Go.Sy
set_option maxRecDepth 100000
set_option linter.unusedSimpArgs false
set_option linter.unusedVariables false

theorem rowInts_map : ∀ l : List Int, rowInts (l.map (eI .u8)) = some l
  | [] => rfl
  | n :: l => by
    rw [List.map_cons]
    show (match rowInts (l.map (eI .u8)) with | some l => some (n :: l) | none => none) = _
    rw [rowInts_map l]
theorem strOf_data : ∀ (l : List Int) (s : ByteArray), (l.foldl (fun s n => s.push (UInt8.ofNat n.toNat)) s).data.toList = s.data.toList ++ l.map fun n => UInt8.ofNat n.toNat
  | [], s => by simp
  | n :: l, s => by
    rw [List.foldl_cons, strOf_data l]
    simp [ByteArray.push]
theorem toList_data (s : ByteArray) : s.toList = s.data.toList := by
  have h : ∀ (k i : Nat) (r : List UInt8), k = s.size - i → ByteArray.toList.loop s i r = r.reverse ++ s.data.toList.drop i := by
    intro k
    induction k with
    | zero =>
      intro i r h
      unfold ByteArray.toList.loop
      have h1 : ¬ i < s.size := by omega
      have h2 : s.data.toList.drop i = [] := List.drop_of_length_le (Nat.le_of_not_lt h1)
      rw [if_neg h1, h2, List.append_nil]
    | succ k ih =>
      intro i r h
      unfold ByteArray.toList.loop
      have h1 : i < s.size := by omega
      have h2 : i < s.data.toList.length := h1
      rw [if_pos h1, ih _ _ (by omega), List.drop_eq_getElem_cons h2, List.reverse_cons, List.append_assoc]
      congr 2
      simp [ByteArray.get!, h1]
  have := h _ 0 [] rfl
  simpa [ByteArray.toList] using this
theorem strOf_eq {us bs : List Int} (hu : ∀ b ∈ us, 0 ≤ b ∧ b < 256) (hb : ∀ b ∈ bs, 0 ≤ b ∧ b < 256) : ((strOf us).toList == (strOf bs).toList) = decide (us = bs) := by
  have e : ∀ l, (strOf l).toList = l.map fun n => UInt8.ofNat n.toNat := fun l => by
    rw [toList_data, strOf, strOf_data]; rfl
  rw [e, e]
  have inj : ∀ {us bs : List Int}, (∀ b ∈ us, 0 ≤ b ∧ b < 256) → (∀ b ∈ bs, 0 ≤ b ∧ b < 256) → (us.map fun n => UInt8.ofNat n.toNat) = (bs.map fun n => UInt8.ofNat n.toNat) → us = bs := by
    intro us
    induction us with
    | nil => intro bs _ _ h; cases bs with | nil => rfl | cons b bs => simp at h
    | cons a us ih =>
      intro bs h1 h2 h
      cases bs with
      | nil => simp at h
      | cons b bs =>
        simp only [List.map_cons, List.cons.injEq] at h
        obtain ⟨a0, a1⟩ := h1 a (by simp)
        obtain ⟨b0, b1⟩ := h2 b (by simp)
        have h3 := congrArg UInt8.toNat h.1
        simp only [UInt8.toNat_ofNat'] at h3
        rw [ih (fun x hx => h1 x (by simp [hx])) (fun x hx => h2 x (by simp [hx])) h.2]
        congr 1
        omega
  by_cases h : us = bs
  · subst h; simp
  · have : ¬ (us.map fun n => UInt8.ofNat n.toNat) = (bs.map fun n => UInt8.ofNat n.toNat) := fun h' => h (inj hu hb h')
    simp [h, this]

theorem bytesEqual_ok (us bs : List Int) (hu : ∀ b ∈ us, 0 ≤ b ∧ b < 256) (hb : ∀ b ∈ bs, 0 ≤ b ∧ b < 256) : Con Try.prog [] (fnv 31) [By us, By bs] 0 [] (Ret (.v (.bool (decide (us = bs))))) := by
  refine Con.of Try.ok31 (nt := 10) (res := [.tmp 4]) Try.mixed Try.func31 rfl rfl rfl rfl fun κ x hκ => hκ.run 300 ?_
  simp (disch := omega) only [sBuiltin, srcS, zerosS, appArgS, appNew, sAppendTo, sAppend, sCopy, sMakeSlice, sMinMax, sMakeMap, sLookup, sLookupIn, sMapUp, sMapUpIn, keyS, intCells, allQuiet, quietOp, drawS, drawGo, drawN, drawSkip, drawG, drawFin, exec_zero, exec_succ, runR_next, runR_need, runR_all, runR_fork_true, runR_fork_false, runR_guard_tt, runR_guard_ff, runR_guard_tf, runR_guard_ft, runR_call, runR_stop, runR_fail, stepS, runOp, guardS, condS, goS, toSR, sop, rOf, rNew, sPick, sAlloc, sAlloc0, sBox, isArr, sLoadIn, sLoad, sStoreIn, sStoreArr, sStore, sNil, sInt, sEq, sEqR, sEqAgg, aggS, eqCells, sBin, sUn, sConv, sMakeFunc, sFieldAddr, sField, sIndexAddr, sIndex, sExtract, sLen, optI, sSlice, cutL, elemT, sliceT, obind, fillS, evps, sBuild, repeatL, sBuildSlice, chunk, ev, evs, glS, Gl.get, svs, vals, Env.get, Heap.get, Heap.set, Heap.drop, takeN, cut, over, paste, aggOf, cellsS, one, ones, idFree, idFrees, idFree', setO, exitTo, gotoIn, findLabel, envOf, Value.cells, Value.oneCell', OutOK_need, OutOK_all, OutOK_call, OutOK_stop, OutOK_fail, drawP_fin, drawP_q, drawP_l, dnext, dq, dqn, dl, slotR, ag, GF.tt, GF.ff, GF.tf, GF.ft, guardP, R1Q, dstOK, loudP, again, again1, slotIs, R1OK, undefS, undef, dropL, without, List.mem_singleton, eq_self, Int.cast_ofNat_Int, Int.natCast_add, Int.natCast_one, List.all_cons, List.all_nil, Bool.and_true, Bool.true_and, Bool.and_false, Bool.false_and, List.drop_zero, List.drop_succ_cons, List.take_zero, List.take_succ_cons, List.take_nil, List.drop_nil, List.take_length, List.drop_length, Bool.false_eq_true, List.size_toArray, List.length_cons, List.length_nil, List.length_map, List.length_append, List.length_replicate, List.length_set, List.range, List.range.loop, List.getElem?_toArray, List.getElem?_cons_succ, List.getElem?_cons_zero, List.getElem?_nil, List.getD_cons_zero, List.getD_cons_succ, List.map_cons, List.map_nil, List.append_nil, List.cons_append, List.nil_append, Option.bind_some, Option.bind_none, Option.map_some, Option.map_none, Option.getD_some, Option.getD_none, Option.isSome_some, Option.isSome_none, List.toList_toArray, ↓reduceIte, Nat.reduceAdd, Nat.reduceMul, Nat.reduceSub, Nat.reduceLT, Nat.reduceLeDiff, Nat.reduceEqDiff, Nat.zero_add, Nat.add_zero, Nat.mul_zero, Nat.zero_mul, Nat.mul_one, Nat.one_mul, Nat.sub_zero, Nat.add_one_ne_zero, Nat.reduceBEq, Int.reduceAdd, Int.reduceSub, Int.reduceMul, Int.reduceToNat, Int.reduceLT, Int.reduceLE, Int.reduceEq, Int.reduceNeg, Int.toNat_natCast, Int.ofNat_eq_natCast, decide_eq_true_eq, decide_eq_false_iff_not, Bool.not_eq_true', Bool.not_eq_false', Bool.not_true, Bool.not_false, Bool.or_false, Bool.or_true, Bool.false_or, Bool.true_or, decide_true, decide_false, beq_self_eq_true, ne_eq, not_true_eq_false, not_false_eq_true, and_true, true_and, and_self, forall_const, true_implies, implies_true, reduceCtorEq, imp_self, Option.some.injEq, List.singleton_append, getD_map, eI, eB, shAmt_of, IntKind.bits, Int.reducePow, Int.tdiv_eq_ediv_of_nonneg, Int.tmod_eq_emod_of_nonneg, Int.fdiv_eq_ediv_of_nonneg, wrap_i64, wrap_u64, wrap_u32, wrap_u16, wrap_u8, wrap_i32, Try.underlying4, Try.sz4, Try.ag4, Try.ze4, Try.by4, Try.ar4, Try.underlying5, Try.sz5, Try.ag5, Try.ze5, Try.by5, Try.ar5, Try.underlying9, Try.sz9, Try.ag9, Try.ze9, Try.by9, Try.ar9, Try.underlying22, Try.sz22, Try.ag22, Try.ze22, Try.by22, Try.ar22, Try.u822, rowInts_map]
  rw [strOf_eq hu hb]
  refine hκ.ret _ _ _ _ _ _ trivial rfl ?_
  exact .ret trivial
end Go.Proofs.Ytllidfmecghccaa

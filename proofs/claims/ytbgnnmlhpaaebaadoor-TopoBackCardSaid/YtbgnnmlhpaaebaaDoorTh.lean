/- The document's topology of bytes; it is the same. No condition. -/
import Derived.Test.YtbgnnmlhpaaebaaDoorTg
namespace Go.Proofs.YtbgnnmlhpaaebaaDoor
open Go Go.Sy
set_option maxRecDepth 100000
set_option linter.unusedSimpArgs false
set_option linter.unusedVariables false

def decR (b : List Int) : Int := if (b.length : Int) < 1 ∨ (b.length : Int) < 1 + 2 * b.getD 0 default then 7 else if okTs (seatsN b (b.getD 0 default).toNat) = true ∧ (b.length : Int) = 1 + 2 * b.getD 0 default then 0 else 160
def decRS (b : List Int) : List Sea := if decR b = 0 then seatsN b (b.getD 0 default).toNat else []
theorem rdecode_ok (b : List Int) (hb : isB b) (hn : b.length < 2 ^ 38) : Con Tryd.prog gl0 (fnv 36) [By b] 0 [] (Ret (.tup [To (decRS b), I (decR b)])) := by
  suffices H : Con Tryd.prog gl0 (fnv 36) [By b] 0 [] (Ret (if decR b = 0 then .tup [To (seatsN b (b.getD 0 default).toNat), I 0] else .tup [.agg [.v (.slice none 0 0)], I (decR b)])) by
    by_cases ho : decR b = 0
    · rw [if_pos ho] at H; rw [decRS, if_pos ho, ho]; exact H
    · rw [if_neg ho] at H; rw [decRS, if_neg ho]; exact Con.repR (fun _ => Rel.tupMap (RelL.mapHead (Rel.aggMap nil1))) H
  have b0 := byte_at hb 0
  have g0 : 0 < b.length → (List.map (eI .u8) b).getD 0 [] = [.v (.int .u8 (b.getD 0 default))] := fun h => getD_map _ _ _ h
  refine Con.of Tryd.ok36 (nt := 65) (res := [.cell 2 24, .tmp 3]) Tryd.mixed Tryd.func36 rfl rfl rfl rfl fun κ xc hκ => hκ.run 300 ?_
  simp (disch := omega) only [sBuiltin, exec_succ, runR_next, stepS, runOp, guardS, toSR, sop, rOf, rNew, sAlloc, sAlloc0, sInt, sBin, sLen, ev, svs, Env.get, envOf, undefS, undef, List.size_toArray, List.length_cons, List.length_nil, List.length_map, List.range, List.range.loop, List.getElem?_toArray, List.getElem?_cons_succ, List.getElem?_cons_zero, List.map_cons, List.map_nil, Option.bind_some, ↓reduceIte, Nat.reduceAdd, Nat.reduceLT, Nat.zero_add, Nat.add_one_ne_zero, Bool.not_false, and_self, gl0, Tryd.ze24, Tryd.ar24, Tryd.underlying67]
  by_cases h1 : (b.length : Int) < 1
  · have hd : decR b = 7 := by rw [decR, if_pos (Or.inl h1)]
    rw [hd, if_neg (by decide)] at hκ
    simp (disch := omega) only [sBuild0, sBuiltin, exec_succ, runR_next, runR_need, runR_fork_true, runR_guard_tf, runR_stop, stepS, runOp, guardS, condS, toSR, sop, rOf, sPick, sLoad, sStoreIn, sStore, sBin, sConv, sIndexAddr, sLen, fillS, evps, sBuild, ev, svs, Env.get, Heap.get, Heap.set, over, paste, cellsS, one, ones, Value.oneCell', OutOK_need, OutOK_stop, undefS, undef, List.size_toArray, List.length_cons, List.length_nil, List.range, List.range.loop, List.getElem?_toArray, List.getElem?_cons_succ, List.getElem?_cons_zero, List.map_cons, List.map_nil, Option.bind_some, ↓reduceIte, Nat.reduceAdd, Nat.reduceLT, Nat.reduceEqDiff, Nat.zero_add, Nat.add_one_ne_zero, Bool.not_false, decide_true, true_and, and_self, forall_const, Tryd.underlying5, Tryd.sz24, Tryd.ze24, Tryd.pl24, Tryd.ar24, h1]
    refine hκ.ret _ _ _ _ _ _ trivial rfl ?_
    exact .ret (by simp [SV.bnd, SV.bndL])
  have g0 := g0 (by omega)
  have hdd : decR b = if (b.length : Int) < 1 + 2 * b.getD 0 default then 7 else if okTs (seatsN b (b.getD 0 default).toNat) = true ∧ (b.length : Int) = 1 + 2 * b.getD 0 default then 0 else 160 := by
    rw [decR]
    by_cases h : (b.length : Int) < 1 + 2 * b.getD 0 default
    · rw [if_pos (Or.inr h), if_pos h]
    · rw [if_neg (fun x => x.elim h1 h), if_neg h]
  generalize b.getD 0 default = x0 at g0 b0 hdd hκ
  obtain ⟨x, rfl⟩ : ∃ x : Nat, x0 = x := ⟨x0.toNat, by omega⟩
  rw [Int.toNat_natCast] at hκ hdd
  by_cases h2 : (b.length : Int) < 1 + 2 * x
  · rw [hdd, if_pos h2, if_neg (by decide)] at hκ
    simp (disch := omega) only [sBuild0, sBuiltin, exec_succ, runR_next, runR_need, runR_fork_true, runR_guard_ff, runR_stop, stepS, runOp, guardS, condS, toSR, sop, rOf, sPick, sLoad, sStoreIn, sStore, sInt, sBin, sConv, sIndexAddr, sLen, elemT, obind, fillS, evps, sBuild, ev, svs, Env.get, Heap.get, Heap.set, takeN, cut, over, paste, aggOf, cellsS, one, ones, Value.oneCell', OutOK_need, OutOK_stop, undefS, undef, List.size_toArray, List.length_cons, List.length_nil, List.length_map, List.range, List.range.loop, List.getElem?_toArray, List.getElem?_cons_succ, List.getElem?_cons_zero, List.map_cons, List.map_nil, Option.bind_some, ↓reduceIte, Nat.reduceAdd, Nat.reduceLT, Nat.reduceEqDiff, Nat.zero_add, Nat.add_one_ne_zero, Int.reduceToNat, Int.reduceLE, Bool.not_false, decide_true, decide_false, true_and, and_self, forall_const, wrap_i64, Tryd.underlying3, Tryd.underlying5, Tryd.sz5, Tryd.ag5, Tryd.sz24, Tryd.ze24, Tryd.pl24, Tryd.ar24, Tryd.underlying67, h1, g0, h2]
    (repeat (refine ⟨by first | omega | (refine ⟨?_, ?_⟩ <;> omega) | trivial | (simp; done) | decide +kernel, fun _ => ?_⟩))
    refine hκ.ret _ _ _ _ _ _ trivial rfl ?_
    exact .ret (by simp [SV.bnd, SV.bndL])
  rw [if_neg h2] at hdd
  simp (disch := omega) only [sBuiltin, exec_succ, runR_next, runR_need, runR_fork_false, runR_guard_ff, runR_stop, stepS, runOp, guardS, condS, toSR, sop, rOf, rNew, sPick, sAlloc, sAlloc0, sLoad, sInt, sBin, sConv, sIndexAddr, sLen, elemT, obind, ev, svs, Env.get, takeN, cut, aggOf, OutOK_need, OutOK_stop, undefS, undef, List.size_toArray, List.length_cons, List.length_nil, List.length_map, List.range, List.range.loop, List.getElem?_toArray, List.getElem?_cons_succ, List.getElem?_cons_zero, List.map_cons, List.map_nil, Option.bind_some, ↓reduceIte, Nat.reduceAdd, Nat.reduceLT, Nat.reduceEqDiff, Nat.zero_add, Nat.add_one_ne_zero, Int.reduceToNat, Int.reduceLE, Bool.not_false, decide_false, true_and, and_self, wrap_i64, Tryd.underlying3, Tryd.underlying5, Tryd.sz5, Tryd.ag5, Tryd.ze24, Tryd.ar24, Tryd.underlying67, h1, g0, h2]
  (repeat (refine ⟨by first | omega | (refine ⟨?_, ?_⟩ <;> omega) | trivial | (simp; done) | decide +kernel, fun _ => ?_⟩))
  refine Sat.nilCell 1 2 50 24 [] [] rfl ?_
  simp only [Heap.set, List.nil_append, Nat.reduceEqDiff, ↓reduceIte]
  refine Sat.less (Sat.loop (γ := Nat × Nat) (fun g => ([(25, I g.1), (24, I x), (4, .ptr 1 0 0 0), (3, I 0), (2, .ptr 0 0 0 0), (0, By b)], [(2, .row 2 g.2 50 ((seatsN b g.1).map eT)), (1, .own [.sl 2 2 0 g.1 g.2] 24), (0, .own [.v (.slice none 0 0)] 24)], 3)) (fun g => x - g.1) (fun g => g.1 ≤ x ∧ g.1 ≤ g.2) ?round (0, 0) ⟨Nat.zero_le _, Nat.le_refl _⟩) (by repeat' (first | exact EnvSub.nil _ | exact HeapSub.nil _ | refine EnvSub.cons rfl ?_ | refine HeapSub.cons rfl ?_ | (refine EnvSub.cons (by simp [Env.get]; done) ?_) | (refine HeapSub.cons (by simp [Heap.get]; done) ?_))) (by repeat' (first | exact EnvSub.nil _ | exact HeapSub.nil _ | refine EnvSub.cons rfl ?_ | refine HeapSub.cons rfl ?_ | (refine EnvSub.cons (by simp [Env.get]; done) ?_) | (refine HeapSub.cons (by simp [Heap.get]; done) ?_)))
  case round =>
    rintro ⟨k, cap⟩ ⟨hk, hcap⟩ ih
    dsimp only at hk hcap ih ⊢
    refine hκ.runA 9 300 ?_
    simp (disch := omega) only [runR_next, stepS, runOp, condS, toSR, sop, sInt, sBin, ev, Env.get, halt, isAt, atC, execA_succ, List.size_toArray, List.length_cons, List.length_nil, List.range, List.range.loop, List.getElem?_toArray, List.getElem?_cons_zero, ↓reduceIte, Nat.reduceLT, Nat.reduceEqDiff, Nat.zero_add, Nat.reduceBEq, gl0]
    refine OutOK_fork (fun h => ?_) (fun h => ?_) <;> try simp only [Bool.not_true, Bool.not_false, decide_eq_true_eq, decide_eq_false_iff_not, Bool.not_eq_true', Bool.not_eq_false', Bool.and_eq_true, Bool.or_eq_false_iff, Bool.or_eq_true, Bool.and_eq_false_iff] at h
    · have hz := fun cap h => ih (k + 1, cap) ⟨by dsimp only; omega, h⟩ (by dsimp only; omega)
      dsimp only at hz
      rw [seatsN_succ] at hz
      have e2 : (1 + 2 * (k : Int)).toNat = 1 + 2 * k := by omega
      have e3 : (2 + 2 * (k : Int)).toNat = 2 + 2 * k := by omega
      have g1 : (List.map (eI .u8) b).getD (1 + 2 * k) [] = [.v (.int .u8 (b.getD (1 + 2 * k) default))] := getD_map _ _ _ (by omega)
      have g2 : (List.map (eI .u8) b).getD (2 + 2 * k) [] = [.v (.int .u8 (b.getD (2 + 2 * k) default))] := getD_map _ _ _ (by omega)
      have b1 := byte_at hb (1 + 2 * k)
      have b2 := byte_at hb (2 + 2 * k)
      generalize b.getD (1 + 2 * k) default = x1 at *
      generalize b.getD (2 + 2 * k) default = x2 at *
      have hsl := seatsN_len b k
      generalize seatsN b k = pre at hz hsl ⊢
      have et : List.take k (List.map eT pre) = List.map eT pre := List.take_of_length_le (by simp; omega)
      simp (disch := omega) only [allQuiet, quietOp, drawS, runR_next, runR_stop, stepS, runOp, toSR, sop, rOf, ev, Env.get, OutOK_stop, Option.isNone_none, halt, isAt, atC, execA_succ, Bool.and_true, Bool.and_false, List.size_toArray, List.length_cons, List.length_nil, List.range, List.range.loop, List.getElem?_toArray, List.getElem?_cons_succ, List.getElem?_cons_zero, ↓reduceIte, Nat.reduceAdd, Nat.reduceLT, Nat.reduceEqDiff, Nat.zero_add, Nat.reduceBEq]
      refine hκ.runD 300 ?_
      simp (disch := omega) only [OutOK_stop, halt, isDraw, drawC, execD_succ, gl0]
      refine hκ.draw (.q 0 (.q 1 (.q 2 (.q 3 (.q 4 (.q 5 (.q 6 (.q 7 (.q 8 (.q 9 (.q 10 (.q 11 (.q 12 (.q 13 (.q 14 (.q 15 (.q 16 (.l 17 [1, 7, 14] (.l 18 [7, 14] (.q 19 (.l 20 [] (.fin)))))))))))))))))))))) [0, 1, 2, 3, 4, 5, 6, 7, 8, 9, 10, 11, 12, 13, 14, 15, 16, 19] (by kernel_rfl) (by kernel_rfl) rfl ?_
      simp (disch := omega) only [sBuild0, sBuiltin, srcS, appArgS, sAppendTo, sAppend, sop, rOf, rNew, isArr, sLoadIn, sLoad, sStoreIn, sStore, sInt, sBin, sConv, sFieldAddr, sIndexAddr, elemT, sliceT, obind, fillS, evps, sBuild, repeatL, sBuildSlice, chunk, ev, svs, Env.get, Heap.get, Heap.set, Heap.drop, takeN, cut, over, paste, aggOf, cellsS, one, ones, idFree, idFrees, setO, Value.cells, Value.oneCell', drawP_fin, drawP_q, drawP_l, dnext, dq, dqn, dl, slotR, ag, guardP, R1Q, dstOK, loudP, again, again1, slotIs, R1OK, undefS, undef, Bool.and_true, List.drop_zero, List.take_succ_cons, List.take_nil, List.length_cons, List.length_nil, List.length_map, List.range, List.range.loop, List.getElem?_toArray, List.getElem?_cons_succ, List.getElem?_cons_zero, List.map_cons, List.map_nil, List.append_nil, List.toList_toArray, ↓reduceIte, Nat.reduceAdd, Nat.reduceLT, Nat.reduceLeDiff, Nat.reduceEqDiff, Nat.zero_add, Nat.add_zero, Nat.zero_mul, Nat.one_mul, Nat.add_one_ne_zero, ne_eq, not_false_eq_true, true_and, and_self, forall_const, reduceCtorEq, wrap_i64, gl0, Tryd.underlying3, Tryd.underlying5, Tryd.sz5, Tryd.ag5, Tryd.underlying22, Tryd.sz22, Tryd.ag22, Tryd.fd24f0, Tryd.sz50, Tryd.ze50, Tryd.pl50, Tryd.by50, Tryd.ar50, Tryd.underlying67, e2, e3, g1, g2]
      (repeat (refine ⟨by first | omega | (refine ⟨?_, ?_⟩ <;> omega) | trivial | (simp; done) | decide +kernel, fun _ => ?_⟩))
      intro c
      have hy := hz (k + 1 + c) (by first | (simp; done) | (simp; omega))
      simp only [List.length_append, List.length_cons, List.length_nil, List.length_singleton, List.length_map, List.length_set, List.length_replicate, Nat.zero_add, Nat.add_zero, Int.natCast_add, Int.natCast_one, Int.ofNat_eq_natCast, List.map_append, List.map_cons, List.map_nil, List.take_length, eI, eB] at hy ⊢
      rw [et]
      refine hκ.run 300 ?_
      simp (disch := omega) only [exec_succ, runR_next, runR_stop, stepS, runOp, toSR, sop, rOf, sInt, sBin, ev, Env.get, OutOK_stop, List.size_toArray, List.length_cons, List.length_nil, List.range, List.range.loop, List.getElem?_toArray, List.getElem?_cons_succ, List.getElem?_cons_zero, ↓reduceIte, Nat.reduceAdd, Nat.reduceLT, Nat.reduceEqDiff, Nat.zero_add, wrap_i64, gl0]
      refine Sat.via (fun i => if i = 2 then 4 else i) (hy) (by intro i j; (repeat (first | omega | split))) (by repeat' (first | exact EnvVia.nil | refine EnvVia.cons (by first | trivial | decide | (simp [SV.bnd, SV.bndL]; done)) rfl ?_)) (by repeat' (first | exact HeapVia.nil | refine HeapVia.cons (by decide) (by first | trivial | (simp [Blk.bnd, SV.bnd, SV.bndL]; done) | exact bndL_mapV _ _ _ | exact LR.bnd (by rw [l2]; simp [bndE, SV.bnd, SV.bndL]) (by rw [l6]; decide)) (by first | rfl | (simp only [Blk.ren, renL_mapV]; rfl) | (rw [LR.ren (by rw [l2] <;> rfl) (by rw [l6] <;> rfl)]; rfl)) ?_)) ⟨by have := hκ.hm; (try dsimp only at this); (first | done | omega), fun i hi => by have := hκ.hm; (try dsimp only at this); (first | omega | (dsimp only; omega) | (rw [if_neg (by omega)]))⟩ ⟨by simp, rfl⟩
    · simp (disch := omega) only [runR_next, stepS, goS, exitTo, OutOK_stop, halt, isAt, atC, execA_succ, ↓reduceIte, beq_self_eq_true]
      obtain rfl : k = x := by omega
      have hi := seatsN_in hb k
      have hsl := seatsN_len b k
      have c1 := tright_ok (seatsN b k) hi (by rw [hsl]; omega)
      generalize seatsN b k = l at *
      have et : List.take k (List.map eT l) = List.map eT l := List.take_of_length_le (by simp; omega)
      refine Sat.frzOwn [2] 1 _ _ rfl (by decide) (by first | (simp [lendPL, lendP, lendSlP, Heap.get]; done) | (simp only [lendPL, lendP, lendSlP, Heap.get, List.mem_singleton, List.mem_cons, List.not_mem_nil, or_false, or_true, true_or, Nat.reduceEqDiff, Nat.one_ne_zero, Nat.zero_ne_one, ↓reduceIte, and_true, true_and, List.length_map, List.length_append, List.length_cons, List.length_nil, List.length_replicate]; omega)) ?_
      simp only [lendL, lendS, lendSl, Heap.get, without, List.mem_singleton, List.mem_cons, List.not_mem_nil, or_false, or_true, true_or, List.drop_zero, List.take_length, List.take_succ_cons, List.take_zero, Nat.reduceAdd, Nat.reduceEqDiff, Nat.one_ne_zero, Nat.zero_ne_one, ↓reduceIte]
      simp only [Heap.set, Nat.reduceEqDiff, ↓reduceIte, et]
      refine hκ.run 300 ?_
      simp (disch := omega) only [exec_succ, runR_next, runR_call, stepS, runOp, toSR, sop, rOf, sLoadIn, sLoad, ev, evs, Env.get, Heap.get, takeN, cut, aggOf, OutOK_call, List.size_toArray, List.length_cons, List.length_nil, List.range, List.range.loop, List.getElem?_toArray, List.getElem?_cons_succ, List.getElem?_cons_zero, ↓reduceIte, Nat.reduceAdd, Nat.reduceLT, Nat.reduceEqDiff, Nat.zero_add, gl0, Tryd.sz24, Tryd.ag24]
      cases ho : okTs l
      · rw [ho] at c1
        rw [if_neg (fun h => by rw [ho] at h; cases h.1)] at hdd
        rw [hdd, if_neg (by decide)] at hκ
        refine Does.ret hκ.hP hκ.hgl (c1) ⟨trivial, by simp [SV.bnd, SV.bndL], by first | (simp [SV.bnd, SV.bndL]; done) | assumption⟩ ?_
        refine hκ.run 300 ?_
        simp (disch := omega) only [sBuild0, sBuiltin, exec_succ, runR_next, runR_need, runR_fork_true, runR_guard_tf, runR_stop, stepS, runOp, guardS, condS, toSR, sop, rOf, sPick, sLoad, sStoreIn, sStore, sEq, sEqR, sBin, sUn, sConv, sIndexAddr, sLen, fillS, evps, sBuild, ev, svs, Env.get, Heap.get, Heap.set, over, paste, cellsS, one, ones, setO, Value.oneCell', OutOK_need, OutOK_stop, undefS, undef, List.size_toArray, List.length_cons, List.length_nil, List.range, List.range.loop, List.getElem?_toArray, List.getElem?_cons_succ, List.getElem?_cons_zero, List.map_cons, List.map_nil, Option.bind_some, ↓reduceIte, Nat.reduceAdd, Nat.reduceLT, Nat.reduceEqDiff, Nat.zero_add, Nat.add_one_ne_zero, Bool.not_false, true_and, and_self, forall_const, gl0, Tryd.underlying5, Tryd.sz24, Tryd.ze24, Tryd.pl24, Tryd.ar24]
        refine hκ.ret _ _ _ _ _ _ trivial rfl ?_
        exact .ret (by simp [SV.bnd, SV.bndL])
      rw [ho] at c1
      refine Does.ret hκ.hP hκ.hgl (c1) ⟨trivial, by simp [SV.bnd, SV.bndL], by first | (simp [SV.bnd, SV.bndL]; done) | assumption⟩ ?_
      refine hκ.run 300 ?_
      simp (disch := omega) only [sBuiltin, exec_succ, runR_next, runR_need, runR_guard_ff, stepS, runOp, guardS, condS, toSR, sop, rOf, sPick, sLoad, sInt, sBin, sUn, sConv, sIndexAddr, sLen, elemT, obind, ev, Env.get, takeN, cut, aggOf, setO, OutOK_need, undefS, undef, List.length_map, List.getElem?_toArray, List.getElem?_cons_succ, List.getElem?_cons_zero, Option.bind_some, ↓reduceIte, Nat.reduceLT, Nat.reduceEqDiff, Nat.add_one_ne_zero, Int.reduceToNat, Int.reduceLE, Bool.not_true, Bool.not_false, true_and, and_self, wrap_i64, gl0, Tryd.underlying3, Tryd.underlying5, Tryd.sz5, Tryd.ag5, Tryd.underlying67, g0]
      (repeat (refine ⟨by first | omega | (refine ⟨?_, ?_⟩ <;> omega) | trivial | (simp; done) | decide +kernel, fun _ => ?_⟩))
      by_cases he : (b.length : Int) = 1 + 2 * k
      · rw [if_pos ⟨ho, he⟩] at hdd
        rw [hdd, if_pos rfl] at hκ
        have e1 : ((b.length : Int) = 1 + 2 * k) = True := by first | (simp only [eq_iff_iff, iff_true]; first | assumption | omega) | (simp; omega)
        simp (disch := omega) only [exec_succ, runR_next, runR_need, runR_fork_false, runR_stop, stepS, runOp, toSR, sop, rOf, sLoadIn, sLoad, sStoreIn, sStore, ev, Env.get, Heap.get, Heap.set, takeN, cut, over, paste, aggOf, cellsS, one, ones, OutOK_need, OutOK_stop, undefS, undef, List.size_toArray, List.length_cons, List.length_nil, List.range, List.range.loop, List.getElem?_toArray, List.getElem?_cons_succ, List.getElem?_cons_zero, ↓reduceIte, Nat.reduceAdd, Nat.reduceLT, Nat.reduceEqDiff, Nat.zero_add, Nat.add_one_ne_zero, Bool.not_true, decide_true, true_and, and_self, forall_const, Tryd.sz24, Tryd.ag24, e1]
        refine hκ.ret _ _ _ _ _ _ trivial rfl ?_
        exact .ret (by simp [SV.bnd, SV.bndL])
      · rw [if_neg (fun h => he h.2)] at hdd
        rw [hdd, if_neg (by decide)] at hκ
        simp (disch := omega) only [sBuild0, exec_succ, runR_next, runR_need, runR_fork_true, runR_stop, stepS, runOp, toSR, sop, rOf, sStoreIn, sStore, fillS, evps, sBuild, ev, svs, Env.get, Heap.get, Heap.set, over, paste, cellsS, one, ones, Value.oneCell', OutOK_need, OutOK_stop, undefS, undef, List.size_toArray, List.length_cons, List.length_nil, List.range, List.range.loop, List.getElem?_toArray, List.getElem?_cons_succ, List.getElem?_cons_zero, List.map_cons, List.map_nil, ↓reduceIte, Nat.reduceAdd, Nat.reduceLT, Nat.reduceEqDiff, Nat.zero_add, Nat.add_one_ne_zero, Bool.not_false, decide_false, true_and, and_self, forall_const, Tryd.sz24, Tryd.ze24, Tryd.pl24, Tryd.ar24, he]
        refine hκ.ret _ _ _ _ _ _ trivial rfl ?_
        exact .ret (by simp [SV.bnd, SV.bndL])
end Go.Proofs.YtbgnnmlhpaaebaaDoor

/- Whole numbers bit by bit: quotients; as numbers again. No condition. -/
import Derived.Test.YtomfpciigaopiaaAf
namespace Go.Proofs.Ytomfpciigaopiaa
open Go Go.Sy
set_option maxRecDepth 100000
set_option linter.unusedSimpArgs false
set_option linter.unusedVariables false

/-- Its highest bits alone. -/
def Vb (n k : Nat) : List (List SV) := Bt fun j => decide (k ≤ j) && n.testBit j
theorem Vb_len (n k : Nat) : (Vb n k).length = 256 := Bt_len _
theorem Vb_top (n : Nat) : Nb 0 = Vb n 256 := Bt_congr fun j hj => by rw [Nat.zero_testBit, decide_eq_false (by omega)]; rfl
theorem Vb_bot (n : Nat) : Vb n 0 = Nb n := Bt_congr fun j hj => by rw [decide_eq_true (by omega)]; rfl
theorem Vb_get {n k : Nat} (h : k < 256) : (Vb n (k + 1)).getD k [] = [Bo false] := by rw [Vb, Bt_get h, decide_eq_false (by omega)]; rfl
theorem Vb_set {n k : Nat} (h : n.testBit k = true) : (Vb n (k + 1)).set k [Bo true] = Vb n k := by
  rw [Vb, Bt_set]
  refine Bt_congr fun j _ => ?_
  by_cases e : j = k
  · subst e; rw [if_pos rfl, decide_eq_true (by omega), h]; rfl
  · rw [if_neg e, show decide (k + 1 ≤ j) = decide (k ≤ j) by rw [decide_eq_decide]; omega]
theorem Vb_same {n k : Nat} (h : n.testBit k = false) : Vb n (k + 1) = Vb n k := by
  refine Bt_congr fun j _ => ?_
  by_cases e : j = k
  · subst e; rw [h, Bool.and_false, Bool.and_false]
  · rw [show decide (k + 1 ≤ j) = decide (k ≤ j) by rw [decide_eq_decide]; omega]
theorem Nb_set0 (r : Nat) (b : Bool) : (Nb (2 * r)).set 0 [Bo b] = Nb (2 * r + b.toNat) := by
  rw [Nb, Bt_set]
  refine Bt_congr fun j _ => ?_
  cases j with
  | zero => rw [if_pos rfl, Nat.testBit_zero]; cases b <;> simp <;> omega
  | succ j =>
    rw [if_neg (by omega), Nat.testBit_succ, Nat.testBit_succ]
    have := Bool.toNat_lt b
    congr 1; omega
/-- A round of the loop that divides. -/
theorem quo_step {A D k : Nat} (h0 : 0 < D) : A / 2 ^ k % D = (if D ≤ 2 * (A / 2 ^ (k + 1) % D) + (A.testBit k).toNat then 2 * (A / 2 ^ (k + 1) % D) + (A.testBit k).toNat - D else 2 * (A / 2 ^ (k + 1) % D) + (A.testBit k).toNat) ∧
    (A / D).testBit k = decide (D ≤ 2 * (A / 2 ^ (k + 1) % D) + (A.testBit k).toNat) := by
  have hb : (A.testBit k).toNat = A / 2 ^ k % 2 := by have := div_test A k; have := div_bit A k; omega
  rw [hb]
  obtain ⟨h1, h2⟩ := over_rest (N := A) (k := k) h0
  refine ⟨h1, ?_⟩
  rw [Nat.testBit_eq_decide_div_mod_eq, h2, decide_eq_decide]
  split <;> omega
theorem bquo_ok (A D : Nat) (hA : A < 2 ^ 256) (h0 : 0 < D) (hD : D < 2 ^ 255) : Con Try.prog gl0 (fnv 44) [.arr 1 (Nb A), .arr 1 (Nb D)] 0 [] (Ret (.tup [.arr 1 (Nb (A / D)), .arr 1 (Nb (A % D))])) := by
  refine Con.of Try.ok44 (nt := 30) (res := [.cell 4 76, .cell 5 76]) Try.mixed Try.func44 rfl rfl rfl rfl fun κ xc hκ => hκ.run 300 ?_
  simp (disch := omega) only [sBoxA, exec_succ, runR_next, runR_need, runR_stop, stepS, runOp, toSR, sop, rOf, rNew, sAlloc, sBox, isArr, ev, svs, Env.get, envOf, OutOK_need, OutOK_stop, List.size_toArray, List.length_cons, List.length_nil, List.range, List.range.loop, List.getElem?_toArray, List.getElem?_cons_succ, List.getElem?_cons_zero, List.map_cons, List.map_nil, ↓reduceIte, Nat.reduceAdd, Nat.reduceLT, Nat.reduceEqDiff, Nat.zero_add, true_and, forall_const, reduceCtorEq, gl0, Try.ar76, Nb_len]
  rw [← Nb_zero]
  refine Sat.less (Sat.loop (γ := Int × Nat) (fun k => ([(8, I k.1), (7, .ptr 5 0 0 0), (6, .ptr 4 0 0 0), (5, .ptr 3 0 0 0), (4, .ptr 2 0 0 0), (3, .ptr 1 0 0 0), (2, .ptr 0 0 0 0)], [(5, .row 1 256 76 (Nb k.2)), (4, .row 1 256 76 (Vb (A / D) (k.1 + 1).toNat)), (3, .row 1 256 76 (Nb 0)), (2, .row 1 256 76 (Nb 0)), (1, .row 1 256 76 (Nb D)), (0, .row 1 256 76 (Nb A))], 6)) (fun k => (k.1 + 1).toNat) (fun k => -1 ≤ k.1 ∧ k.1 ≤ 255 ∧ k.2 = A / 2 ^ (k.1 + 1).toNat % D) ?round (255, 0) ⟨by decide, by decide, ?start⟩) (by repeat' (first | exact EnvSub.nil _ | exact HeapSub.nil _ | refine EnvSub.cons rfl ?_ | refine HeapSub.cons rfl ?_ | (refine EnvSub.cons (by simp [Env.get]; done) ?_) | (refine HeapSub.cons (by simp [Heap.get]; done) ?_))) ?heap
  case start =>
    rw [show ((255 : Int) + 1).toNat = 256 by decide, Nat.div_eq_of_lt hA, Nat.zero_mod]
  case heap =>
    rw [show ((255 : Int) + 1).toNat = 256 by decide, ← Vb_top]
    exact (by repeat' (first | exact EnvSub.nil _ | exact HeapSub.nil _ | refine EnvSub.cons rfl ?_ | refine HeapSub.cons rfl ?_ | (refine EnvSub.cons (by simp [Env.get]; done) ?_) | (refine HeapSub.cons (by simp [Heap.get]; done) ?_)))
  case round =>
    rintro ⟨i, r⟩ ⟨i1, i2, hr⟩ ih
    dsimp only at i1 i2 hr ih ⊢
    refine hκ.run 300 ?_
    simp (disch := omega) only [exec_succ, runR_next, stepS, runOp, condS, toSR, sop, rOf, sInt, sBin, ev, Env.get, List.size_toArray, List.length_cons, List.length_nil, List.range, List.range.loop, List.getElem?_toArray, List.getElem?_cons_succ, List.getElem?_cons_zero, ↓reduceIte, Nat.reduceAdd, Nat.reduceLT, Nat.zero_add, gl0]
    refine OutOK_fork (fun h => ?_) (fun h => ?_) <;> try simp only [Bool.not_true, Bool.not_false, decide_eq_true_eq, decide_eq_false_iff_not, Bool.not_eq_true', Bool.not_eq_false', Bool.and_eq_true, Bool.or_eq_false_iff, Bool.or_eq_true, Bool.and_eq_false_iff] at h
    · obtain ⟨i, rfl⟩ : ∃ j : Nat, i = j := ⟨i.toNat, by omega⟩
      have hz := fun r h => ih ((i : Int) - 1, r) ⟨by dsimp only; omega, by dsimp only; omega, h⟩ (by dsimp only; omega)
      dsimp only at hz
      rw [show ((i : Int) - 1 + 1).toNat = i by omega] at hz
      rw [show ((i : Int) + 1).toNat = i + 1 by omega] at hr ⊢
      obtain ⟨q1, q2⟩ := quo_step (A := A) (k := i) h0
      rw [← hr] at q1 q2
      have hz := hz _ q1.symm
      have hrD : r < D := by rw [hr]; exact Nat.mod_lt _ h0
      have g1 := Nb_get (n := A) (show i < 256 by omega)
      have hbt := Bool.toNat_lt (A.testBit i)
      have g2 := Nb_set0 r (A.testBit i)
      have g5 := Nb_get (n := 2 * r) (show 0 < 256 by decide)
      clear q1 hr
      generalize A.testBit i = b at *
      simp (disch := omega) only [exec_succ, runR_next, runR_need, runR_call, stepS, runOp, toSR, sop, sLoadIn, sLoad, ev, evs, Env.get, Heap.get, OutOK_need, OutOK_call, List.size_toArray, List.length_cons, List.length_nil, List.range, List.range.loop, List.getElem?_toArray, List.getElem?_cons_succ, List.getElem?_cons_zero, ↓reduceIte, Nat.reduceAdd, Nat.reduceLT, Nat.reduceEqDiff, Nat.zero_add, Nat.mul_one, Nat.add_one_ne_zero, true_and, and_self, forall_const, Try.sz76, Try.ag76, Nb_len]
      (repeat (refine ⟨by first | omega | (refine ⟨?_, ?_⟩ <;> omega) | trivial | (simp; done) | decide +kernel, fun _ => ?_⟩))
      refine Does.ret hκ.hP hκ.hgl (btwice_ok r) ⟨trivial, by simp [SV.bnd, SV.bndL], by first | (simp [SV.bnd, SV.bndL]; done) | assumption⟩ ?_
      refine hκ.run 300 ?_
      simp (disch := omega) only [exec_succ, runR_next, runR_need, runR_call, stepS, runOp, toSR, sop, rOf, sLoadIn, sLoad, sStoreIn, sStoreArr, sStore, sIndexAddr, elemT, obind, ev, evs, svs, Env.get, Heap.get, Heap.set, takeN, cut, over, paste, aggOf, cellsS, one, ones, idFree, idFrees, setO, Value.cells, Value.oneCell', OutOK_need, OutOK_call, undefS, undef, Int.cast_ofNat_Int, Bool.and_true, List.size_toArray, List.length_cons, List.length_nil, List.range, List.range.loop, List.getElem?_toArray, List.getElem?_cons_succ, List.getElem?_cons_zero, List.map_cons, List.map_nil, List.toList_toArray, ↓reduceIte, Nat.reduceAdd, Nat.reduceLT, Nat.reduceEqDiff, Nat.zero_add, Nat.mul_one, Nat.add_one_ne_zero, Int.reduceToNat, Int.reduceLT, Int.reduceLE, Int.toNat_natCast, ne_eq, not_false_eq_true, true_and, and_self, forall_const, gl0, Try.sz4, Try.ag4, Try.underlying76, Try.sz76, Try.ag76, Nb_len, g1, g2, g5]
      (repeat (refine ⟨by first | omega | (refine ⟨?_, ?_⟩ <;> omega) | trivial | (simp; done) | decide +kernel, fun _ => ?_⟩))
      refine Does.ret hκ.hP hκ.hgl (bless_ok _ D (by omega) (by omega)) ⟨trivial, by simp [SV.bnd, SV.bndL], by first | (simp [SV.bnd, SV.bndL]; done) | assumption⟩ ?_
      by_cases hc : D ≤ 2 * r + b.toNat
      · rw [if_pos hc] at hz
        rw [decide_eq_true hc] at q2
        rw [decide_eq_false (show ¬ 2 * r + b.toNat < D by omega)]
        have g3 := Vb_get (n := A / D) (show i < 256 by omega)
        have g4 := Vb_set q2
        obtain ⟨T, hT⟩ : ∃ T, 2 * r + b.toNat = T + D := ⟨2 * r + b.toNat - D, by omega⟩
        rw [hT, Nat.add_sub_cancel] at hz
        rw [hT]
        refine hκ.run 300 ?_
        simp (disch := omega) only [exec_succ, runR_next, runR_need, runR_fork_true, runR_call, stepS, runOp, condS, toSR, sop, sLoadIn, sLoad, sUn, ev, evs, Env.get, Heap.get, setO, OutOK_need, OutOK_call, List.size_toArray, List.length_cons, List.length_nil, List.range, List.range.loop, List.getElem?_toArray, List.getElem?_cons_succ, List.getElem?_cons_zero, ↓reduceIte, Nat.reduceAdd, Nat.reduceLT, Nat.reduceEqDiff, Nat.zero_add, Nat.mul_one, Nat.add_one_ne_zero, Bool.not_false, true_and, and_self, forall_const, gl0, Try.sz76, Try.ag76, Nb_len]
        (repeat (refine ⟨by first | omega | (refine ⟨?_, ?_⟩ <;> omega) | trivial | (simp; done) | decide +kernel, fun _ => ?_⟩))
        refine Does.ret hκ.hP hκ.hgl (btake_ok T D) ⟨trivial, by simp [SV.bnd, SV.bndL], by first | (simp [SV.bnd, SV.bndL]; done) | assumption⟩ ?_
        refine hκ.run 300 ?_
        simp (disch := omega) only [exec_succ, runR_next, runR_need, runR_stop, stepS, runOp, toSR, sop, rOf, sStoreIn, sStoreArr, sStore, sInt, sBin, sIndexAddr, elemT, obind, ev, svs, Env.get, Heap.get, Heap.set, over, paste, cellsS, one, ones, idFree, idFrees, setO, Value.cells, Value.oneCell', OutOK_need, OutOK_stop, undefS, undef, Int.cast_ofNat_Int, Bool.and_true, List.size_toArray, List.length_cons, List.length_nil, List.range, List.range.loop, List.getElem?_toArray, List.getElem?_cons_succ, List.getElem?_cons_zero, List.map_cons, List.map_nil, List.toList_toArray, ↓reduceIte, Nat.reduceAdd, Nat.reduceLT, Nat.reduceEqDiff, Nat.zero_add, Nat.mul_one, Nat.add_one_ne_zero, Int.toNat_natCast, ne_eq, not_false_eq_true, and_true, true_and, and_self, forall_const, wrap_i64, gl0, Try.sz4, Try.underlying76, Try.sz76, Nb_len, Vb_len, g3, g4]
        (repeat (refine ⟨by first | omega | (refine ⟨?_, ?_⟩ <;> omega) | trivial | (simp; done) | decide +kernel, fun _ => ?_⟩))
        refine Sat.via (fun i => i) (hz) (by intro i j; (repeat (first | omega | split))) (by repeat' (first | exact EnvVia.nil | refine EnvVia.cons (by first | trivial | decide | (simp [SV.bnd, SV.bndL]; done)) rfl ?_)) (by repeat' (first | exact HeapVia.nil | refine HeapVia.cons (by decide) (by first | trivial | (simp [Blk.bnd, SV.bnd, SV.bndL]; done) | exact bndL_mapV _ _ _ | exact LR.bnd (by rw [l2]; simp [bndE, SV.bnd, SV.bndL]) (by rw [l6]; decide)) (by first | rfl | (simp only [Blk.ren, renL_mapV]; rfl) | (rw [LR.ren (by rw [l2] <;> rfl) (by rw [l6] <;> rfl)]; rfl)) ?_)) ⟨by have := hκ.hm; (try dsimp only at this); (first | done | omega), fun i hi => by have := hκ.hm; (try dsimp only at this); (first | omega | (dsimp only; omega) | (rw [if_neg (by omega)]))⟩ ⟨by simp, rfl⟩
      · rw [if_neg hc] at hz
        rw [decide_eq_false hc] at q2
        rw [decide_eq_true (show 2 * r + b.toNat < D by omega)]
        rw [Vb_same q2]
        refine hκ.run 300 ?_
        simp (disch := omega) only [exec_succ, runR_next, runR_fork_false, runR_stop, stepS, runOp, condS, toSR, sop, rOf, sInt, sBin, sUn, ev, Env.get, setO, OutOK_stop, List.size_toArray, List.length_cons, List.length_nil, List.range, List.range.loop, List.getElem?_toArray, List.getElem?_cons_succ, List.getElem?_cons_zero, ↓reduceIte, Nat.reduceAdd, Nat.reduceLT, Nat.reduceEqDiff, Nat.zero_add, Bool.not_true, wrap_i64, gl0]
        (repeat (refine ⟨by first | omega | (refine ⟨?_, ?_⟩ <;> omega) | trivial | (simp; done) | decide +kernel, fun _ => ?_⟩))
        refine Sat.via (fun i => i) (hz) (by intro i j; (repeat (first | omega | split))) (by repeat' (first | exact EnvVia.nil | refine EnvVia.cons (by first | trivial | decide | (simp [SV.bnd, SV.bndL]; done)) rfl ?_)) (by repeat' (first | exact HeapVia.nil | refine HeapVia.cons (by decide) (by first | trivial | (simp [Blk.bnd, SV.bnd, SV.bndL]; done) | exact bndL_mapV _ _ _ | exact LR.bnd (by rw [l2]; simp [bndE, SV.bnd, SV.bndL]) (by rw [l6]; decide)) (by first | rfl | (simp only [Blk.ren, renL_mapV]; rfl) | (rw [LR.ren (by rw [l2] <;> rfl) (by rw [l6] <;> rfl)]; rfl)) ?_)) ⟨by have := hκ.hm; (try dsimp only at this); (first | done | omega), fun i hi => by have := hκ.hm; (try dsimp only at this); (first | omega | (dsimp only; omega) | (rw [if_neg (by omega)]))⟩ ⟨by simp, rfl⟩
    · simp (disch := omega) only [allQuiet, quietOp, drawS, exec_succ, runR_next, runR_stop, stepS, goS, exitTo, OutOK_stop, Option.isNone_none, Bool.and_true, Bool.and_false, ↓reduceIte, beq_self_eq_true]
      obtain rfl : i = -1 := by omega
      rw [show ((-1 : Int) + 1).toNat = 0 by decide, Nat.pow_zero, Nat.div_one] at hr
      rw [show ((-1 : Int) + 1).toNat = 0 by decide, Vb_bot]
      subst hr
      refine hκ.run 300 ?_
      simp (disch := omega) only [allQuiet, quietOp, drawS, exec_succ, runR_stop, stepS, OutOK_stop, Option.isNone_none, Bool.and_true, Bool.and_false, Int.reduceLE, Int.reduceNeg, decide_false, gl0]
      (repeat (refine ⟨by first | omega | (refine ⟨?_, ?_⟩ <;> omega) | trivial | (simp; done) | decide +kernel, fun _ => ?_⟩))
      refine hκ.draw (.q 0 (.q 1 (.l 2 [1] (.l 3 [] (.fin))))) [0, 1] (by kernel_rfl) (by kernel_rfl) rfl ?_
      simp (disch := omega) only [sop, sLoadIn, sLoad, sStoreArr, sStore, ev, Env.get, Heap.get, Heap.set, setO, drawP_fin, drawP_q, drawP_l, dnext, dq, dqn, dl, slotR, ag, guardP, R1Q, dstOK, loudP, again, again1, slotIs, R1OK, undefS, undef, List.getElem?_toArray, List.getElem?_cons_succ, List.getElem?_cons_zero, ↓reduceIte, Nat.reduceLT, Nat.reduceEqDiff, Nat.mul_one, Nat.add_one_ne_zero, Int.reduceNeg, ne_eq, not_false_eq_true, true_and, and_self, forall_const, gl0, Try.sz76, Try.ag76, Nb_len]
      (repeat (refine ⟨by first | omega | (refine ⟨?_, ?_⟩ <;> omega) | trivial | (simp; done) | decide +kernel, fun _ => ?_⟩))
      refine hκ.run 300 ?_
      simp (disch := omega) only [exec_succ, runR_stop, stepS, OutOK_stop, Int.reduceNeg, gl0]
      (repeat (refine ⟨by first | omega | (refine ⟨?_, ?_⟩ <;> omega) | trivial | (simp; done) | decide +kernel, fun _ => ?_⟩))
      refine hκ.ret _ _ _ _ _ _ trivial rfl ?_
      exact .ret (by simp [SV.bnd, SV.bndL])
theorem bnum_ok (N : Nat) (hN : N < 2 ^ 256) : Con Try.prog gl0 (fnv 47) [.arr 1 (Nb N)] 0 [] (Ret (.tup [W (N % 2 ^ 128), Bo (decide (N < 2 ^ 128))])) := by
  refine Con.of Try.ok47 (nt := 39) (res := [.cell 2 44, .tmp 3]) Try.mixed Try.func47 rfl rfl rfl rfl fun κ xc hκ => hκ.run 300 ?_
  simp (disch := omega) only [sBoxA, exec_succ, runR_next, runR_need, runR_stop, stepS, runOp, toSR, sop, rOf, rNew, sAlloc, sAlloc0, sBox, isArr, ev, svs, Env.get, envOf, OutOK_need, OutOK_stop, List.size_toArray, List.length_cons, List.length_nil, List.range, List.range.loop, List.getElem?_toArray, List.getElem?_cons_succ, List.getElem?_cons_zero, List.map_cons, List.map_nil, ↓reduceIte, Nat.reduceAdd, Nat.reduceLT, Nat.zero_add, true_and, forall_const, gl0, Try.ze44, Try.ar44, Try.ar76, Nb_len]
  refine Sat.less (Sat.loop (γ := Int × Nat) (fun k => ([(5, I k.1), (4, .ptr 2 0 0 0), (2, .ptr 1 0 0 0), (1, .ptr 0 0 0 0)], [(2, .own [U (k.2 / 18446744073709551616), U (k.2 % 18446744073709551616)] 44), (1, .own [U 0, U 0] 44), (0, .row 1 256 76 (Nb N))], 3)) (fun k => (k.1 + 1).toNat) (fun k => -1 ≤ k.1 ∧ k.1 ≤ 127 ∧ k.2 = N % 2 ^ 128 / 2 ^ (k.1 + 1).toNat) ?round (127, 0) ⟨by decide, by decide, ?start⟩) (by repeat' (first | exact EnvSub.nil _ | exact HeapSub.nil _ | refine EnvSub.cons rfl ?_ | refine HeapSub.cons rfl ?_ | (refine EnvSub.cons (by simp [Env.get]; done) ?_) | (refine HeapSub.cons (by simp [Heap.get]; done) ?_))) (by repeat' (first | exact EnvSub.nil _ | exact HeapSub.nil _ | refine EnvSub.cons rfl ?_ | refine HeapSub.cons rfl ?_ | (refine EnvSub.cons (by simp [Env.get]; done) ?_) | (refine HeapSub.cons (by simp [Heap.get]; done) ?_)))
  case start =>
    rw [show ((127 : Int) + 1).toNat = 128 by decide, Nat.div_eq_of_lt (Nat.mod_lt _ (by decide))]
  case round =>
    rintro ⟨i, v⟩ ⟨i1, i2, hv⟩ ih
    dsimp only at i1 i2 hv ih ⊢
    refine hκ.run 300 ?_
    simp (disch := omega) only [exec_succ, runR_next, stepS, runOp, condS, toSR, sop, rOf, sInt, sBin, ev, Env.get, List.size_toArray, List.length_cons, List.length_nil, List.range, List.range.loop, List.getElem?_toArray, List.getElem?_cons_succ, List.getElem?_cons_zero, ↓reduceIte, Nat.reduceAdd, Nat.reduceLT, Nat.zero_add, gl0]
    refine OutOK_fork (fun h => ?_) (fun h => ?_) <;> try simp only [Bool.not_true, Bool.not_false, decide_eq_true_eq, decide_eq_false_iff_not, Bool.not_eq_true', Bool.not_eq_false', Bool.and_eq_true, Bool.or_eq_false_iff, Bool.or_eq_true, Bool.and_eq_false_iff] at h
    · obtain ⟨i, rfl⟩ : ∃ j : Nat, i = j := ⟨i.toNat, by omega⟩
      have hz := fun v h => ih ((i : Int) - 1, v) ⟨by dsimp only; omega, by dsimp only; omega, h⟩ (by dsimp only; omega)
      dsimp only at hz
      rw [show ((i : Int) - 1 + 1).toNat = i by omega] at hz
      rw [show ((i : Int) + 1).toNat = i + 1 by omega] at hv
      have hd := div_test (N % 2 ^ 128) i
      rw [← hv, Nat.testBit_mod_two_pow, decide_eq_true (show i < 128 by omega), Bool.true_and] at hd
      have hz := hz _ hd.symm
      have hv2 : v < 2 ^ 127 := by
        rw [hv]
        exact Nat.div_lt_of_lt_mul (Nat.lt_of_lt_of_le (Nat.mod_lt _ (by decide)) (by rw [← Nat.pow_add]; exact Nat.pow_le_pow_right (by decide) (by omega)))
      clear hv hd
      have g1 := Nb_get (n := N) (show i < 256 by omega)
      generalize N.testBit i = b at *
      have w1 : IntKind.u64.wrap (((v % 18446744073709551616 : Nat) : Int) * 2) = ((2 * (v % 18446744073709551616) % 18446744073709551616 : Nat) : Int) := by rw [wrap_u64_mod]; omega
      have w2 : ((v / 18446744073709551616 : Nat) : Int) * 2 + ((v % 18446744073709551616 : Nat) : Int) / 9223372036854775808 = (((2 * v + b.toNat) / 18446744073709551616 : Nat) : Int) := by
        have := Bool.toNat_lt b
        omega
      cases b
      · simp only [Bool.toNat_false, Nat.add_zero] at hz w2
        rw [show 2 * v % 18446744073709551616 = 2 * (v % 18446744073709551616) % 18446744073709551616 by omega] at hz
        simp (disch := omega) only [exec_succ, runR_next, runR_need, runR_fork_false, runR_stop, stepS, runOp, condS, toSR, sop, rOf, sLoadIn, sLoad, sStoreIn, sStore, sInt, sBin, sFieldAddr, sIndexAddr, elemT, obind, ev, svs, Env.get, Heap.get, Heap.set, takeN, cut, over, paste, aggOf, cellsS, one, ones, Value.cells, Value.oneCell', OutOK_need, OutOK_stop, undefS, undef, Int.cast_ofNat_Int, List.size_toArray, List.length_cons, List.length_nil, List.range, List.range.loop, List.getElem?_toArray, List.getElem?_cons_succ, List.getElem?_cons_zero, List.map_cons, List.map_nil, List.toList_toArray, ↓reduceIte, Nat.reduceAdd, Nat.reduceLT, Nat.reduceEqDiff, Nat.zero_add, Nat.add_zero, Nat.add_one_ne_zero, Int.reduceToNat, Int.reduceLE, Int.toNat_natCast, true_and, and_self, forall_const, shAmt_of, IntKind.bits, Int.reducePow, Int.fdiv_eq_ediv_of_nonneg, wrap_i64, wrap_u64, Try.sz4, Try.ag4, Try.sz31, Try.ag31, Try.fd44f0, Try.fd44f1, Try.underlying76, Nb_len, g1, w1, w2]
        (repeat (refine ⟨by first | omega | (refine ⟨?_, ?_⟩ <;> omega) | trivial | (simp; done) | decide +kernel, fun _ => ?_⟩))
        refine Sat.via (fun i => i) (hz) (by intro i j; (repeat (first | omega | split))) (by repeat' (first | exact EnvVia.nil | refine EnvVia.cons (by first | trivial | decide | (simp [SV.bnd, SV.bndL]; done)) rfl ?_)) (by repeat' (first | exact HeapVia.nil | refine HeapVia.cons (by decide) (by first | trivial | (simp [Blk.bnd, SV.bnd, SV.bndL]; done) | exact bndL_mapV _ _ _ | exact LR.bnd (by rw [l2]; simp [bndE, SV.bnd, SV.bndL]) (by rw [l6]; decide)) (by first | rfl | (simp only [Blk.ren, renL_mapV]; rfl) | (rw [LR.ren (by rw [l2] <;> rfl) (by rw [l6] <;> rfl)]; rfl)) ?_)) ⟨by have := hκ.hm; (try dsimp only at this); (first | done | omega), fun i hi => by have := hκ.hm; (try dsimp only at this); (first | omega | (dsimp only; omega) | (rw [if_neg (by omega)]))⟩ ⟨by simp, rfl⟩
      · simp only [Bool.toNat_true] at hz w2
        have w3 : ((2 * (v % 18446744073709551616) % 18446744073709551616 : Nat) : Int) + 1 = (((2 * v + 1) % 18446744073709551616 : Nat) : Int) := by omega
        simp (disch := omega) only [exec_succ, runR_next, runR_need, runR_fork_true, runR_stop, stepS, runOp, condS, toSR, sop, rOf, sLoadIn, sLoad, sStoreIn, sStore, sInt, sBin, sFieldAddr, sIndexAddr, elemT, obind, ev, svs, Env.get, Heap.get, Heap.set, takeN, cut, over, paste, aggOf, cellsS, one, ones, Value.cells, Value.oneCell', OutOK_need, OutOK_stop, undefS, undef, Int.cast_ofNat_Int, List.size_toArray, List.length_cons, List.length_nil, List.range, List.range.loop, List.getElem?_toArray, List.getElem?_cons_succ, List.getElem?_cons_zero, List.map_cons, List.map_nil, List.toList_toArray, ↓reduceIte, Nat.reduceAdd, Nat.reduceLT, Nat.reduceEqDiff, Nat.zero_add, Nat.add_zero, Nat.add_one_ne_zero, Int.reduceToNat, Int.reduceLE, Int.toNat_natCast, true_and, and_self, forall_const, shAmt_of, IntKind.bits, Int.reducePow, Int.fdiv_eq_ediv_of_nonneg, wrap_i64, wrap_u64, Try.sz4, Try.ag4, Try.sz31, Try.ag31, Try.fd44f0, Try.fd44f1, Try.underlying76, Nb_len, g1, w1, w2, w3]
        (repeat (refine ⟨by first | omega | (refine ⟨?_, ?_⟩ <;> omega) | trivial | (simp; done) | decide +kernel, fun _ => ?_⟩))
        refine Sat.via (fun i => i) (hz) (by intro i j; (repeat (first | omega | split))) (by repeat' (first | exact EnvVia.nil | refine EnvVia.cons (by first | trivial | decide | (simp [SV.bnd, SV.bndL]; done)) rfl ?_)) (by repeat' (first | exact HeapVia.nil | refine HeapVia.cons (by decide) (by first | trivial | (simp [Blk.bnd, SV.bnd, SV.bndL]; done) | exact bndL_mapV _ _ _ | exact LR.bnd (by rw [l2]; simp [bndE, SV.bnd, SV.bndL]) (by rw [l6]; decide)) (by first | rfl | (simp only [Blk.ren, renL_mapV]; rfl) | (rw [LR.ren (by rw [l2] <;> rfl) (by rw [l6] <;> rfl)]; rfl)) ?_)) ⟨by have := hκ.hm; (try dsimp only at this); (first | done | omega), fun i hi => by have := hκ.hm; (try dsimp only at this); (first | omega | (dsimp only; omega) | (rw [if_neg (by omega)]))⟩ ⟨by simp, rfl⟩
    · simp (disch := omega) only [exec_succ, runR_next, runR_stop, stepS, runOp, goS, toSR, sop, rOf, ev, exitTo, OutOK_stop, List.size_toArray, List.length_cons, List.length_nil, List.range, List.range.loop, List.getElem?_toArray, List.getElem?_cons_zero, ↓reduceIte, Nat.reduceLT, Nat.zero_add, beq_self_eq_true]
      obtain rfl : i = -1 := by omega
      rw [show ((-1 : Int) + 1).toNat = 0 by decide, Nat.pow_zero, Nat.div_one] at hv
      subst hv
      refine hκ.run 300 ?_
      simp (disch := omega) only [exec_succ, runR_stop, stepS, OutOK_stop, Int.reduceLE, Int.reduceNeg, decide_false, gl0]
      refine Sat.less (Sat.loop (γ := Nat) (fun k => ([(6, I k), (4, .ptr 2 0 0 0), (2, .ptr 1 0 0 0), (1, .ptr 0 0 0 0)], [(2, .own [U (N % 2 ^ 128 / 18446744073709551616), U (N % 2 ^ 128 % 18446744073709551616)] 44), (1, .own [U 0, U 0] 44), (0, .row 1 256 76 (Nb N))], 3)) (fun k => 256 - k) (fun k => 128 ≤ k ∧ k ≤ 256 ∧ ∀ j, 128 ≤ j → j < k → N.testBit j = false) ?round2 128 ⟨by decide, by decide, fun j h1 h2 => by omega⟩) (by repeat' (first | exact EnvSub.nil _ | exact HeapSub.nil _ | refine EnvSub.cons rfl ?_ | refine HeapSub.cons rfl ?_ | (refine EnvSub.cons (by simp [Env.get]; done) ?_) | (refine HeapSub.cons (by simp [Heap.get]; done) ?_))) (by repeat' (first | exact EnvSub.nil _ | exact HeapSub.nil _ | refine EnvSub.cons rfl ?_ | refine HeapSub.cons rfl ?_ | (refine EnvSub.cons (by simp [Env.get]; done) ?_) | (refine HeapSub.cons (by simp [Heap.get]; done) ?_)))
      case round2 =>
        rintro k ⟨k1, k2, hj⟩ ih
        dsimp only at ih ⊢
        refine hκ.run 300 ?_
        simp (disch := omega) only [exec_succ, runR_next, stepS, runOp, condS, toSR, sop, rOf, sInt, sBin, ev, Env.get, List.size_toArray, List.length_cons, List.length_nil, List.range, List.range.loop, List.getElem?_toArray, List.getElem?_cons_succ, List.getElem?_cons_zero, ↓reduceIte, Nat.reduceAdd, Nat.reduceLT, Nat.zero_add, gl0]
        refine OutOK_fork (fun h => ?_) (fun h => ?_) <;> try simp only [Bool.not_true, Bool.not_false, decide_eq_true_eq, decide_eq_false_iff_not, Bool.not_eq_true', Bool.not_eq_false', Bool.and_eq_true, Bool.or_eq_false_iff, Bool.or_eq_true, Bool.and_eq_false_iff] at h
        · have hz := fun h => ih (k + 1) ⟨by omega, by omega, h⟩ (by omega)
          have g1 := Nb_get (n := N) (show k < 256 by omega)
          cases hb : N.testBit k <;> rw [hb] at g1
          · have hz := hz fun j h1 h2 => by
              by_cases e : j = k
              · rw [e]; exact hb
              · exact hj j h1 (by omega)
            simp (disch := omega) only [exec_succ, runR_next, runR_need, runR_fork_false, runR_stop, stepS, runOp, condS, toSR, sop, rOf, sLoadIn, sLoad, sInt, sBin, sIndexAddr, elemT, obind, ev, Env.get, Heap.get, takeN, cut, aggOf, OutOK_need, OutOK_stop, Int.cast_ofNat_Int, List.size_toArray, List.length_cons, List.length_nil, List.range, List.range.loop, List.getElem?_toArray, List.getElem?_cons_succ, List.getElem?_cons_zero, ↓reduceIte, Nat.reduceAdd, Nat.reduceLT, Nat.reduceEqDiff, Nat.zero_add, Nat.add_one_ne_zero, Int.toNat_natCast, wrap_i64, Try.sz4, Try.ag4, Try.underlying76, Nb_len, g1]
            (repeat (refine ⟨by first | omega | (refine ⟨?_, ?_⟩ <;> omega) | trivial | (simp; done) | decide +kernel, fun _ => ?_⟩))
            refine Sat.via (fun i => i) (hz) (by intro i j; (repeat (first | omega | split))) (by repeat' (first | exact EnvVia.nil | refine EnvVia.cons (by first | trivial | decide | (simp [SV.bnd, SV.bndL]; done)) rfl ?_)) (by repeat' (first | exact HeapVia.nil | refine HeapVia.cons (by decide) (by first | trivial | (simp [Blk.bnd, SV.bnd, SV.bndL]; done) | exact bndL_mapV _ _ _ | exact LR.bnd (by rw [l2]; simp [bndE, SV.bnd, SV.bndL]) (by rw [l6]; decide)) (by first | rfl | (simp only [Blk.ren, renL_mapV]; rfl) | (rw [LR.ren (by rw [l2] <;> rfl) (by rw [l6] <;> rfl)]; rfl)) ?_)) ⟨by have := hκ.hm; (try dsimp only at this); (first | done | omega), fun i hi => by have := hκ.hm; (try dsimp only at this); (first | omega | (dsimp only; omega) | (rw [if_neg (by omega)]))⟩ ⟨by simp, rfl⟩
          · have hge : ¬ N < 2 ^ 128 := fun hlt => by
              rw [Nat.testBit_lt_two_pow (Nat.lt_of_lt_of_le hlt (Nat.pow_le_pow_right (by decide) k1))] at hb
              cases hb
            rw [decide_eq_false hge] at hκ
            simp (disch := omega) only [exec_succ, runR_next, runR_need, runR_fork_true, runR_stop, stepS, runOp, condS, toSR, sop, rOf, sLoadIn, sLoad, sStoreIn, sStore, sIndexAddr, elemT, obind, ev, Env.get, Heap.get, Heap.set, takeN, cut, over, paste, aggOf, cellsS, one, ones, Value.oneCell', OutOK_need, OutOK_stop, undefS, undef, Int.cast_ofNat_Int, List.size_toArray, List.length_cons, List.length_nil, List.range, List.range.loop, List.getElem?_toArray, List.getElem?_cons_succ, List.getElem?_cons_zero, ↓reduceIte, Nat.reduceAdd, Nat.reduceLT, Nat.reduceEqDiff, Nat.zero_add, Nat.add_one_ne_zero, Int.toNat_natCast, true_and, and_self, forall_const, Try.sz4, Try.ag4, Try.sz44, Try.ag44, Try.underlying76, Nb_len, g1]
            (repeat (refine ⟨by first | omega | (refine ⟨?_, ?_⟩ <;> omega) | trivial | (simp; done) | decide +kernel, fun _ => ?_⟩))
            refine hκ.ret _ _ _ _ _ _ trivial rfl ?_
            exact .ret (by simp [SV.bnd, SV.bndL])
        · simp (disch := omega) only [exec_succ, runR_next, runR_need, runR_stop, stepS, runOp, goS, toSR, sop, rOf, sLoadIn, sLoad, sStoreIn, sStore, ev, Env.get, Heap.get, Heap.set, takeN, cut, over, paste, aggOf, cellsS, one, ones, exitTo, Value.oneCell', OutOK_need, OutOK_stop, undefS, undef, List.size_toArray, List.length_cons, List.length_nil, List.range, List.range.loop, List.getElem?_toArray, List.getElem?_cons_succ, List.getElem?_cons_zero, ↓reduceIte, Nat.reduceAdd, Nat.reduceLT, Nat.reduceEqDiff, Nat.zero_add, beq_self_eq_true, true_and, and_self, forall_const, Try.sz44, Try.ag44]
          obtain rfl : k = 256 := by omega
          have hlt : N < 2 ^ 128 := Nat.lt_pow_two_of_testBit _ fun j hj2 => by
            by_cases e : j < 256
            · exact hj j hj2 e
            · exact Nat.testBit_lt_two_pow (Nat.lt_of_lt_of_le hN (Nat.pow_le_pow_right (by decide) (by omega)))
          rw [decide_eq_true hlt] at hκ
          refine hκ.run 300 ?_
          simp (disch := omega) only [exec_succ, runR_stop, stepS, OutOK_stop, Int.cast_ofNat_Int, Int.reduceLT, decide_false, gl0]
          (repeat (refine ⟨by first | omega | (refine ⟨?_, ?_⟩ <;> omega) | trivial | (simp; done) | decide +kernel, fun _ => ?_⟩))
          refine hκ.ret _ _ _ _ _ _ trivial rfl ?_
          exact .ret (by simp [SV.bnd, SV.bndL])
end Go.Proofs.Ytomfpciigaopiaa

/- Regular topologies. No condition. -/
import Derived.Test.YtbgnnmlhpaaebaaDoorTa
namespace Go.Proofs.YtbgnnmlhpaaebaaDoor
open Go Go.Sy
set_option maxRecDepth 100000
set_option linter.unusedSimpArgs false
set_option linter.unusedVariables false

/-- Seats of cores of so many threads. -/
def regK (c t n : Nat) : List Sea := (List.range n).map fun k => (((k / t / c : Nat) : Int), ((k / t % c : Nat) : Int))
theorem regK_succ (c t n : Nat) : regK c t (n + 1) = regK c t n ++ [(((n / t / c : Nat) : Int), ((n / t % c : Nat) : Int))] := by
  rw [regK, List.range_succ, List.map_append]; rfl
theorem regK_len (c t n : Nat) : (regK c t n).length = n := by simp [regK]
abbrev regP (s c t : Int) : Prop := (1 ≤ s ∧ s ≤ 4) ∧ (1 ≤ c ∧ c ≤ 8) ∧ 1 ≤ t ∧ t.toNat ≤ 8 / (s.toNat * c.toNat)
def regE (s c t : Int) : Int := if regP s c t then 0 else 2
def regL (s c t : Int) : List Sea := if regP s c t then regK c.toNat t.toNat (s.toNat * c.toNat * t.toNat) else []
theorem regular_ok (s c t : Int) : Con Tryd.prog gl0 (fnv 22) [I s, I c, I t] 0 [] (Ret (.tup [To (regL s c t), I (regE s c t)])) := by
  suffices H : Con Tryd.prog gl0 (fnv 22) [I s, I c, I t] 0 [] (Ret (if regP s c t then .tup [To (regK c.toNat t.toNat (s.toNat * c.toNat * t.toNat)), I 0] else .tup [.agg [.v (.slice none 0 0)], I 2])) by
    by_cases ho : regP s c t
    · rw [if_pos ho] at H; rw [regL, regE, if_pos ho, if_pos ho]; exact H
    · rw [if_neg ho] at H; rw [regL, regE, if_neg ho, if_neg ho]; exact Con.repR (fun _ => Rel.tupMap (RelL.mapHead (Rel.aggMap nil1))) H
  refine Con.of Tryd.ok22 (nt := 63) (res := [.cell 6 24, .tmp 7]) Tryd.mixed Tryd.func22 rfl rfl rfl rfl fun κ xc hκ => hκ.run 300 ?_
  simp (disch := omega) only [exec_succ, runR_next, stepS, runOp, guardS, toSR, sop, rOf, rNew, sAlloc, sAlloc0, sInt, sBin, ev, svs, Env.get, envOf, undefS, undef, List.size_toArray, List.length_cons, List.length_nil, List.range, List.range.loop, List.getElem?_toArray, List.getElem?_cons_succ, List.getElem?_cons_zero, List.map_cons, List.map_nil, Option.bind_some, ↓reduceIte, Nat.reduceAdd, Nat.reduceLT, Nat.zero_add, Nat.add_one_ne_zero, Bool.not_false, and_self, gl0, Tryd.ze24, Tryd.ar24]
  by_cases h1 : s < 1
  · rw [if_neg (fun h => by omega)] at hκ
    simp (disch := omega) only [exec_succ, runR_next, runR_need, runR_fork_true, runR_guard_tf, runR_stop, stepS, runOp, guardS, condS, toSR, sop, rOf, sPick, sLoadIn, sLoad, sStoreIn, sStore, sBin, ev, Env.get, Heap.get, Heap.set, takeN, cut, over, paste, aggOf, cellsS, one, ones, Value.oneCell', OutOK_need, OutOK_stop, undefS, undef, List.size_toArray, List.length_cons, List.length_nil, List.range, List.range.loop, List.getElem?_toArray, List.getElem?_cons_succ, List.getElem?_cons_zero, Option.bind_some, ↓reduceIte, Nat.reduceAdd, Nat.reduceLT, Nat.reduceEqDiff, Nat.zero_add, Nat.add_one_ne_zero, Bool.not_false, decide_true, true_and, and_self, forall_const, reduceCtorEq, Tryd.sz24, Tryd.ag24, h1]
    refine hκ.ret _ _ _ _ _ _ trivial rfl ?_
    exact .ret (by simp [SV.bnd, SV.bndL])
  by_cases h2 : (4 : Int) < s
  · rw [if_neg (fun h => by omega)] at hκ
    simp (disch := omega) only [exec_succ, runR_next, runR_need, runR_fork_true, runR_guard_ff, runR_guard_tf, runR_stop, stepS, runOp, guardS, condS, toSR, sop, rOf, sPick, sLoadIn, sLoad, sStoreIn, sStore, sInt, sBin, ev, Env.get, Heap.get, Heap.set, takeN, cut, over, paste, aggOf, cellsS, one, ones, Value.oneCell', OutOK_need, OutOK_stop, undefS, undef, List.size_toArray, List.length_cons, List.length_nil, List.range, List.range.loop, List.getElem?_toArray, List.getElem?_cons_succ, List.getElem?_cons_zero, Option.bind_some, ↓reduceIte, Nat.reduceAdd, Nat.reduceLT, Nat.reduceEqDiff, Nat.zero_add, Nat.add_one_ne_zero, Bool.not_false, decide_true, decide_false, true_and, and_self, forall_const, reduceCtorEq, Tryd.sz24, Tryd.ag24, h1, h2]
    refine hκ.ret _ _ _ _ _ _ trivial rfl ?_
    exact .ret (by simp [SV.bnd, SV.bndL])
  by_cases h3 : c < 1
  · rw [if_neg (fun h => by omega)] at hκ
    simp (disch := omega) only [exec_succ, runR_next, runR_need, runR_fork_true, runR_guard_ff, runR_guard_tf, runR_stop, stepS, runOp, guardS, condS, toSR, sop, rOf, sPick, sLoadIn, sLoad, sStoreIn, sStore, sInt, sBin, ev, Env.get, Heap.get, Heap.set, takeN, cut, over, paste, aggOf, cellsS, one, ones, Value.oneCell', OutOK_need, OutOK_stop, undefS, undef, List.size_toArray, List.length_cons, List.length_nil, List.range, List.range.loop, List.getElem?_toArray, List.getElem?_cons_succ, List.getElem?_cons_zero, Option.bind_some, ↓reduceIte, Nat.reduceAdd, Nat.reduceLT, Nat.reduceEqDiff, Nat.zero_add, Nat.add_one_ne_zero, Bool.not_false, decide_true, decide_false, true_and, and_self, forall_const, reduceCtorEq, Tryd.sz24, Tryd.ag24, h1, h2, h3]
    refine hκ.ret _ _ _ _ _ _ trivial rfl ?_
    exact .ret (by simp [SV.bnd, SV.bndL])
  by_cases h4 : (8 : Int) < c
  · rw [if_neg (fun h => by omega)] at hκ
    simp (disch := omega) only [exec_succ, runR_next, runR_need, runR_fork_true, runR_guard_ff, runR_guard_tf, runR_stop, stepS, runOp, guardS, condS, toSR, sop, rOf, sPick, sLoadIn, sLoad, sStoreIn, sStore, sInt, sBin, ev, Env.get, Heap.get, Heap.set, takeN, cut, over, paste, aggOf, cellsS, one, ones, Value.oneCell', OutOK_need, OutOK_stop, undefS, undef, List.size_toArray, List.length_cons, List.length_nil, List.range, List.range.loop, List.getElem?_toArray, List.getElem?_cons_succ, List.getElem?_cons_zero, Option.bind_some, ↓reduceIte, Nat.reduceAdd, Nat.reduceLT, Nat.reduceEqDiff, Nat.zero_add, Nat.add_one_ne_zero, Bool.not_false, decide_true, decide_false, true_and, and_self, forall_const, reduceCtorEq, Tryd.sz24, Tryd.ag24, h1, h2, h3, h4]
    refine hκ.ret _ _ _ _ _ _ trivial rfl ?_
    exact .ret (by simp [SV.bnd, SV.bndL])
  by_cases h5 : t < 1
  · rw [if_neg (fun h => by omega)] at hκ
    simp (disch := omega) only [exec_succ, runR_next, runR_need, runR_fork_true, runR_guard_ff, runR_guard_tf, runR_stop, stepS, runOp, guardS, condS, toSR, sop, rOf, sPick, sLoadIn, sLoad, sStoreIn, sStore, sInt, sBin, ev, Env.get, Heap.get, Heap.set, takeN, cut, over, paste, aggOf, cellsS, one, ones, Value.oneCell', OutOK_need, OutOK_stop, undefS, undef, List.size_toArray, List.length_cons, List.length_nil, List.range, List.range.loop, List.getElem?_toArray, List.getElem?_cons_succ, List.getElem?_cons_zero, Option.bind_some, ↓reduceIte, Nat.reduceAdd, Nat.reduceLT, Nat.reduceEqDiff, Nat.zero_add, Nat.add_one_ne_zero, Bool.not_false, decide_true, decide_false, true_and, and_self, forall_const, reduceCtorEq, Tryd.sz24, Tryd.ag24, h1, h2, h3, h4, h5]
    refine hκ.ret _ _ _ _ _ _ trivial rfl ?_
    exact .ret (by simp [SV.bnd, SV.bndL])
  obtain ⟨s, rfl⟩ : ∃ n : Nat, s = n := ⟨s.toNat, by omega⟩
  obtain ⟨c, rfl⟩ : ∃ n : Nat, c = n := ⟨c.toNat, by omega⟩
  obtain ⟨t, rfl⟩ : ∃ n : Nat, t = n := ⟨t.toNat, by omega⟩
  have hsc : 1 ≤ s * c ∧ s * c ≤ 32 := ⟨Nat.mul_pos (by omega) (by omega), Nat.mul_le_mul (show s ≤ 4 by omega) (show c ≤ 8 by omega)⟩
  have m1 : (s : Int) * (c : Int) = ((s * c : Nat) : Int) := (Int.natCast_mul _ _).symm
  have q1 : (8 : Int) / ((s * c : Nat) : Int) = ((8 / (s * c) : Nat) : Int) := (Int.natCast_ediv _ _).symm
  have hP : regP s c t ↔ t ≤ 8 / (s * c) := by
    rw [regP, Int.toNat_natCast, Int.toNat_natCast, Int.toNat_natCast]
    exact ⟨fun h => h.2.2.2, fun h => ⟨⟨by omega, by omega⟩, ⟨by omega, by omega⟩, by omega, h⟩⟩
  have hdm := (Nat.le_div_iff_mul_le (k := s * c) (x := t) (y := 8) (by omega)).1
  have hd8 : 8 / (s * c) ≤ 8 := Nat.div_le_self _ _
  generalize 8 / (s * c) = d at m1 q1 hP hdm hd8
  by_cases h6 : (d : Int) < t
  · rw [if_neg (fun h => by have := hP.1 h; omega)] at hκ
    simp (disch := omega) only [exec_succ, runR_next, runR_need, runR_guard_ff, stepS, runOp, guardS, condS, toSR, sop, rOf, sPick, sInt, sBin, ev, Env.get, OutOK_need, undefS, undef, List.getElem?_toArray, List.getElem?_cons_succ, List.getElem?_cons_zero, Option.bind_some, ↓reduceIte, Nat.reduceLT, Nat.reduceEqDiff, Nat.add_one_ne_zero, Bool.not_false, decide_false, ne_eq, and_self, reduceCtorEq, Int.tdiv_eq_ediv_of_nonneg, wrap_i64, h1, h2, h3, h4, h5, m1]
    (repeat (refine ⟨by first | omega | (refine ⟨?_, ?_⟩ <;> omega) | trivial | (simp; done) | decide +kernel, fun _ => ?_⟩))
    simp (disch := omega) only [exec_succ, runR_next, runR_need, runR_fork_true, runR_stop, stepS, runOp, toSR, sop, rOf, sLoadIn, sLoad, sStoreIn, sStore, ev, Env.get, Heap.get, Heap.set, takeN, cut, over, paste, aggOf, cellsS, one, ones, Value.oneCell', OutOK_need, OutOK_stop, undefS, undef, List.size_toArray, List.length_cons, List.length_nil, List.range, List.range.loop, List.getElem?_toArray, List.getElem?_cons_succ, List.getElem?_cons_zero, ↓reduceIte, Nat.reduceAdd, Nat.reduceLT, Nat.reduceEqDiff, Nat.zero_add, Nat.add_one_ne_zero, decide_true, true_and, and_self, forall_const, Tryd.sz24, Tryd.ag24, q1, h6]
    refine hκ.ret _ _ _ _ _ _ trivial rfl ?_
    exact .ret (by simp [SV.bnd, SV.bndL])
  rw [if_pos (hP.2 (by omega)), Int.toNat_natCast, Int.toNat_natCast, Int.toNat_natCast] at hκ
  have hdm := hdm (by omega)
  have m2 : ((s * c : Nat) : Int) * (t : Int) = ((s * c * t : Nat) : Int) := (Int.natCast_mul _ _).symm
  rw [Nat.mul_comm] at hdm
  generalize s * c = p at m1 hsc q1 hdm m2 hκ
  generalize p * t = n at hdm m2 hκ
  simp (disch := omega) only [exec_succ, runR_next, runR_need, runR_guard_ff, stepS, runOp, guardS, condS, toSR, sop, rOf, sPick, sInt, sBin, ev, Env.get, OutOK_need, undefS, undef, List.getElem?_toArray, List.getElem?_cons_succ, List.getElem?_cons_zero, Option.bind_some, ↓reduceIte, Nat.reduceLT, Nat.reduceEqDiff, Nat.add_one_ne_zero, Bool.not_false, decide_false, ne_eq, and_self, reduceCtorEq, Int.tdiv_eq_ediv_of_nonneg, wrap_i64, h1, h2, h3, h4, h5, m1]
  (repeat (refine ⟨by first | omega | (refine ⟨?_, ?_⟩ <;> omega) | trivial | (simp; done) | decide +kernel, fun _ => ?_⟩))
  simp (disch := omega) only [exec_succ, runR_next, runR_fork_false, runR_stop, stepS, runOp, toSR, sop, rOf, sInt, sBin, ev, Env.get, OutOK_stop, List.size_toArray, List.length_cons, List.length_nil, List.range, List.range.loop, List.getElem?_toArray, List.getElem?_cons_succ, List.getElem?_cons_zero, ↓reduceIte, Nat.reduceAdd, Nat.reduceLT, Nat.reduceEqDiff, Nat.zero_add, Nat.add_one_ne_zero, decide_false, reduceCtorEq, wrap_i64, q1, h6, m1, m2]
  refine Sat.nilCell 1 2 50 24 [] [] rfl ?_
  simp only [Heap.set, List.nil_append, Nat.reduceEqDiff, ↓reduceIte]
  refine Sat.less (Sat.loop (γ := Nat × Nat) (fun g => ([(42, I g.1), (41, I n), (8, .ptr 1 0 0 0), (7, I 0), (6, .ptr 0 0 0 0), (1, I c), (2, I t)], [(2, .row 2 g.2 50 ((regK c t g.1).map eT)), (1, .own [.sl 2 2 0 g.1 g.2] 24), (0, .own [.v (.slice none 0 0)] 24)], 3)) (fun g => n - g.1) (fun g => g.1 ≤ n ∧ g.1 ≤ g.2) ?round (0, 0) ⟨Nat.zero_le _, Nat.le_refl _⟩) (by repeat' (first | exact EnvSub.nil _ | exact HeapSub.nil _ | refine EnvSub.cons rfl ?_ | refine HeapSub.cons rfl ?_ | (refine EnvSub.cons (by simp [Env.get]; done) ?_) | (refine HeapSub.cons (by simp [Heap.get]; done) ?_))) (by repeat' (first | exact EnvSub.nil _ | exact HeapSub.nil _ | refine EnvSub.cons rfl ?_ | refine HeapSub.cons rfl ?_ | (refine EnvSub.cons (by simp [Env.get]; done) ?_) | (refine HeapSub.cons (by simp [Heap.get]; done) ?_)))
  case round =>
    rintro ⟨k, cap⟩ ⟨hk, hcap⟩ ih
    dsimp only at hk hcap ih ⊢
    refine hκ.runA 9 300 ?_
    simp (disch := omega) only [runR_next, stepS, runOp, condS, toSR, sop, sInt, sBin, ev, Env.get, halt, isAt, atC, execA_succ, List.size_toArray, List.length_cons, List.length_nil, List.range, List.range.loop, List.getElem?_toArray, List.getElem?_cons_zero, ↓reduceIte, Nat.reduceLT, Nat.reduceEqDiff, Nat.zero_add, Nat.reduceBEq, gl0]
    refine OutOK_fork (fun h => ?_) (fun h => ?_) <;> try simp only [Bool.not_true, Bool.not_false, decide_eq_true_eq, decide_eq_false_iff_not, Bool.not_eq_true', Bool.not_eq_false', Bool.and_eq_true, Bool.or_eq_false_iff, Bool.or_eq_true, Bool.and_eq_false_iff] at h
    · have hz := fun cap h => ih (k + 1, cap) ⟨by dsimp only; omega, h⟩ (by dsimp only; omega)
      dsimp only at hz
      rw [regK_succ] at hz
      have hsl := regK_len c t k
      generalize regK c t k = pre at hz hsl ⊢
      have et : List.take k (List.map eT pre) = List.map eT pre := List.take_of_length_le (by simp; omega)
      have b1 : k / t ≤ k := Nat.div_le_self _ _
      have b2 : k / t / c ≤ k / t := Nat.div_le_self _ _
      have b3 : k / t % c ≤ k / t := Nat.mod_le _ _
      have q2 : (k : Int) / (t : Int) = ((k / t : Nat) : Int) := (Int.natCast_ediv _ _).symm
      have q3 : ((k / t : Nat) : Int) / (c : Int) = ((k / t / c : Nat) : Int) := (Int.natCast_ediv _ _).symm
      have q4 : ((k / t : Nat) : Int) % (c : Int) = ((k / t % c : Nat) : Int) := (Int.natCast_emod _ _).symm
      generalize k / t / c = x1 at *
      generalize k / t % c = x2 at *
      generalize k / t = x0 at *
      simp (disch := omega) only [allQuiet, quietOp, drawS, runR_next, runR_stop, stepS, runOp, toSR, sop, rOf, ev, Env.get, OutOK_stop, Option.isNone_none, halt, isAt, atC, execA_succ, Bool.and_true, Bool.and_false, List.size_toArray, List.length_cons, List.length_nil, List.range, List.range.loop, List.getElem?_toArray, List.getElem?_cons_succ, List.getElem?_cons_zero, ↓reduceIte, Nat.reduceAdd, Nat.reduceLT, Nat.reduceEqDiff, Nat.zero_add, Nat.reduceBEq]
      refine hκ.runD 300 ?_
      simp (disch := omega) only [OutOK_stop, halt, isDraw, drawC, execD_succ, gl0]
      refine hκ.draw (.q 0 (.q 1 (.q 2 (.q 3 (.q 4 (.q 5 (.q 6 (.q 7 (.q 8 (.q 9 (.q 10 (.q 11 (.q 12 (.l 13 [1] (.l 14 [] (.q 15 (.l 16 [] (.fin)))))))))))))))))) [0, 1, 2, 3, 4, 5, 6, 7, 8, 9, 10, 11, 12, 15] (by kernel_rfl) (by kernel_rfl) rfl ?_
      simp (disch := omega) only [sBuild0, sBuiltin, srcS, appArgS, sAppendTo, sAppend, sop, rOf, rNew, isArr, sLoadIn, sLoad, sStoreIn, sStore, sInt, sBin, sFieldAddr, sliceT, obind, fillS, evps, sBuild, repeatL, sBuildSlice, chunk, ev, svs, Env.get, Heap.get, Heap.set, Heap.drop, takeN, cut, over, paste, aggOf, cellsS, one, ones, idFree, idFrees, setO, Value.cells, Value.oneCell', drawP_fin, drawP_q, drawP_l, dnext, dq, dqn, dl, slotR, ag, guardP, R1Q, dstOK, loudP, again, again1, slotIs, R1OK, undefS, undef, Bool.and_true, List.drop_zero, List.take_succ_cons, List.take_nil, List.length_cons, List.length_nil, List.length_map, List.range, List.range.loop, List.getElem?_toArray, List.getElem?_cons_succ, List.getElem?_cons_zero, List.map_cons, List.map_nil, List.append_nil, List.toList_toArray, ↓reduceIte, Nat.reduceAdd, Nat.reduceLT, Nat.reduceLeDiff, Nat.reduceEqDiff, Nat.zero_add, Nat.add_zero, Nat.zero_mul, Nat.one_mul, Nat.add_one_ne_zero, ne_eq, not_false_eq_true, true_and, and_self, forall_const, reduceCtorEq, Int.tdiv_eq_ediv_of_nonneg, Int.tmod_eq_emod_of_nonneg, wrap_i64, gl0, Tryd.underlying22, Tryd.sz22, Tryd.ag22, Tryd.fd24f0, Tryd.sz50, Tryd.ze50, Tryd.pl50, Tryd.by50, Tryd.ar50, q2, q3, q4]
      (repeat (refine ⟨by first | omega | (refine ⟨?_, ?_⟩ <;> omega) | trivial | (simp; done) | decide +kernel, fun _ => ?_⟩))
      intro c1
      have hy := hz (k + 1 + c1) (by first | (simp; done) | (simp; omega))
      simp only [List.length_append, List.length_cons, List.length_nil, List.length_singleton, List.length_map, List.length_set, List.length_replicate, Nat.zero_add, Nat.add_zero, Int.natCast_add, Int.natCast_one, Int.ofNat_eq_natCast, List.map_append, List.map_cons, List.map_nil, List.take_length, eI, eB] at hy ⊢
      rw [et]
      refine hκ.run 300 ?_
      simp (disch := omega) only [exec_succ, runR_next, runR_stop, stepS, runOp, toSR, sop, rOf, sInt, sBin, ev, Env.get, OutOK_stop, List.size_toArray, List.length_cons, List.length_nil, List.range, List.range.loop, List.getElem?_toArray, List.getElem?_cons_succ, List.getElem?_cons_zero, ↓reduceIte, Nat.reduceAdd, Nat.reduceLT, Nat.reduceEqDiff, Nat.zero_add, wrap_i64, gl0]
      refine Sat.via (fun i => if i = 2 then 4 else i) (hy) (by intro i j; (repeat (first | omega | split))) (by repeat' (first | exact EnvVia.nil | refine EnvVia.cons (by first | trivial | decide | (simp [SV.bnd, SV.bndL]; done)) rfl ?_)) (by repeat' (first | exact HeapVia.nil | refine HeapVia.cons (by decide) (by first | trivial | (simp [Blk.bnd, SV.bnd, SV.bndL]; done) | exact bndL_mapV _ _ _ | exact LR.bnd (by rw [l2]; simp [bndE, SV.bnd, SV.bndL]) (by rw [l6]; decide)) (by first | rfl | (simp only [Blk.ren, renL_mapV]; rfl) | (rw [LR.ren (by rw [l2] <;> rfl) (by rw [l6] <;> rfl)]; rfl)) ?_)) ⟨by have := hκ.hm; (try dsimp only at this); (first | done | omega), fun i hi => by have := hκ.hm; (try dsimp only at this); (first | omega | (dsimp only; omega) | (rw [if_neg (by omega)]))⟩ ⟨by simp, rfl⟩
    · simp (disch := omega) only [runR_next, stepS, goS, exitTo, OutOK_stop, halt, isAt, atC, execA_succ, ↓reduceIte, beq_self_eq_true]
      obtain rfl : k = n := by omega
      have hsl := regK_len c t k
      generalize regK c t k = l at *
      have et : List.take k (List.map eT l) = List.map eT l := List.take_of_length_le (by simp; omega)
      refine Sat.frzOwn [2] 1 _ _ rfl (by decide) (by first | (simp [lendPL, lendP, lendSlP, Heap.get]; done) | (simp only [lendPL, lendP, lendSlP, Heap.get, List.mem_singleton, List.mem_cons, List.not_mem_nil, or_false, or_true, true_or, Nat.reduceEqDiff, Nat.one_ne_zero, Nat.zero_ne_one, ↓reduceIte, and_true, true_and, List.length_map, List.length_append, List.length_cons, List.length_nil, List.length_replicate]; omega)) ?_
      simp only [lendL, lendS, lendSl, Heap.get, without, List.mem_singleton, List.mem_cons, List.not_mem_nil, or_false, or_true, true_or, List.drop_zero, List.take_length, List.take_succ_cons, List.take_zero, Nat.reduceAdd, Nat.reduceEqDiff, Nat.one_ne_zero, Nat.zero_ne_one, ↓reduceIte]
      simp only [Heap.set, Nat.reduceEqDiff, ↓reduceIte, et]
      refine hκ.run 300 ?_
      simp (disch := omega) only [exec_succ, runR_next, runR_need, runR_stop, stepS, runOp, toSR, sop, rOf, sLoadIn, sLoad, sStoreIn, sStore, ev, Env.get, Heap.get, Heap.set, takeN, cut, over, paste, aggOf, cellsS, one, ones, OutOK_need, OutOK_stop, undefS, undef, List.size_toArray, List.length_cons, List.length_nil, List.range, List.range.loop, List.getElem?_toArray, List.getElem?_cons_succ, List.getElem?_cons_zero, ↓reduceIte, Nat.reduceAdd, Nat.reduceLT, Nat.reduceEqDiff, Nat.zero_add, Nat.add_one_ne_zero, true_and, and_self, forall_const, gl0, Tryd.sz24, Tryd.ag24]
      refine hκ.ret _ _ _ _ _ _ trivial rfl ?_
      exact .ret (by simp [SV.bnd, SV.bndL])
end Go.Proofs.YtbgnnmlhpaaebaaDoor

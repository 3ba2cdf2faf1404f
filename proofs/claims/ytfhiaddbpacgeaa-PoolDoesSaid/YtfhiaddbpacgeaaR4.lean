/- Walks of the reference's words on sets. No condition. -/
import Derived.Test.YtfhiaddbpacgeaaCl
namespace Go.Proofs.Ytfhiaddbpacgeaa
open Go Go.Sy
set_option maxRecDepth 100000
set_option linter.unusedSimpArgs false
set_option linter.unusedVariables false

abbrev Is (l : List Int) : SV := .rd 1 (l.map (eI .i64))
theorem take_eq_succ' {α : Type} [Inhabited α] {us bs : List α} {k : Nat} (ha : k < us.length) (hb : k < bs.length) (h : us.take k = bs.take k) (e : us.getD k default = bs.getD k default) : us.take (k + 1) = bs.take (k + 1) := by
  rw [List.take_succ_eq_append_getElem ha, List.take_succ_eq_append_getElem hb, h]
  simp only [List.getD, List.getElem?_eq_getElem ha, List.getElem?_eq_getElem hb, Option.getD_some] at e
  rw [e]
theorem drop_find {p : Int → Bool} {l : List Int} {k : Nat} (h : k < l.length) : (l.drop k).find? p = if p (l.getD k default) = true then some (l.getD k default) else (l.drop (k + 1)).find? p := by
  rw [List.drop_eq_getElem_cons h, List.find?_cons]
  simp only [List.getD, List.getElem?_eq_getElem h, Option.getD_some]
  cases p l[k] <;> rfl
theorem bit_div (s c : Nat) : decide ((s : Int) / 2 ^ c % 2 = 1) = s.testBit c := by
  rw [Nat.testBit_eq_decide_div_mod_eq]
  apply decide_eq_decide.2
  have : (s : Int) / 2 ^ c % 2 = ((s / 2 ^ c % 2 : Nat) : Int) := by simp
  rw [this]; omega

theorem rcpu_ok (c : Int) : Con Try.prog gl0 (fnv 54) [I c] 0 [] (Ret (Bo (decide (0 ≤ c ∧ c < 8)))) := by
  refine Con.of Try.ok54 (nt := 9) (res := [.tmp 2]) Try.mixed Try.func54 rfl rfl rfl rfl fun κ xc hκ => hκ.run 300 ?_
  simp (disch := omega) only [exec_succ, runR_next, stepS, runOp, guardS, toSR, sop, rOf, sInt, sBin, ev, Env.get, envOf, undefS, undef, List.size_toArray, List.length_cons, List.length_nil, List.range, List.range.loop, List.getElem?_toArray, List.getElem?_cons_succ, List.getElem?_cons_zero, Option.bind_some, ↓reduceIte, Nat.reduceAdd, Nat.reduceLT, Nat.zero_add, Nat.add_one_ne_zero, Bool.not_true, and_self, gl0]
  (first | refine OutOK_guard (fun h => ?_) (fun h => ?_) | refine GF.of (fun h => ?_) (fun h => ?_)) <;> try simp only [Bool.not_true, Bool.not_false, decide_eq_true_eq, decide_eq_false_iff_not, Bool.not_eq_true', Bool.not_eq_false', Bool.and_eq_true, Bool.or_eq_false_iff, Bool.or_eq_true, Bool.and_eq_false_iff] at h
  · simp (disch := omega) only [exec_succ, runR_next, runR_guard_tt, runR_stop, stepS, runOp, guardS, toSR, sop, rOf, sPick, sInt, sBin, ev, Env.get, OutOK_stop, undefS, undef, List.getElem?_toArray, List.getElem?_cons_succ, List.getElem?_cons_zero, Option.bind_some, ↓reduceIte, Nat.reduceLT, Nat.reduceEqDiff, Bool.not_true, and_self]
    refine hκ.ret _ _ _ _ _ _ trivial rfl ?_
    rw [show decide (0 ≤ c ∧ c < 8) = decide (c < 8) from decide_eq_decide.2 (by omega)]
    exact .ret trivial
  · simp (disch := omega) only [exec_succ, runR_next, runR_guard_ft, runR_stop, stepS, runOp, guardS, toSR, sop, rOf, sPick, sBin, ev, Env.get, OutOK_stop, undefS, undef, List.getElem?_toArray, List.getElem?_cons_succ, List.getElem?_cons_zero, Option.bind_some, ↓reduceIte, Nat.reduceLT, Nat.reduceEqDiff, Bool.not_true, and_self]
    refine hκ.ret _ _ _ _ _ _ trivial rfl ?_
    rw [show decide (0 ≤ c ∧ c < 8) = false from decide_eq_false (by omega)]
    exact .ret trivial
theorem rright_ok (s : Nat) : Con Try.prog gl0 (fnv 36) [S s] 0 [] (Ret (Bo (decide (s < 256)))) := by
  refine Con.of Try.ok36 (nt := 5) (res := [.tmp 2]) Try.mixed Try.func36 rfl rfl rfl rfl fun κ xc hκ => hκ.run 300 ?_
  simp (disch := omega) only [exec_succ, runR_next, runR_stop, stepS, runOp, toSR, sop, rOf, sInt, sBin, ev, Env.get, envOf, OutOK_stop, List.size_toArray, List.length_cons, List.length_nil, List.range, List.range.loop, List.getElem?_toArray, List.getElem?_cons_succ, List.getElem?_cons_zero, ↓reduceIte, Nat.reduceAdd, Nat.reduceLT, Nat.zero_add, Nat.add_one_ne_zero, gl0]
  refine hκ.ret _ _ _ _ _ _ trivial rfl ?_
  rw [show decide (s < 256) = decide ((s : Int) < 256) from decide_eq_decide.2 (by omega)]
  exact .ret trivial
theorem rhas_ok (s : Nat) (c : Int) : Con Try.prog gl0 (fnv 43) [S s, I c] 0 [] (Ret (Bo (hasB s c))) := by
  refine Con.of Try.ok43 (nt := 14) (res := [.tmp 4]) Try.mixed Try.func43 rfl rfl rfl rfl fun κ xc hκ => hκ.run 300 ?_
  simp (disch := omega) only [exec_succ, runR_next, runR_call, stepS, runOp, toSR, sop, rOf, ev, evs, Env.get, envOf, OutOK_call, List.size_toArray, List.length_cons, List.length_nil, List.range, List.range.loop, List.getElem?_toArray, List.getElem?_cons_succ, List.getElem?_cons_zero, ↓reduceIte, Nat.reduceAdd, Nat.reduceLT, Nat.reduceEqDiff, Nat.zero_add, reduceCtorEq, gl0]
  refine Does.ret hκ.hP hκ.hgl (rcpu_ok c) ⟨trivial, by simp [SV.bnd, SV.bndL], by first | (simp [SV.bnd, SV.bndL]; done) | assumption⟩ ?_
  by_cases h : 0 ≤ c ∧ c < 8
  · have hp : (0 : Int) < 2 ^ c.toNat := Int.pow_pos (by decide)
    have hq := Int.ediv_nonneg (show (0 : Int) ≤ s by omega) (show (0 : Int) ≤ 2 ^ c.toNat by omega)
    simp only [h, and_self, decide_true]
    refine hκ.run 300 ?_
    simp (disch := omega) only [exec_succ, runR_next, runR_need, runR_guard_tt, runR_stop, stepS, runOp, guardS, toSR, sop, rOf, sPick, sInt, sBin, ev, Env.get, setO, OutOK_need, OutOK_stop, undefS, undef, List.getElem?_toArray, List.getElem?_cons_succ, List.getElem?_cons_zero, Option.bind_some, ↓reduceIte, Nat.reduceLT, Nat.reduceEqDiff, Nat.add_one_ne_zero, Int.reduceEq, Bool.not_true, ne_eq, not_false_eq_true, true_and, and_self, forall_const, reduceCtorEq, shAmt_of, IntKind.bits, Int.tmod_eq_emod_of_nonneg, Int.fdiv_eq_ediv_of_nonneg, gl0]
    (repeat (refine ⟨by first | omega | (refine ⟨?_, ?_⟩ <;> omega) | trivial | (simp; done) | decide +kernel, fun _ => ?_⟩))
    rw [bit_div]
    refine hκ.ret _ _ _ _ _ _ trivial rfl ?_
    rw [hasB, decide_eq_true h, Bool.true_and]
    exact .ret trivial
  · rw [decide_eq_false h]
    refine hκ.run 300 ?_
    simp (disch := omega) only [exec_succ, runR_next, runR_guard_ft, runR_stop, stepS, runOp, guardS, toSR, sop, rOf, sPick, sEq, sEqR, sBin, ev, Env.get, setO, OutOK_stop, undefS, undef, List.getElem?_toArray, List.getElem?_cons_succ, List.getElem?_cons_zero, Option.bind_some, ↓reduceIte, Nat.reduceLT, Nat.reduceEqDiff, Nat.add_one_ne_zero, Bool.not_true, and_self, reduceCtorEq, gl0]
    refine hκ.ret _ _ _ _ _ _ trivial rfl ?_
    rw [hasB, decide_eq_false h, Bool.false_and]
    exact .ret trivial
def bitsTo (s k : Nat) : List Int := List.map (fun c : Nat => (c : Int)) (List.filter (fun c => s.testBit c) (List.range k))
theorem bitsTo_succ (s k : Nat) : bitsTo s (k + 1) = bitsTo s k ++ if s.testBit k = true then [(k : Int)] else [] := by
  simp only [bitsTo, List.range_succ, List.filter_append, List.map_append]
  congr 1
  simp only [List.filter_cons, List.filter_nil]
  split <;> rfl
theorem bitsTo_len (s k : Nat) : (bitsTo s k).length ≤ k := by
  have h := List.length_filter_le (fun c => s.testBit c) (List.range k)
  simpa [bitsTo] using h
theorem rlist_ok (s : Nat) : Con Try.prog gl0 (fnv 37) [S s] 0 [] (RetRow 3 1 ((bits s).map (eI .i64))) := by
  refine Con.of Try.ok37 (nt := 17) (res := [.tmp 2]) Try.mixed Try.func37 rfl rfl rfl rfl fun κ xc hκ => hκ.run 300 ?_
  simp (disch := omega) only [exec_succ, runR_next, runR_stop, stepS, runOp, toSR, sop, rOf, ev, envOf, OutOK_stop, List.size_toArray, List.length_cons, List.length_nil, List.range, List.range.loop, List.getElem?_toArray, List.getElem?_cons_zero, ↓reduceIte, Nat.reduceLT, Nat.zero_add, gl0]
  refine Sat.nilRow 3 1 3 rfl ?_
  refine Sat.less (Sat.loop (γ := Nat × Nat) (fun g => ([(5, I g.1), (3, .sl 0 1 0 (bitsTo s g.1).length g.2), (0, S s)], [(0, .row 1 g.2 3 ((bitsTo s g.1).map (eI .i64)))], 1)) (fun g => 8 - g.1) (fun g => g.1 ≤ 8) ?round (0, 0) (by decide)) (by repeat' (first | exact EnvSub.nil _ | exact HeapSub.nil _ | refine EnvSub.cons rfl ?_ | refine HeapSub.cons rfl ?_ | (refine EnvSub.cons (by simp [Env.get]; done) ?_) | (refine HeapSub.cons (by simp [Heap.get]; done) ?_))) (by repeat' (first | exact EnvSub.nil _ | exact HeapSub.nil _ | refine EnvSub.cons rfl ?_ | refine HeapSub.cons rfl ?_ | (refine EnvSub.cons (by simp [Env.get]; done) ?_) | (refine HeapSub.cons (by simp [Heap.get]; done) ?_)))
  case round =>
    rintro ⟨k, cap⟩ hk ih
    dsimp only at hk ih ⊢
    have hb := bitsTo_succ s k
    have hl := bitsTo_len s k
    refine hκ.run 300 ?_
    simp (disch := omega) only [exec_succ, runR_next, stepS, runOp, condS, toSR, sop, sInt, sBin, ev, Env.get, List.size_toArray, List.length_cons, List.length_nil, List.range, List.range.loop, List.getElem?_toArray, List.getElem?_cons_zero, ↓reduceIte, Nat.reduceLT, Nat.zero_add, gl0]
    refine OutOK_fork (fun h => ?_) (fun h => ?_) <;> try simp only [Bool.not_true, Bool.not_false, decide_eq_true_eq, decide_eq_false_iff_not, Bool.not_eq_true', Bool.not_eq_false', Bool.and_eq_true, Bool.or_eq_false_iff, Bool.or_eq_true, Bool.and_eq_false_iff] at h
    · simp (disch := omega) only [exec_succ, runR_next, runR_call, stepS, runOp, toSR, sop, rOf, ev, evs, Env.get, OutOK_call, List.size_toArray, List.length_cons, List.length_nil, List.range, List.range.loop, List.getElem?_toArray, List.getElem?_cons_succ, List.getElem?_cons_zero, ↓reduceIte, Nat.reduceAdd, Nat.reduceLT, Nat.reduceEqDiff, Nat.zero_add, Nat.add_one_ne_zero]
      refine Does.ret hκ.hP hκ.hgl (rhas_ok s k) ⟨trivial, by simp [SV.bnd, SV.bndL], by first | (simp [SV.bnd, SV.bndL]; done) | assumption⟩ ?_
      rw [hasB_nat (by omega)]
      have hz := fun cap => ih (k + 1, cap) (by dsimp only; omega) (by dsimp only; omega)
      dsimp only at hz
      rw [hb] at hz
      cases ht : s.testBit k
      · simp only [ht, Bool.false_eq_true, if_false, List.append_nil] at hz
        refine hκ.run 300 ?_
        simp (disch := omega) only [exec_succ, runR_next, runR_fork_false, runR_stop, stepS, runOp, condS, toSR, sop, rOf, sInt, sBin, ev, Env.get, setO, OutOK_stop, List.size_toArray, List.length_cons, List.length_nil, List.range, List.range.loop, List.getElem?_toArray, List.getElem?_cons_succ, List.getElem?_cons_zero, ↓reduceIte, Nat.reduceAdd, Nat.reduceLT, Nat.reduceEqDiff, Nat.zero_add, wrap_i64, gl0]
        exact (hz cap).less (by repeat' (first | exact EnvSub.nil _ | exact HeapSub.nil _ | refine EnvSub.cons rfl ?_ | refine HeapSub.cons rfl ?_ | (refine EnvSub.cons (by simp [Env.get]; done) ?_) | (refine HeapSub.cons (by simp [Heap.get]; done) ?_))) (by repeat' (first | exact EnvSub.nil _ | exact HeapSub.nil _ | refine EnvSub.cons rfl ?_ | refine HeapSub.cons rfl ?_ | (refine EnvSub.cons (by simp [Env.get]; done) ?_) | (refine HeapSub.cons (by simp [Heap.get]; done) ?_)))
      · simp only [ht, if_true] at hz
        refine hκ.run 300 ?_
        simp (disch := omega) only [sBuiltin, srcS, appArgS, sAppendTo, sAppend, exec_succ, runR_next, runR_need, runR_all, runR_fork_true, runR_stop, stepS, runOp, condS, toSR, sop, rOf, rNew, isArr, sInt, sBin, sliceT, obind, fillS, evps, repeatL, sBuildSlice, chunk, ev, svs, Env.get, Heap.get, Heap.drop, over, paste, cellsS, one, ones, idFree, idFrees, setO, Value.cells, Value.oneCell', OutOK_need, OutOK_all, OutOK_stop, Bool.and_true, List.drop_zero, List.take_succ_cons, List.take_nil, List.size_toArray, List.length_cons, List.length_nil, List.length_map, List.range, List.range.loop, List.getElem?_toArray, List.getElem?_cons_succ, List.getElem?_cons_zero, List.map_cons, List.map_nil, List.append_nil, List.toList_toArray, ↓reduceIte, Nat.reduceAdd, Nat.reduceLT, Nat.reduceLeDiff, Nat.reduceEqDiff, Nat.zero_add, Nat.mul_one, Nat.add_one_ne_zero, ne_eq, not_false_eq_true, true_and, and_self, forall_const, wrap_i64, gl0, Try.sz3, Try.ze3, Try.by3, Try.underlying22]
        (repeat (refine ⟨by first | omega | (refine ⟨?_, ?_⟩ <;> omega) | trivial | (simp; done) | decide +kernel, fun _ => ?_⟩))
        intro c
        have et : List.take (bitsTo s k).length (List.map (eI .i64) (bitsTo s k)) = List.map (eI .i64) (bitsTo s k) := List.take_of_length_le (by simp)
        have hy := hz ((bitsTo s k).length + 1 + c)
        simp only [List.length_append, List.length_cons, List.length_nil, List.length_singleton, List.length_map, List.length_set, List.length_replicate, Nat.zero_add, Nat.add_zero, Int.natCast_add, Int.natCast_one, Int.ofNat_eq_natCast, List.map_append, List.map_cons, List.map_nil, List.take_length, eI, eB] at hy ⊢
        rw [et]
        refine Sat.via (fun _ => 2) (hy) (by intro i j; (repeat (first | omega | split))) (by repeat' (first | exact EnvVia.nil | refine EnvVia.cons (by first | trivial | decide | (simp [SV.bnd, SV.bndL]; done)) rfl ?_)) (by repeat' (first | exact HeapVia.nil | refine HeapVia.cons (by decide) (by first | trivial | (simp [Blk.bnd, SV.bnd, SV.bndL]; done) | exact bndL_mapV _ _ _ | exact LR.bnd (by rw [l2]; simp [bndE, SV.bnd, SV.bndL]) (by rw [l6]; decide)) (by first | rfl | (simp only [Blk.ren, renL_mapV]; rfl) | (rw [LR.ren (by rw [l2] <;> rfl) (by rw [l6] <;> rfl)]; rfl)) ?_)) ⟨by have := hκ.hm; (try dsimp only at this); (first | done | omega), fun i hi => by have := hκ.hm; (try dsimp only at this); (first | omega | (dsimp only; omega) | (rw [if_neg (by omega)]))⟩ ⟨by simp, rfl⟩
    · simp (disch := omega) only [exec_succ, runR_next, runR_stop, stepS, runOp, goS, toSR, sop, rOf, ev, Env.get, exitTo, OutOK_stop, List.size_toArray, List.length_cons, List.length_nil, List.range, List.range.loop, List.getElem?_toArray, List.getElem?_cons_succ, List.getElem?_cons_zero, ↓reduceIte, Nat.reduceAdd, Nat.reduceLT, Nat.reduceEqDiff, Nat.zero_add, beq_self_eq_true]
      obtain rfl : k = 8 := by omega
      refine hκ.ret _ _ _ _ _ _ trivial rfl ?_
      exact Post.row rfl (by simp [bits, bitsTo])
end Go.Proofs.Ytfhiaddbpacgeaa

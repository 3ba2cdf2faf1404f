/- Who is full: the walks. No condition. -/
import Derived.Test.YtomfpciigaopiaaAk
namespace Go.Proofs.Ytomfpciigaopiaa
open Go Go.Sy
set_option maxRecDepth 100000
set_option linter.unusedSimpArgs false
set_option linter.unusedVariables false

theorem eqIff {a b : List Bool} {n k : Nat} {x : Bool} (ha : a.length = n) (hk : k < n) (hx : b.getD k default ≠ x) (h : a = b.set k x) (hb : b.length = n) : a ≠ b := fun e => by
  have : (b.set k x).getD k default = x := by rw [getD_set (by omega), if_pos rfl]
  rw [← h, e] at this
  exact hx this
/-- Are the first ones the same? -/
def eqB (a b : List Bool) (k : Nat) : Bool := decide (a.take k = b.take k)
theorem eqB_zero (a b : List Bool) : eqB a b 0 = true := rfl
theorem eqB_succ {a b : List Bool} {k : Nat} (ha : k < a.length) (hb : k < b.length) : eqB a b (k + 1) = (eqB a b k && decide (a.getD k default = b.getD k default)) := by
  rw [eqB, eqB, ← Bool.decide_and, decide_eq_decide, take_getD ha, take_getD hb]
  constructor
  · intro h; have := List.append_inj h (by rw [List.length_take, List.length_take]; omega); exact ⟨this.1, by simpa using this.2⟩
  · rintro ⟨h1, h2⟩; rw [h1, h2]
theorem eqB_full {a b : List Bool} {n : Nat} (ha : a.length = n) (hb : b.length = n) : eqB a b n = decide (a = b) := by
  rw [eqB, decide_eq_decide, List.take_of_length_le (by omega), List.take_of_length_le (by omega)]
theorem Bs_take {a : List Bool} {k : Nat} (h : k < a.length) : Bs (a.take (k + 1)) = Bs (a.take k) ++ [[Bo (a.getD k default)]] := by
  rw [take_getD h, Bs, List.map_append]; rfl
set_option maxHeartbeats 2000000 in
theorem rfull_ok (l : List Pt) (m : Int) (hr : rightP l = true) (hm : 1 ≤ m ∧ m ≤ 8) : Con Try.prog gl0 (fnv 16) [Ps l, I m] 0 [] (Ret (.rd 1 (Bs (fullV l m)))) := by
  obtain ⟨hn, hall, -⟩ := (rightP_iff l).1 hr
  have hV := ref_fullV (l := l) (m := m) (by omega)
  generalize fullV l m = V at *
  refine Con.of Try.ok16 (nt := 72) (res := [.tmp 4]) Try.mixed Try.func16 rfl rfl rfl rfl fun κ xc hκ => hκ.run 300 ?_
  simp (disch := omega) only [exec_succ, runR_next, runR_call, stepS, runOp, toSR, sop, rOf, ev, evs, Env.get, envOf, OutOK_call, List.size_toArray, List.length_cons, List.length_nil, List.range, List.range.loop, List.getElem?_toArray, List.getElem?_cons_succ, List.getElem?_cons_zero, ↓reduceIte, Nat.reduceAdd, Nat.reduceLT, Nat.zero_add, Nat.add_one_ne_zero, gl0]
  refine Does.ret hκ.hP hκ.hgl (Con.toRd (none_ok l (by omega))) ⟨trivial, by simp [SV.bnd, SV.bndL], by first | (simp [SV.bnd, SV.bndL]; done) | assumption⟩ ?_
  refine hκ.run 300 ?_
  simp (disch := omega) only [exec_succ, runR_next, runR_stop, stepS, runOp, toSR, sop, rOf, ev, Env.get, setO, OutOK_stop, List.size_toArray, List.length_cons, List.length_nil, List.range, List.range.loop, List.getElem?_toArray, List.getElem?_cons_succ, List.getElem?_cons_zero, ↓reduceIte, Nat.reduceLT, Nat.zero_add, gl0]
  refine Sat.less (Sat.loop (γ := Nat × List Bool) (fun k => ([(6, I k.1), (5, .rd 1 (Bs k.2)), (1, I m), (0, Ps l)], [], 0)) (fun k => l.length + 1 - k.1) (fun k => k.1 ≤ l.length + 1 ∧ k.2.length = l.length ∧ refN l m (l.length + 1 - k.1) k.2 = V) ?round (0, no0 l) ⟨Nat.zero_le _, no0_len l, hV⟩) (by repeat' (first | exact EnvSub.nil _ | exact HeapSub.nil _ | refine EnvSub.cons rfl ?_ | refine HeapSub.cons rfl ?_ | (refine EnvSub.cons (by simp [Env.get]; done) ?_) | (refine HeapSub.cons (by simp [Heap.get]; done) ?_))) (by repeat' (first | exact EnvSub.nil _ | exact HeapSub.nil _ | refine EnvSub.cons rfl ?_ | refine HeapSub.cons rfl ?_ | (refine EnvSub.cons (by simp [Env.get]; done) ?_) | (refine HeapSub.cons (by simp [Heap.get]; done) ?_)))
  case round =>
    rintro ⟨n, b⟩ ⟨hk, hb, hrn⟩ ih
    dsimp only at hk hb hrn ih ⊢
    refine hκ.run 300 ?_
    simp (disch := omega) only [sBuiltin, exec_succ, runR_next, stepS, runOp, condS, toSR, sop, rOf, sInt, sBin, sLen, ev, Env.get, List.size_toArray, List.length_cons, List.length_nil, List.length_map, List.range, List.range.loop, List.getElem?_toArray, List.getElem?_cons_succ, List.getElem?_cons_zero, ↓reduceIte, Nat.reduceAdd, Nat.reduceLT, Nat.reduceEqDiff, Nat.zero_add, Nat.add_one_ne_zero, gl0, Try.underlying22]
    refine OutOK_fork (fun h => ?_) (fun h => ?_) <;> try simp only [Bool.not_true, Bool.not_false, decide_eq_true_eq, decide_eq_false_iff_not, Bool.not_eq_true', Bool.not_eq_false', Bool.and_eq_true, Bool.or_eq_false_iff, Bool.or_eq_true, Bool.and_eq_false_iff] at h
    · rw [show l.length + 1 - n = (l.length - n) + 1 by omega, refN] at hrn
      have hz := fun b h1 h2 => ih (n + 1, b) ⟨by dsimp only; omega, h1, h2⟩ (by dsimp only; omega)
      dsimp only at hz
      rw [show l.length + 1 - (n + 1) = l.length - n by omega] at hz
      have hL := leftF_bd (b := b) (m := m) hr
      have hW := wtF_bd (b := b) hr
      have c1 := left_ok l b m hr hb (by omega)
      have c2 := weights_ok l b hr hb
      have ha : (stepF l m b).length = l.length := stepF_len hb
      have hget := fun k hk => stepF_get (l := l) (m := m) (b := b) (k := k) hk hb
      generalize stepF l m b = a at *
      generalize leftF l b m = left at *
      generalize wtF l b = w at *
      simp (disch := omega) only [exec_succ, runR_next, runR_call, stepS, runOp, toSR, sop, rOf, ev, evs, Env.get, OutOK_call, List.size_toArray, List.length_cons, List.length_nil, List.range, List.range.loop, List.getElem?_toArray, List.getElem?_cons_succ, List.getElem?_cons_zero, ↓reduceIte, Nat.reduceAdd, Nat.reduceLT, Nat.reduceEqDiff, Nat.zero_add, Nat.add_one_ne_zero]
      refine Does.ret hκ.hP hκ.hgl (c1) ⟨trivial, by simp [SV.bnd, SV.bndL], by first | (simp [SV.bnd, SV.bndL]; done) | assumption⟩ ?_
      refine hκ.run 300 ?_
      simp (disch := omega) only [exec_succ, runR_next, runR_call, stepS, runOp, toSR, sop, rOf, ev, evs, Env.get, setO, OutOK_call, List.getElem?_toArray, List.getElem?_cons_succ, List.getElem?_cons_zero, ↓reduceIte, Nat.reduceLT, Nat.reduceEqDiff, Nat.add_one_ne_zero, gl0]
      refine Does.ret hκ.hP hκ.hgl (c2) ⟨trivial, by simp [SV.bnd, SV.bndL], by first | (simp [SV.bnd, SV.bndL]; done) | assumption⟩ ?_
      refine hκ.run 300 ?_
      simp (disch := omega) only [exec_succ, runR_next, stepS, runOp, condS, toSR, sop, rOf, sInt, sBin, ev, Env.get, setO, List.size_toArray, List.length_cons, List.length_nil, List.range, List.range.loop, List.getElem?_toArray, List.getElem?_cons_succ, List.getElem?_cons_zero, ↓reduceIte, Nat.reduceAdd, Nat.reduceLT, Nat.reduceEqDiff, Nat.zero_add, gl0]
      by_cases h0 : left ≤ 0
      · rw [if_pos h0] at hrn
        subst hrn
        simp (disch := omega) only [exec_succ, runR_next, runR_fork_true, runR_stop, stepS, runOp, toSR, sop, rOf, ev, Env.get, OutOK_stop, List.size_toArray, List.length_cons, List.length_nil, List.range, List.range.loop, List.getElem?_toArray, List.getElem?_cons_succ, List.getElem?_cons_zero, ↓reduceIte, Nat.reduceAdd, Nat.reduceLT, Nat.reduceEqDiff, Nat.zero_add, decide_true, h0]
        refine hκ.ret _ _ _ _ _ _ trivial rfl ?_
        exact .ret (by simp [SV.bnd, SV.bndL])
      rw [if_neg h0] at hrn
      simp (disch := omega) only [exec_succ, runR_next, runR_fork_false, runR_stop, stepS, runOp, toSR, sop, rOf, ev, OutOK_stop, List.size_toArray, List.length_cons, List.length_nil, List.range, List.range.loop, List.getElem?_toArray, List.getElem?_cons_zero, ↓reduceIte, Nat.reduceLT, Nat.zero_add, decide_false, h0]
      refine Sat.nilRow 9 1 4 rfl ?_
      refine Sat.less (Sat.loop (γ := Nat × Nat) (fun k => ([(11, I k.1), (10, Bo (eqB a b k.1)), (9, .sl 0 1 0 k.1 k.2), (8, I w), (7, I left), (6, I n), (5, .rd 1 (Bs b)), (1, I m), (0, Ps l)], [(0, .row 1 k.2 4 (Bs (a.take k.1)))], 1)) (fun k => l.length - k.1) (fun k => k.1 ≤ l.length) ?round2 (0, 0) (Nat.zero_le _)) (by repeat' (first | exact EnvSub.nil _ | exact HeapSub.nil _ | refine EnvSub.cons rfl ?_ | refine HeapSub.cons rfl ?_ | (refine EnvSub.cons (by simp [Env.get]; done) ?_) | (refine HeapSub.cons (by simp [Heap.get]; done) ?_))) (by repeat' (first | exact EnvSub.nil _ | exact HeapSub.nil _ | refine EnvSub.cons rfl ?_ | refine HeapSub.cons rfl ?_ | (refine EnvSub.cons (by simp [Env.get]; done) ?_) | (refine HeapSub.cons (by simp [Heap.get]; done) ?_)))
      case round2 =>
        rintro ⟨k, cap⟩ hk2 ih2
        dsimp only at hk2 ih2 ⊢
        refine Sat.room 0 rfl fun hroom => ?_
        rw [List.length_map, List.length_take] at hroom
        refine hκ.run 300 ?_
        simp (disch := omega) only [sBuiltin, exec_succ, runR_next, stepS, runOp, condS, toSR, sop, rOf, sInt, sBin, sLen, ev, Env.get, List.size_toArray, List.length_cons, List.length_nil, List.length_map, List.range, List.range.loop, List.getElem?_toArray, List.getElem?_cons_succ, List.getElem?_cons_zero, ↓reduceIte, Nat.reduceAdd, Nat.reduceLT, Nat.reduceEqDiff, Nat.zero_add, Nat.add_one_ne_zero, gl0, Try.underlying22]
        refine OutOK_fork (fun h => ?_) (fun h => ?_) <;> try simp only [Bool.not_true, Bool.not_false, decide_eq_true_eq, decide_eq_false_iff_not, Bool.not_eq_true', Bool.not_eq_false', Bool.and_eq_true, Bool.or_eq_false_iff, Bool.or_eq_true, Bool.and_eq_false_iff] at h
        · have hz2 := fun c => ih2 (k + 1, c) (by dsimp only; omega) (by dsimp only; omega)
          dsimp only at hz2
          rw [eqB_succ (by omega) (by omega), Bs_take (by omega)] at hz2
          have hp := (okP_iff _).1 (hall _ (getD_mem (show k < l.length by omega)))
          have g1 : (List.map eP l).getD k [] = eP (l.getD k default) := getD_map _ _ _ (by omega)
          have g2 := Bs_get (b := b) (show k < b.length by omega)
          have hg := hget k (by omega)
          have et : List.take k (Bs (a.take k)) = Bs (a.take k) := List.take_of_length_le (by simp; omega)
          generalize l.getD k default = p at *
          generalize b.getD k default = x at *
          generalize a.getD k default = y at *
          generalize eqB a b k = same at *
          have b1 := smul_bd (A := 65535) (B := 64) (show 0 ≤ p.1 by omega) hp.1.2 (show -64 ≤ left by omega) (by omega) (by decide)
          have b2 := mul_bd (by omega) hp.2.2 hW.1 hW.2
          have hlen : (Bs (a.take k)).length = k := by simp; omega
          have t1 : (!(true == false)) = true := rfl
          have t2 : (!(true == true)) = false := rfl
          have t3 : (!(false == false)) = false := rfl
          cases x
          · by_cases hc : p.2 * w ≤ p.1 * left
            · rw [decide_eq_true hc] at hg
              subst hg
              simp (disch := omega) only [allQuiet, quietOp, drawS, exec_succ, runR_next, runR_stop, stepS, OutOK_stop, Option.isNone_none, Option.isNone_some, Bool.and_true, Bool.and_false]
              refine hκ.draw (.q 0 (.q 1 (.q 2 (.q 3 (.q 4 (.q 5 (.q 6 (.q 7 (.q 8 (.q 9 (.q 10 (.q 11 (.q 12 (.q 13 (.q 14 (.q 15 (.q 16 (.q 17 (.q 18 (.q 19 (.q 20 (.q 21 (.fin))))))))))))))))))))))) [0, 1, 2, 3, 4, 5, 6, 7, 8, 9, 10, 11, 12, 13, 14, 15, 16, 17, 18, 19, 20, 21] (by kernel_rfl) (by kernel_rfl) rfl ?_
              simp (disch := omega) only [sop, rOf, sPick, sLoad, sInt, sBin, sFieldAddr, sIndexAddr, elemT, obind, ev, Env.get, takeN, cut, aggOf, setO, drawP_fin, drawP_q, dq, dqn, GF.ff, guardP, R1Q, dstOK, List.length_map, List.getElem?_toArray, List.getElem?_cons_succ, List.getElem?_cons_zero, Option.bind_some, ↓reduceIte, Nat.reduceLT, Nat.reduceEqDiff, Nat.zero_add, Nat.add_zero, Nat.add_one_ne_zero, Int.toNat_natCast, decide_true, true_and, wrap_i64, gl0, Try.sz3, Try.ag3, Try.sz4, Try.ag4, Try.underlying22, Try.underlying28, Try.sz54, Try.fd54f0, Try.fd54f1, g1, g2, eP, hb, hc]
              (repeat (refine ⟨by first | omega | (refine ⟨?_, ?_⟩ <;> omega) | trivial | (simp; done) | decide +kernel, fun _ => ?_⟩))
              refine hκ.run 300 ?_
              simp (disch := omega) only [sBuiltin, srcS, appArgS, sAppendTo, sAppend, exec_succ, runR_next, runR_need, runR_all, runR_fork_true, runR_stop, stepS, runOp, condS, toSR, sop, rOf, rNew, isArr, sLoad, sInt, sEq, sEqR, sBin, sIndexAddr, elemT, sliceT, obind, fillS, evps, repeatL, sBuildSlice, chunk, ev, svs, Env.get, Heap.get, Heap.drop, takeN, cut, over, paste, aggOf, cellsS, one, ones, idFree, idFrees, Value.cells, Value.oneCell', OutOK_need, OutOK_all, OutOK_stop, Bool.and_true, List.drop_zero, List.take_succ_cons, List.take_nil, List.size_toArray, List.length_cons, List.length_nil, List.length_map, List.range, List.range.loop, List.getElem?_toArray, List.getElem?_cons_succ, List.getElem?_cons_zero, List.map_cons, List.map_nil, List.append_nil, List.toList_toArray, ↓reduceIte, Nat.reduceAdd, Nat.reduceLT, Nat.reduceLeDiff, Nat.reduceEqDiff, Nat.zero_add, Nat.mul_one, Nat.add_one_ne_zero, Int.toNat_natCast, ne_eq, not_false_eq_true, true_and, and_self, forall_const, wrap_i64, gl0, Try.underlying4, Try.sz4, Try.ag4, Try.ze4, Try.by4, Try.underlying28, g2, hb, hlen, t1]
              (repeat (refine ⟨by first | omega | (refine ⟨?_, ?_⟩ <;> omega) | trivial | (simp; done) | decide +kernel, fun _ => ?_⟩))
              intro c
              have hy := hz2 (k + 1 + c)
              rw [show decide ((false || true) = false) = false from rfl, Bool.and_false] at hy
              simp only [List.length_append, List.length_cons, List.length_nil, List.length_singleton, List.length_map, List.length_set, List.length_replicate, Nat.zero_add, Nat.add_zero, Int.natCast_add, Int.natCast_one, Int.ofNat_eq_natCast, List.map_append, List.map_cons, List.map_nil, List.take_length, eI, eB] at hy ⊢
              rw [et]
              refine Sat.via (fun i => if i = 0 then 2 else i) (hy) (by intro i j; (repeat (first | omega | split))) (by repeat' (first | exact EnvVia.nil | refine EnvVia.cons (by first | trivial | decide | (simp [SV.bnd, SV.bndL]; done)) rfl ?_)) (by repeat' (first | exact HeapVia.nil | refine HeapVia.cons (by decide) (by first | trivial | (simp [Blk.bnd, SV.bnd, SV.bndL]; done) | exact bndL_mapV _ _ _ | exact LR.bnd (by rw [l2]; simp [bndE, SV.bnd, SV.bndL]) (by rw [l6]; decide)) (by first | rfl | (simp only [Blk.ren, renL_mapV]; rfl) | (rw [LR.ren (by rw [l2] <;> rfl) (by rw [l6] <;> rfl)]; rfl)) ?_)) ⟨by have := hκ.hm; (try dsimp only at this); (first | done | omega), fun i hi => by have := hκ.hm; (try dsimp only at this); (first | omega | (dsimp only; omega) | (rw [if_neg (by omega)]))⟩ ⟨by simp, rfl⟩
            · rw [decide_eq_false hc] at hg
              subst hg
              simp (disch := omega) only [allQuiet, quietOp, drawS, exec_succ, runR_next, runR_stop, stepS, OutOK_stop, Option.isNone_none, Option.isNone_some, Bool.and_true, Bool.and_false]
              refine hκ.draw (.q 0 (.q 1 (.q 2 (.q 3 (.q 4 (.q 5 (.q 6 (.q 7 (.q 8 (.q 9 (.q 10 (.q 11 (.q 12 (.q 13 (.q 14 (.q 15 (.q 16 (.q 17 (.q 18 (.q 19 (.q 20 (.q 21 (.fin))))))))))))))))))))))) [0, 1, 2, 3, 4, 5, 6, 7, 8, 9, 10, 11, 12, 13, 14, 15, 16, 17, 18, 19, 20, 21] (by kernel_rfl) (by kernel_rfl) rfl ?_
              simp (disch := omega) only [sop, rOf, sPick, sLoad, sInt, sBin, sFieldAddr, sIndexAddr, elemT, obind, ev, Env.get, takeN, cut, aggOf, setO, drawP_fin, drawP_q, dq, dqn, GF.ff, guardP, R1Q, dstOK, List.length_map, List.getElem?_toArray, List.getElem?_cons_succ, List.getElem?_cons_zero, Option.bind_some, ↓reduceIte, Nat.reduceLT, Nat.reduceEqDiff, Nat.zero_add, Nat.add_zero, Nat.add_one_ne_zero, Int.toNat_natCast, decide_false, true_and, wrap_i64, gl0, Try.sz3, Try.ag3, Try.sz4, Try.ag4, Try.underlying22, Try.underlying28, Try.sz54, Try.fd54f0, Try.fd54f1, g1, g2, eP, hb, hc]
              (repeat (refine ⟨by first | omega | (refine ⟨?_, ?_⟩ <;> omega) | trivial | (simp; done) | decide +kernel, fun _ => ?_⟩))
              refine hκ.run 300 ?_
              simp (disch := omega) only [sBuiltin, srcS, appArgS, sAppendTo, sAppend, exec_succ, runR_next, runR_need, runR_all, runR_fork_false, runR_stop, stepS, runOp, condS, toSR, sop, rOf, rNew, isArr, sLoad, sInt, sEq, sEqR, sBin, sIndexAddr, elemT, sliceT, obind, fillS, evps, repeatL, sBuildSlice, chunk, ev, svs, Env.get, Heap.get, Heap.drop, takeN, cut, over, paste, aggOf, cellsS, one, ones, idFree, idFrees, Value.cells, Value.oneCell', OutOK_need, OutOK_all, OutOK_stop, Bool.and_true, List.drop_zero, List.take_succ_cons, List.take_nil, List.size_toArray, List.length_cons, List.length_nil, List.length_map, List.range, List.range.loop, List.getElem?_toArray, List.getElem?_cons_succ, List.getElem?_cons_zero, List.map_cons, List.map_nil, List.append_nil, List.toList_toArray, ↓reduceIte, Nat.reduceAdd, Nat.reduceLT, Nat.reduceLeDiff, Nat.reduceEqDiff, Nat.zero_add, Nat.mul_one, Nat.add_one_ne_zero, Int.toNat_natCast, Bool.not_true, beq_self_eq_true, ne_eq, not_false_eq_true, true_and, and_self, forall_const, wrap_i64, gl0, Try.underlying4, Try.sz4, Try.ag4, Try.ze4, Try.by4, Try.underlying28, g2, hb, hlen]
              (repeat (refine ⟨by first | omega | (refine ⟨?_, ?_⟩ <;> omega) | trivial | (simp; done) | decide +kernel, fun _ => ?_⟩))
              intro c
              have hy := hz2 (k + 1 + c)
              rw [show decide ((false || false) = false) = true from rfl, Bool.and_true] at hy
              simp only [List.length_append, List.length_cons, List.length_nil, List.length_singleton, List.length_map, List.length_set, List.length_replicate, Nat.zero_add, Nat.add_zero, Int.natCast_add, Int.natCast_one, Int.ofNat_eq_natCast, List.map_append, List.map_cons, List.map_nil, List.take_length, eI, eB] at hy ⊢
              rw [et]
              refine Sat.via (fun i => if i = 0 then 2 else i) (hy) (by intro i j; (repeat (first | omega | split))) (by repeat' (first | exact EnvVia.nil | refine EnvVia.cons (by first | trivial | decide | (simp [SV.bnd, SV.bndL]; done)) rfl ?_)) (by repeat' (first | exact HeapVia.nil | refine HeapVia.cons (by decide) (by first | trivial | (simp [Blk.bnd, SV.bnd, SV.bndL]; done) | exact bndL_mapV _ _ _ | exact LR.bnd (by rw [l2]; simp [bndE, SV.bnd, SV.bndL]) (by rw [l6]; decide)) (by first | rfl | (simp only [Blk.ren, renL_mapV]; rfl) | (rw [LR.ren (by rw [l2] <;> rfl) (by rw [l6] <;> rfl)]; rfl)) ?_)) ⟨by have := hκ.hm; (try dsimp only at this); (first | done | omega), fun i hi => by have := hκ.hm; (try dsimp only at this); (first | omega | (dsimp only; omega) | (rw [if_neg (by omega)]))⟩ ⟨by simp, rfl⟩
          · rw [Bool.true_or] at hg
            subst hg
            simp (disch := omega) only [allQuiet, quietOp, drawS, exec_succ, runR_next, runR_stop, stepS, OutOK_stop, Option.isNone_none, Option.isNone_some, Bool.and_true, Bool.and_false]
            refine hκ.draw (.q 0 (.q 1 (.q 2 (.q 3 (.q 4 (.q 5 (.q 6 (.q 7 (.q 8 (.q 9 (.q 10 (.q 11 (.q 12 (.q 13 (.q 14 (.q 15 (.q 16 (.q 17 (.q 18 (.q 19 (.q 20 (.q 21 (.fin))))))))))))))))))))))) [0, 1, 2, 3, 4, 5, 6, 7, 8, 9, 10, 11, 12, 13, 14, 15, 16, 17, 18, 19, 20, 21] (by kernel_rfl) (by kernel_rfl) rfl ?_
            simp (disch := omega) only [sop, rOf, sPick, sLoad, sIndexAddr, elemT, obind, ev, Env.get, takeN, cut, aggOf, setO, drawP_fin, drawP_q, dq, dqn, GF.tf, guardP, R1Q, dstOK, undefS, undef, List.length_map, List.getElem?_toArray, List.getElem?_cons_succ, List.getElem?_cons_zero, Option.bind_some, ↓reduceIte, Nat.reduceLT, Nat.reduceEqDiff, Int.toNat_natCast, true_and, gl0, Try.sz4, Try.ag4, Try.underlying28, g2, hb]
            (repeat (refine ⟨by first | omega | (refine ⟨?_, ?_⟩ <;> omega) | trivial | (simp; done) | decide +kernel, fun _ => ?_⟩))
            refine hκ.run 300 ?_
            simp (disch := omega) only [sBuiltin, srcS, appArgS, sAppendTo, sAppend, exec_succ, runR_next, runR_need, runR_all, runR_fork_false, runR_stop, stepS, runOp, condS, toSR, sop, rOf, rNew, isArr, sLoad, sInt, sEq, sEqR, sBin, sIndexAddr, elemT, sliceT, obind, fillS, evps, repeatL, sBuildSlice, chunk, ev, svs, Env.get, Heap.get, Heap.drop, takeN, cut, over, paste, aggOf, cellsS, one, ones, idFree, idFrees, Value.cells, Value.oneCell', OutOK_need, OutOK_all, OutOK_stop, Bool.and_true, List.drop_zero, List.take_succ_cons, List.take_nil, List.size_toArray, List.length_cons, List.length_nil, List.length_map, List.range, List.range.loop, List.getElem?_toArray, List.getElem?_cons_succ, List.getElem?_cons_zero, List.map_cons, List.map_nil, List.append_nil, List.toList_toArray, ↓reduceIte, Nat.reduceAdd, Nat.reduceLT, Nat.reduceLeDiff, Nat.reduceEqDiff, Nat.zero_add, Nat.mul_one, Nat.add_one_ne_zero, Int.toNat_natCast, Bool.not_true, beq_self_eq_true, ne_eq, not_false_eq_true, true_and, and_self, forall_const, wrap_i64, gl0, Try.underlying4, Try.sz4, Try.ag4, Try.ze4, Try.by4, Try.underlying28, g2, hb, hlen]
            (repeat (refine ⟨by first | omega | (refine ⟨?_, ?_⟩ <;> omega) | trivial | (simp; done) | decide +kernel, fun _ => ?_⟩))
            intro c
            have hy := hz2 (k + 1 + c)
            rw [show decide (true = true) = true from rfl, Bool.and_true] at hy
            simp only [List.length_append, List.length_cons, List.length_nil, List.length_singleton, List.length_map, List.length_set, List.length_replicate, Nat.zero_add, Nat.add_zero, Int.natCast_add, Int.natCast_one, Int.ofNat_eq_natCast, List.map_append, List.map_cons, List.map_nil, List.take_length, eI, eB] at hy ⊢
            rw [et]
            refine Sat.via (fun i => if i = 0 then 2 else i) (hy) (by intro i j; (repeat (first | omega | split))) (by repeat' (first | exact EnvVia.nil | refine EnvVia.cons (by first | trivial | decide | (simp [SV.bnd, SV.bndL]; done)) rfl ?_)) (by repeat' (first | exact HeapVia.nil | refine HeapVia.cons (by decide) (by first | trivial | (simp [Blk.bnd, SV.bnd, SV.bndL]; done) | exact bndL_mapV _ _ _ | exact LR.bnd (by rw [l2]; simp [bndE, SV.bnd, SV.bndL]) (by rw [l6]; decide)) (by first | rfl | (simp only [Blk.ren, renL_mapV]; rfl) | (rw [LR.ren (by rw [l2] <;> rfl) (by rw [l6] <;> rfl)]; rfl)) ?_)) ⟨by have := hκ.hm; (try dsimp only at this); (first | done | omega), fun i hi => by have := hκ.hm; (try dsimp only at this); (first | omega | (dsimp only; omega) | (rw [if_neg (by omega)]))⟩ ⟨by simp, rfl⟩
        · obtain rfl : k = l.length := by omega
          rw [eqB_full ha hb]
          have hlen : (Bs (a.take l.length)).length = l.length := by simp; omega
          by_cases he : a = b
          · rw [if_pos he] at hrn
            subst hrn
            rw [decide_eq_true he]
            simp (disch := omega) only [exec_succ, runR_next, runR_fork_true, runR_stop, stepS, runOp, condS, goS, toSR, sop, rOf, ev, Env.get, exitTo, OutOK_stop, List.size_toArray, List.length_cons, List.length_nil, List.range, List.range.loop, List.getElem?_toArray, List.getElem?_cons_succ, List.getElem?_cons_zero, ↓reduceIte, Nat.reduceAdd, Nat.reduceLT, Nat.reduceEqDiff, Nat.zero_add, beq_self_eq_true]
            refine hκ.ret _ _ _ _ _ _ trivial rfl ?_
            exact .ret (by simp [SV.bnd, SV.bndL])
          · rw [if_neg he] at hrn
            rw [decide_eq_false he]
            have hy := hz a ha hrn
            rw [List.take_of_length_le (show a.length ≤ l.length by omega)]
            have hlen : l.length = (Bs a).length := by simp; omega
            rw [hlen]
            simp (disch := omega) only [exec_succ, runR_next, runR_fork_false, runR_stop, stepS, runOp, condS, goS, toSR, sop, rOf, sInt, sBin, ev, Env.get, exitTo, OutOK_stop, List.size_toArray, List.length_cons, List.length_nil, List.length_map, List.range, List.range.loop, List.getElem?_toArray, List.getElem?_cons_succ, List.getElem?_cons_zero, ↓reduceIte, Nat.reduceAdd, Nat.reduceLT, Nat.reduceEqDiff, Nat.zero_add, beq_self_eq_true, wrap_i64]
            refine Sat.frz [0] 5 _ rfl (by first | (simp [lendPL, lendP, lendSlP, Heap.get]; done) | (simp only [lendPL, lendP, lendSlP, Heap.get, List.mem_singleton, List.mem_cons, List.not_mem_nil, or_false, or_true, true_or, Nat.reduceEqDiff, Nat.one_ne_zero, Nat.zero_ne_one, ↓reduceIte, and_true, true_and, List.length_map, List.length_append, List.length_cons, List.length_nil, List.length_replicate]; omega)) ?_
            simp only [lendL, lendS, lendSl, Heap.get, without, List.mem_singleton, List.mem_cons, List.not_mem_nil, or_false, or_true, true_or, List.drop_zero, List.take_length, List.take_succ_cons, List.take_zero, Nat.reduceAdd, Nat.reduceEqDiff, Nat.one_ne_zero, Nat.zero_ne_one, ↓reduceIte]
            rw [show List.take a.length (Bs a) = Bs a from List.take_of_length_le (by simp)]
            refine Sat.via (fun i => i) (hy) (by intro i j; (repeat (first | omega | split))) (by repeat' (first | exact EnvVia.nil | refine EnvVia.cons (by first | trivial | decide | (simp [SV.bnd, SV.bndL]; done)) rfl ?_)) (by repeat' (first | exact HeapVia.nil | refine HeapVia.cons (by decide) (by first | trivial | (simp [Blk.bnd, SV.bnd, SV.bndL]; done) | exact bndL_mapV _ _ _ | exact LR.bnd (by rw [l2]; simp [bndE, SV.bnd, SV.bndL]) (by rw [l6]; decide)) (by first | rfl | (simp only [Blk.ren, renL_mapV]; rfl) | (rw [LR.ren (by rw [l2] <;> rfl) (by rw [l6] <;> rfl)]; rfl)) ?_)) ⟨by have := hκ.hm; (try dsimp only at this); (first | done | omega), fun i hi => by have := hκ.hm; (try dsimp only at this); (first | omega | (dsimp only; omega) | (rw [if_neg (by omega)]))⟩ ⟨by simp, rfl⟩
    · obtain rfl : n = l.length + 1 := by omega
      rw [Nat.sub_self, refN] at hrn
      subst hrn
      simp (disch := omega) only [exec_succ, runR_next, runR_stop, stepS, runOp, goS, toSR, sop, rOf, ev, Env.get, exitTo, OutOK_stop, Int.cast_ofNat_Int, Int.natCast_add, List.size_toArray, List.length_cons, List.length_nil, List.range, List.range.loop, List.getElem?_toArray, List.getElem?_cons_succ, List.getElem?_cons_zero, ↓reduceIte, Nat.reduceAdd, Nat.reduceLT, Nat.reduceEqDiff, Nat.zero_add, beq_self_eq_true]
      refine hκ.ret _ _ _ _ _ _ trivial rfl ?_
      exact .ret (by simp [SV.bnd, SV.bndL])
end Go.Proofs.Ytomfpciigaopiaa

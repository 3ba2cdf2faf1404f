/- The walk of the law AuditOne. No condition. -/
import Derived.Test.YtbjhphjpdeblnaaDoorLd
namespace Go.Proofs.YtbjhphjpdeblnaaDoor
open Go Go.Sy
set_option maxRecDepth 100000
set_option linter.unusedSimpArgs false
set_option linter.unusedVariables false

/-- One that may have all of these pCPUs, and is of no gang. -/
def freeX (n : Nat) (x : Se) : Se := { x with m := 2 ^ n - 1, g := 0 }
def readyB (x : Se) : Bool := x.r && !x.k
def onB (x : Se) : Bool := decide (0 ≤ x.c)
theorem count_or (p : Nat → Bool) (c0 : Nat) (h : p c0 = false) : ∀ n, (List.range n).countP (fun c => p c || decide (c0 = c)) = (List.range n).countP p + if c0 < n then 1 else 0
  | 0 => rfl
  | n + 1 => by
    rw [List.range_succ, List.countP_append, List.countP_append, count_or p c0 h n, List.countP_cons, List.countP_cons, List.countP_nil]
    by_cases e : c0 = n
    · subst e
      rw [h, decide_eq_true rfl, if_neg (Nat.lt_irrefl _), if_pos (Nat.lt_succ_self _)]
      simp
    · rw [decide_eq_false e, Bool.or_false, List.countP_nil]
      by_cases e2 : c0 < n
      · have e3 : c0 < n + 1 := by omega
        rw [if_pos e2, if_pos e3]; omega
      · have e3 : ¬ c0 < n + 1 := by omega
        rw [if_neg e2, if_neg e3]
        omega
theorem adm_count {n : Nat} : ∀ (l : List Se) (s : Nat), (∀ x ∈ l, x.m = 2 ^ n - 1 ∧ -1 ≤ x.c) → admB s l = true →
    (List.range n).countP (fun c => (l.foldl takS s).testBit c) = (List.range n).countP (fun c => s.testBit c) + l.countP onB ∧ ∀ x ∈ l, onB x = true → readyB x = true
  | [], s, _, _ => ⟨rfl, fun x hx => by cases hx⟩
  | x :: l, s, h, ha => by
    obtain ⟨hx, hc⟩ := h x (by simp)
    have hl := fun y hy => h y (List.mem_cons_of_mem _ hy)
    rw [List.foldl_cons, List.countP_cons]
    rw [admB] at ha
    by_cases e : x.c = -1
    · rw [if_pos e] at ha
      have e1 : takS s x = s := by rw [takS, if_neg (by omega)]
      have e2 : onB x = false := by rw [onB, decide_eq_false_iff_not]; omega
      obtain ⟨h1, h2⟩ := adm_count l s hl ha
      rw [e1, e2, h1]
      refine ⟨by simp, fun y hy hb => ?_⟩
      rcases List.mem_cons.1 hy with rfl | hy
      · rw [e2] at hb; cases hb
      · exact h2 y hy hb
    · rw [if_neg e] at ha
      split at ha
      case isFalse => cases ha
      rename_i hq
      simp only [Bool.and_eq_true, Bool.not_eq_true'] at hq
      obtain ⟨q1, q2, q3, q4⟩ := hq
      have e1 : takS s x = s ||| 2 ^ x.c.toNat := by rw [takS, if_pos (by omega)]
      have e2 : onB x = true := by rw [onB, decide_eq_true_eq]; omega
      obtain ⟨h1, h2⟩ := adm_count l _ hl ha
      rw [e1, e2, h1]
      rw [hasB, Bool.and_eq_true, decide_eq_true_eq, hx, Nat.testBit_two_pow_sub_one, decide_eq_true_eq] at q3
      rw [hasB, decide_eq_true q3.1, Bool.true_and] at q4
      have := count_or (fun c => s.testBit c) x.c.toNat q4 n
      rw [if_pos q3.2] at this
      refine ⟨?_, fun y hy hb => ?_⟩
      · simp only [Nat.testBit_or, Nat.testBit_two_pow]
        rw [this]
        simp; omega
      rcases List.mem_cons.1 hy with rfl | hy
      · rw [readyB, q1, q2]; rfl
      · exact h2 y hy hb
/-- As many run as can. -/
theorem one_count {n : Nat} (hn : n ≤ 8) {l : List Se} (h : ∀ x ∈ l, x.m = 2 ^ n - 1 ∧ x.g = 0 ∧ -1 ≤ x.c) (ha : admB 0 l = true) (hi : idleL l = []) : ((l.countP onB : Nat) : Int) = min ((l.countP readyB : Nat) : Int) (n : Int) := by
  obtain ⟨h1, h2⟩ := adm_count l 0 (fun x hx => ⟨(h x hx).1, (h x hx).2.2⟩) ha
  have h0 : (List.range n).countP (fun c => (0 : Nat).testBit c) = 0 := by rw [List.countP_eq_zero]; intro c _; simp
  rw [h0, Nat.zero_add, ← takN] at h1
  have h3 : l.countP onB ≤ n := by rw [← h1]; have := List.countP_le_length (p := fun c => (takN l).testBit c) (l := List.range n); rwa [List.length_range] at this
  have h4 : l.countP onB ≤ l.countP readyB := List.countP_mono_left fun x hx hb => h2 x hx hb
  by_cases hw : ∃ x ∈ l, waitB x = true
  · obtain ⟨x, hx, hxw⟩ := hw
    have h5 : (List.range n).countP (fun c => (takN l).testBit c) = (List.range n).length := List.countP_eq_length.2 fun c hc => by
      rw [List.mem_range] at hc
      cases ht : (takN l).testBit c
      · exfalso
        have hwc : (wantN l).testBit c = true := by
          rw [want_bit, List.any_eq_true]
          exact ⟨x, hx, by rw [hxw, (h x hx).1, Nat.testBit_two_pow_sub_one, decide_eq_true hc]; rfl⟩
        have : (c : Int) ∈ idleL l := by
          rw [idleL, bits, List.mem_map]
          exact ⟨c, List.mem_filter.2 ⟨List.mem_range.2 (by omega), by rw [dif_bit, hwc, ht]; rfl⟩, rfl⟩
        rw [hi] at this; cases this
      · rfl
    rw [h1, List.length_range] at h5
    omega
  · have h5 : l.countP readyB ≤ l.countP onB := List.countP_mono_left fun x hx hb => by
      cases ho : onB x
      · exfalso
        refine hw ⟨x, hx, ?_⟩
        rw [readyB, Bool.and_eq_true, Bool.not_eq_true'] at hb
        rw [onB, decide_eq_false_iff_not] at ho
        have hh := h x hx
        rw [waitB, hb.1, hb.2, decide_eq_true hh.2.1, decide_eq_true (show x.c = -1 by omega)]
        rfl
      · rfl
    omega
theorem one_law (m : Mo) (n : Int) (hm0 : inM0' m) (hn : i64 n) : Law Tryd.prog gl0 4 [.agg (eM m), I n] := by
  obtain ⟨t, l⟩ := m
  obtain ⟨m1, m2, m3⟩ := hm0
  dsimp only at m1 m2 m3
  refine Law.of (nt := 85) (res := [.tmp 4]) Tryd.mixed Tryd.func4 rfl rfl rfl rfl fun κ xc hκ => hκ.run 300 ?_
  simp (disch := omega) only [exec_succ, runR_next, runR_call, stepS, runOp, toSR, sop, rOf, rNew, sBox, isArr, ev, evs, Env.get, cellsS, envOf, OutOK_call, Bool.false_eq_true, List.size_toArray, List.length_cons, List.length_nil, List.range, List.range.loop, List.getElem?_toArray, List.getElem?_cons_succ, List.getElem?_cons_zero, ↓reduceIte, Nat.reduceAdd, Nat.reduceLT, Nat.zero_add, gl0, eM]
  refine Does.ret hκ.hP hκ.hgl (wakes_ok) ⟨trivial, by simp [SV.bnd, SV.bndL], by first | (simp [SV.bnd, SV.bndL]; done) | assumption⟩ ?_
  refine hκ.run 300 ?_
  simp (disch := omega) only [sBuiltin, exec_succ, runR_next, runR_fork_false, stepS, runOp, condS, toSR, sop, rOf, sLoadIn, sLoad, sInt, sBin, sUn, sFieldAddr, sLen, ev, Env.get, Heap.get, takeN, cut, aggOf, setO, List.size_toArray, List.length_cons, List.length_nil, List.length_map, List.range, List.range.loop, List.getElem?_toArray, List.getElem?_cons_succ, List.getElem?_cons_zero, ↓reduceIte, Nat.reduceAdd, Nat.reduceLT, Nat.reduceEqDiff, Nat.zero_add, Nat.add_one_ne_zero, Bool.not_true, gl0, Tryd.underlying22, Tryd.sz22, Tryd.ag22, Tryd.fd24f1]
  by_cases h30 : (30 : Int) < l.length
  · simp (disch := omega) only [exec_succ, runR_next, runR_fork_true, runR_stop, stepS, runOp, toSR, sop, rOf, ev, OutOK_stop, List.size_toArray, List.length_cons, List.length_nil, List.range, List.range.loop, List.getElem?_toArray, List.getElem?_cons_zero, ↓reduceIte, Nat.reduceLT, Nat.zero_add, decide_true, h30]
    refine hκ.ret _ _ _ _ _ _ trivial rfl ?_
    rfl
  have hl8 : l.length ≤ 30 := by omega
  obtain ⟨N, hN, hN1, hN8⟩ : ∃ N : Nat, max n 0 % 8 + 1 = (N : Int) ∧ 1 ≤ N ∧ N ≤ 8 := ⟨(max n 0 % 8 + 1).toNat, by omega, by omega, by omega⟩
  simp (disch := omega) only [sBuiltin, srcS, appArgS, sAppendTo, sAppend, sMinMax, exec_succ, runR_next, runR_need, runR_all, runR_fork_false, runR_stop, stepS, runOp, toSR, sop, rOf, rNew, sLoadIn, sLoad, sStoreIn, sStore, sInt, sBin, sFieldAddr, sLen, sliceT, obind, fillS, evps, repeatL, sBuildSlice, chunk, ev, svs, Env.get, Heap.get, Heap.set, Heap.drop, takeN, cut, over, paste, aggOf, cellsS, one, ones, idFrees, OutOK_need, OutOK_all, OutOK_stop, undefS, undef, List.take_nil, List.size_toArray, List.length_cons, List.length_nil, List.length_map, List.range, List.range.loop, List.getElem?_toArray, List.getElem?_cons_succ, List.getElem?_cons_zero, List.map_cons, List.map_nil, List.nil_append, ↓reduceIte, Nat.reduceAdd, Nat.reduceLT, Nat.reduceLeDiff, Nat.reduceEqDiff, Nat.zero_add, Nat.zero_mul, Nat.add_one_ne_zero, Int.reduceEq, decide_false, ne_eq, not_false_eq_true, true_and, and_self, forall_const, reduceCtorEq, Int.tmod_eq_emod_of_nonneg, wrap_i64, Tryd.underlying22, Tryd.sz22, Tryd.ag22, Tryd.fd24f1, Tryd.sz33, Tryd.ze33, Tryd.by33, h30]
  refine ⟨by omega, fun _ cap => ?_⟩
  rw [hN]
  refine Sat.less (Sat.loop (γ := Nat) (fun k => ([(27, I k), (26, I l.length), (6, I ((l.take k).countP onB : Nat)), (5, I ((l.take k).countP readyB : Nat)), (1, I N), (2, .ptr 0 0 0 0)], [(2, .row 11 (l.length + cap) 33 ((l.take k).map (fun x => eX (freeX N x)) ++ (l.drop k).map eX)), (0, .own [I t, .sl 2 11 0 l.length (l.length + cap)] 24)], 3)) (fun k => l.length - k) (fun k => k ≤ l.length) ?round 0 (Nat.zero_le _)) (by repeat' (first | exact EnvSub.nil _ | exact HeapSub.nil _ | refine EnvSub.cons rfl ?_ | refine HeapSub.cons rfl ?_ | (refine EnvSub.cons (by simp [Env.get]; done) ?_) | (refine HeapSub.cons (by simp [Heap.get]; done) ?_))) (by repeat' (first | exact EnvSub.nil _ | exact HeapSub.nil _ | refine EnvSub.cons rfl ?_ | refine HeapSub.cons rfl ?_ | (refine EnvSub.cons (by simp [Env.get]; done) ?_) | (refine HeapSub.cons (by simp [Heap.get]; done) ?_)))
  case round =>
    intro k hk ih
    dsimp only at ih ⊢
    have hp := pow32 N (by omega)
    have h2a := Nat.pow_le_pow_right (show 1 ≤ 2 by decide) hN8
    have h2b := Nat.two_pow_pos N
    have hw : IntKind.u32.wrap (((2 ^ N : Nat) : Int) - 1) = ((2 ^ N - 1 : Nat) : Int) := by
      rw [wrap_u32 (by omega) (by omega)]; omega
    refine hκ.run 7 ?_
    simp (disch := omega) only [exec_succ, runR_next, stepS, runOp, condS, toSR, sop, sInt, sBin, ev, Env.get, List.size_toArray, List.length_cons, List.length_nil, List.range, List.range.loop, List.getElem?_toArray, List.getElem?_cons_zero, ↓reduceIte, Nat.reduceLT, Nat.reduceEqDiff, Nat.zero_add, gl0]
    refine OutOK_fork (fun h => ?_) (fun h => ?_) <;> try simp only [Bool.not_true, Bool.not_false, decide_eq_true_eq, decide_eq_false_iff_not, Bool.not_eq_true', Bool.not_eq_false', Bool.and_eq_true, Bool.or_eq_false_iff, Bool.or_eq_true, Bool.and_eq_false_iff] at h
    · have hxm := getD_mem (show k < l.length by omega)
      have hx := m2 _ hxm
      have hz := ih (k + 1) (by omega) (by omega)
      have hc1 := List.countP_le_length (p := onB) (l := l.take k)
      have hc2 := List.countP_le_length (p := readyB) (l := l.take k)
      rw [List.length_take] at hc1 hc2
      rw [countP_take (by omega), countP_take (by omega), take_getD (by omega), List.map_append, List.map_cons, List.map_nil, List.append_assoc, List.cons_append, List.nil_append] at hz
      rw [drop_getD (by omega), List.map_cons]
      generalize (l.take k).countP onB = a at hz hc1 ⊢
      generalize (l.take k).countP readyB = b at hz hc2 ⊢
      generalize l.getD k default = x at hx hz ⊢
      obtain ⟨A, hA⟩ : ∃ A, (l.take k).map (fun x => eX (freeX N x)) = A := ⟨_, rfl⟩
      obtain ⟨B, hB⟩ : ∃ B, (l.drop (k + 1)).map eX = B := ⟨_, rfl⟩
      have hAl : A.length = k := by rw [← hA]; simp; omega
      have hBl : B.length = l.length - (k + 1) := by rw [← hB]; simp
      rw [hA, hB] at hz
      rw [hA, hB]
      have gk : ∀ v, (A ++ v :: B).getD k [] = v := fun v => by rw [List.getD, List.getElem?_append_right (by omega), hAl]; simp
      have sk : ∀ v w, (A ++ v :: B).set k w = A ++ w :: B := fun v w => by rw [List.set_append_right _ _ (by omega), hAl]; simp
      have hs : ∀ y, onB y = decide (0 ≤ y.c) := fun _ => rfl
      refine hκ.runA 11 300 ?_
      simp (disch := omega) only [runR_next, stepS, runOp, toSR, sop, rOf, ev, Env.get, OutOK_stop, halt, isAt, atC, execA_succ, List.size_toArray, List.length_cons, List.length_nil, List.range, List.range.loop, List.getElem?_toArray, List.getElem?_cons_succ, List.getElem?_cons_zero, ↓reduceIte, Nat.reduceAdd, Nat.reduceLT, Nat.reduceEqDiff, Nat.zero_add, Nat.reduceBEq, beq_self_eq_true, gl0, eX]
      refine hκ.draw (.q 0 (.q 1 (.q 2 (.q 3 (.q 4 (.q 5 (.q 6 (.q 7 (.q 8 (.q 9 (.q 10 (.l 11 [4] (.q 12 (.q 13 (.l 14 [] (.fin)))))))))))))))) [0, 1, 2, 3, 4, 5, 6, 7, 8, 9, 10, 12, 13] (by kernel_rfl) (by kernel_rfl) rfl ?_
      simp (disch := omega) only [sop, rOf, sLoadIn, sLoad, sStoreIn, sStore, sInt, sBin, sFieldAddr, sIndexAddr, elemT, obind, ev, svs, Env.get, Heap.get, Heap.set, takeN, cut, over, paste, aggOf, cellsS, one, ones, idFree, idFrees, setO, Value.cells, Value.oneCell', drawP_fin, drawP_q, drawP_l, dnext, dq, dqn, dl, slotR, ag, guardP, R1Q, dstOK, loudP, again, again1, slotIs, R1OK, undefS, undef, Bool.and_true, List.length_cons, List.length_nil, List.length_append, List.getElem?_toArray, List.getElem?_cons_succ, List.getElem?_cons_zero, List.map_cons, List.map_nil, List.toList_toArray, ↓reduceIte, Nat.reduceLT, Nat.reduceEqDiff, Nat.zero_add, Nat.add_one_ne_zero, Int.toNat_natCast, and_true, true_and, and_self, shAmt_of, IntKind.bits, gl0, Tryd.sz3, Tryd.underlying22, Tryd.sz22, Tryd.ag22, Tryd.fd24f1, Tryd.sz31, Tryd.sz33, Tryd.fd33f2, Tryd.fd33f7, gk, sk, hAl, hBl, hp, hw]
      (repeat (refine ⟨by first | omega | (refine ⟨?_, ?_⟩ <;> omega) | trivial | (simp; done) | decide +kernel, fun _ => ?_⟩))
      (repeat (refine ⟨by first | omega | (refine ⟨?_, ?_⟩ <;> omega) | trivial | (simp; done) | decide +kernel, fun _ => ?_⟩))
      (repeat (refine ⟨by first | omega | (refine ⟨?_, ?_⟩ <;> omega) | trivial | (simp; done) | decide +kernel, fun _ => ?_⟩))
      (repeat (refine ⟨by first | omega | (refine ⟨?_, ?_⟩ <;> omega) | trivial | (simp; done) | decide +kernel, fun _ => ?_⟩))
      (repeat (refine ⟨by first | omega | (refine ⟨?_, ?_⟩ <;> omega) | trivial | (simp; done) | decide +kernel, fun _ => ?_⟩))
      have hf : eX (freeX N x) = [I x.v, I x.d, I 0, I x.p, I x.c, Bo x.r, Bo x.k, S (2 ^ N - 1), I x.w, I x.n, I x.a] := rfl
      rw [hf] at hz
      by_cases e1 : 0 ≤ x.c
      · rw [show onB x = true from decide_eq_true e1, if_pos rfl] at hz
        cases hr : x.r
        · rw [readyB, hr, Bool.false_and, if_neg (by decide)] at hz

          refine hκ.run 300 ?_
          simp (disch := omega) only [exec_succ, runR_next, runR_need, runR_fork_true, runR_fork_false, runR_guard_ft, runR_stop, stepS, runOp, guardS, condS, toSR, sop, rOf, rNew, sPick, sAlloc, sAlloc0, sLoadIn, sLoad, sStoreIn, sStore, sInt, sBin, sUn, sFieldAddr, sIndexAddr, elemT, obind, ev, svs, Env.get, Heap.get, Heap.set, takeN, cut, over, paste, aggOf, cellsS, one, ones, Value.oneCell', OutOK_need, OutOK_stop, undefS, undef, List.size_toArray, List.length_cons, List.length_nil, List.length_append, List.range, List.range.loop, List.getElem?_toArray, List.getElem?_cons_succ, List.getElem?_cons_zero, List.map_cons, List.map_nil, Option.bind_some, ↓reduceIte, Nat.reduceAdd, Nat.reduceLT, Nat.reduceEqDiff, Nat.zero_add, Nat.add_one_ne_zero, Int.toNat_natCast, Bool.not_true, decide_true, true_and, and_self, forall_const, wrap_i64, gl0, Tryd.sz3, Tryd.ag3, Tryd.sz4, Tryd.ag4, Tryd.underlying22, Tryd.sz22, Tryd.ag22, Tryd.fd24f1, Tryd.sz33, Tryd.ag33, Tryd.ze33, Tryd.ar33, Tryd.fd33f4, Tryd.fd33f5, Tryd.fd33f6, e1, gk, hAl, hBl]
          (repeat (refine ⟨by first | omega | (refine ⟨?_, ?_⟩ <;> omega) | trivial | (simp; done) | decide +kernel, fun _ => ?_⟩))
          (repeat (refine ⟨by first | omega | (refine ⟨?_, ?_⟩ <;> omega) | trivial | (simp; done) | decide +kernel, fun _ => ?_⟩))
          (repeat (refine ⟨by first | omega | (refine ⟨?_, ?_⟩ <;> omega) | trivial | (simp; done) | decide +kernel, fun _ => ?_⟩))
          (repeat (refine ⟨by first | omega | (refine ⟨?_, ?_⟩ <;> omega) | trivial | (simp; done) | decide +kernel, fun _ => ?_⟩))
          simp only [List.length_append, List.length_cons, List.length_nil, List.length_singleton, List.length_map, List.length_set, List.length_replicate, Nat.zero_add, Nat.add_zero, Int.natCast_add, Int.natCast_one, Int.ofNat_eq_natCast, List.map_append, List.map_cons, List.map_nil, List.take_length, eI, eB] at hz ⊢
          refine Sat.via (fun i => i) (hz) (by intro i j; (repeat (first | omega | split))) (by repeat' (first | exact EnvVia.nil | refine EnvVia.cons (by first | trivial | decide | (simp [SV.bnd, SV.bndL]; done)) rfl ?_)) (by repeat' (first | exact HeapVia.nil | refine HeapVia.cons (by decide) (by first | trivial | (simp [Blk.bnd, SV.bnd, SV.bndL]; done) | exact bndL_mapV _ _ _ | exact LR.bnd (by rw [l2]; simp [bndE, SV.bnd, SV.bndL]) (by rw [l6]; decide)) (by first | rfl | (simp only [Blk.ren, renL_mapV]; rfl) | (rw [LR.ren (by rw [l2] <;> rfl) (by rw [l6] <;> rfl)]; rfl)) ?_)) ⟨by have := hκ.hm; (try dsimp only at this); (first | done | omega), fun i hi => by have := hκ.hm; (try dsimp only at this); (first | omega | (dsimp only; omega) | (rw [if_neg (by omega)]))⟩ ⟨by simp, rfl⟩
        cases hk2 : x.k
        case true =>
          rw [readyB, hr, hk2, Bool.not_true, Bool.and_false, if_neg (by decide)] at hz

          refine hκ.run 300 ?_
          simp (disch := omega) only [exec_succ, runR_next, runR_need, runR_fork_true, runR_fork_false, runR_guard_tt, runR_stop, stepS, runOp, guardS, condS, toSR, sop, rOf, rNew, sPick, sAlloc, sAlloc0, sLoadIn, sLoad, sStoreIn, sStore, sInt, sBin, sUn, sFieldAddr, sIndexAddr, elemT, obind, ev, svs, Env.get, Heap.get, Heap.set, takeN, cut, over, paste, aggOf, cellsS, one, ones, Value.oneCell', OutOK_need, OutOK_stop, undefS, undef, List.size_toArray, List.length_cons, List.length_nil, List.length_append, List.range, List.range.loop, List.getElem?_toArray, List.getElem?_cons_succ, List.getElem?_cons_zero, List.map_cons, List.map_nil, Option.bind_some, ↓reduceIte, Nat.reduceAdd, Nat.reduceLT, Nat.reduceEqDiff, Nat.zero_add, Nat.add_one_ne_zero, Int.toNat_natCast, Bool.not_true, decide_true, true_and, and_self, forall_const, wrap_i64, gl0, Tryd.sz3, Tryd.ag3, Tryd.sz4, Tryd.ag4, Tryd.underlying22, Tryd.sz22, Tryd.ag22, Tryd.fd24f1, Tryd.sz33, Tryd.ag33, Tryd.ze33, Tryd.ar33, Tryd.fd33f4, Tryd.fd33f5, Tryd.fd33f6, e1, gk, hAl, hBl]
          (repeat (refine ⟨by first | omega | (refine ⟨?_, ?_⟩ <;> omega) | trivial | (simp; done) | decide +kernel, fun _ => ?_⟩))
          (repeat (refine ⟨by first | omega | (refine ⟨?_, ?_⟩ <;> omega) | trivial | (simp; done) | decide +kernel, fun _ => ?_⟩))
          (repeat (refine ⟨by first | omega | (refine ⟨?_, ?_⟩ <;> omega) | trivial | (simp; done) | decide +kernel, fun _ => ?_⟩))
          (repeat (refine ⟨by first | omega | (refine ⟨?_, ?_⟩ <;> omega) | trivial | (simp; done) | decide +kernel, fun _ => ?_⟩))
          simp only [List.length_append, List.length_cons, List.length_nil, List.length_singleton, List.length_map, List.length_set, List.length_replicate, Nat.zero_add, Nat.add_zero, Int.natCast_add, Int.natCast_one, Int.ofNat_eq_natCast, List.map_append, List.map_cons, List.map_nil, List.take_length, eI, eB] at hz ⊢
          refine Sat.via (fun i => i) (hz) (by intro i j; (repeat (first | omega | split))) (by repeat' (first | exact EnvVia.nil | refine EnvVia.cons (by first | trivial | decide | (simp [SV.bnd, SV.bndL]; done)) rfl ?_)) (by repeat' (first | exact HeapVia.nil | refine HeapVia.cons (by decide) (by first | trivial | (simp [Blk.bnd, SV.bnd, SV.bndL]; done) | exact bndL_mapV _ _ _ | exact LR.bnd (by rw [l2]; simp [bndE, SV.bnd, SV.bndL]) (by rw [l6]; decide)) (by first | rfl | (simp only [Blk.ren, renL_mapV]; rfl) | (rw [LR.ren (by rw [l2] <;> rfl) (by rw [l6] <;> rfl)]; rfl)) ?_)) ⟨by have := hκ.hm; (try dsimp only at this); (first | done | omega), fun i hi => by have := hκ.hm; (try dsimp only at this); (first | omega | (dsimp only; omega) | (rw [if_neg (by omega)]))⟩ ⟨by simp, rfl⟩
        rw [readyB, hr, hk2, Bool.not_false, Bool.and_true, if_pos rfl] at hz
        refine hκ.run 300 ?_
        simp (disch := omega) only [exec_succ, runR_next, runR_need, runR_fork_true, runR_guard_tt, runR_stop, stepS, runOp, guardS, condS, toSR, sop, rOf, rNew, sPick, sAlloc, sAlloc0, sLoadIn, sLoad, sStoreIn, sStore, sInt, sBin, sUn, sFieldAddr, sIndexAddr, elemT, obind, ev, svs, Env.get, Heap.get, Heap.set, takeN, cut, over, paste, aggOf, cellsS, one, ones, Value.oneCell', OutOK_need, OutOK_stop, undefS, undef, List.size_toArray, List.length_cons, List.length_nil, List.length_append, List.range, List.range.loop, List.getElem?_toArray, List.getElem?_cons_succ, List.getElem?_cons_zero, List.map_cons, List.map_nil, Option.bind_some, ↓reduceIte, Nat.reduceAdd, Nat.reduceLT, Nat.reduceEqDiff, Nat.zero_add, Nat.add_one_ne_zero, Int.toNat_natCast, Bool.not_true, Bool.not_false, decide_true, true_and, and_self, forall_const, wrap_i64, gl0, Tryd.sz3, Tryd.ag3, Tryd.sz4, Tryd.ag4, Tryd.underlying22, Tryd.sz22, Tryd.ag22, Tryd.fd24f1, Tryd.sz33, Tryd.ag33, Tryd.ze33, Tryd.ar33, Tryd.fd33f4, Tryd.fd33f5, Tryd.fd33f6, e1, gk, hAl, hBl]
        (repeat (refine ⟨by first | omega | (refine ⟨?_, ?_⟩ <;> omega) | trivial | (simp; done) | decide +kernel, fun _ => ?_⟩))
        (repeat (refine ⟨by first | omega | (refine ⟨?_, ?_⟩ <;> omega) | trivial | (simp; done) | decide +kernel, fun _ => ?_⟩))
        (repeat (refine ⟨by first | omega | (refine ⟨?_, ?_⟩ <;> omega) | trivial | (simp; done) | decide +kernel, fun _ => ?_⟩))
        (repeat (refine ⟨by first | omega | (refine ⟨?_, ?_⟩ <;> omega) | trivial | (simp; done) | decide +kernel, fun _ => ?_⟩))
        simp only [List.length_append, List.length_cons, List.length_nil, List.length_singleton, List.length_map, List.length_set, List.length_replicate, Nat.zero_add, Nat.add_zero, Int.natCast_add, Int.natCast_one, Int.ofNat_eq_natCast, List.map_append, List.map_cons, List.map_nil, List.take_length, eI, eB] at hz ⊢
        refine Sat.via (fun i => i) (hz) (by intro i j; (repeat (first | omega | split))) (by repeat' (first | exact EnvVia.nil | refine EnvVia.cons (by first | trivial | decide | (simp [SV.bnd, SV.bndL]; done)) rfl ?_)) (by repeat' (first | exact HeapVia.nil | refine HeapVia.cons (by decide) (by first | trivial | (simp [Blk.bnd, SV.bnd, SV.bndL]; done) | exact bndL_mapV _ _ _ | exact LR.bnd (by rw [l2]; simp [bndE, SV.bnd, SV.bndL]) (by rw [l6]; decide)) (by first | rfl | (simp only [Blk.ren, renL_mapV]; rfl) | (rw [LR.ren (by rw [l2] <;> rfl) (by rw [l6] <;> rfl)]; rfl)) ?_)) ⟨by have := hκ.hm; (try dsimp only at this); (first | done | omega), fun i hi => by have := hκ.hm; (try dsimp only at this); (first | omega | (dsimp only; omega) | (rw [if_neg (by omega)]))⟩ ⟨by simp, rfl⟩
      · rw [show onB x = false from decide_eq_false e1, if_neg (by decide)] at hz

        cases hr : x.r
        · rw [readyB, hr, Bool.false_and, if_neg (by decide)] at hz

          refine hκ.run 300 ?_
          simp (disch := omega) only [exec_succ, runR_next, runR_need, runR_fork_false, runR_guard_ft, runR_stop, stepS, runOp, guardS, condS, toSR, sop, rOf, rNew, sPick, sAlloc, sAlloc0, sLoadIn, sLoad, sStoreIn, sStore, sInt, sBin, sUn, sFieldAddr, sIndexAddr, elemT, obind, ev, svs, Env.get, Heap.get, Heap.set, takeN, cut, over, paste, aggOf, cellsS, one, ones, Value.oneCell', OutOK_need, OutOK_stop, undefS, undef, List.size_toArray, List.length_cons, List.length_nil, List.length_append, List.range, List.range.loop, List.getElem?_toArray, List.getElem?_cons_succ, List.getElem?_cons_zero, List.map_cons, List.map_nil, Option.bind_some, ↓reduceIte, Nat.reduceAdd, Nat.reduceLT, Nat.reduceEqDiff, Nat.zero_add, Nat.add_one_ne_zero, Int.toNat_natCast, Bool.not_true, decide_false, true_and, and_self, forall_const, wrap_i64, gl0, Tryd.sz3, Tryd.ag3, Tryd.sz4, Tryd.ag4, Tryd.underlying22, Tryd.sz22, Tryd.ag22, Tryd.fd24f1, Tryd.sz33, Tryd.ag33, Tryd.ze33, Tryd.ar33, Tryd.fd33f4, Tryd.fd33f5, Tryd.fd33f6, e1, gk, hAl, hBl]
          (repeat (refine ⟨by first | omega | (refine ⟨?_, ?_⟩ <;> omega) | trivial | (simp; done) | decide +kernel, fun _ => ?_⟩))
          (repeat (refine ⟨by first | omega | (refine ⟨?_, ?_⟩ <;> omega) | trivial | (simp; done) | decide +kernel, fun _ => ?_⟩))
          (repeat (refine ⟨by first | omega | (refine ⟨?_, ?_⟩ <;> omega) | trivial | (simp; done) | decide +kernel, fun _ => ?_⟩))
          (repeat (refine ⟨by first | omega | (refine ⟨?_, ?_⟩ <;> omega) | trivial | (simp; done) | decide +kernel, fun _ => ?_⟩))
          simp only [List.length_append, List.length_cons, List.length_nil, List.length_singleton, List.length_map, List.length_set, List.length_replicate, Nat.zero_add, Nat.add_zero, Int.natCast_add, Int.natCast_one, Int.ofNat_eq_natCast, List.map_append, List.map_cons, List.map_nil, List.take_length, eI, eB] at hz ⊢
          refine Sat.via (fun i => i) (hz) (by intro i j; (repeat (first | omega | split))) (by repeat' (first | exact EnvVia.nil | refine EnvVia.cons (by first | trivial | decide | (simp [SV.bnd, SV.bndL]; done)) rfl ?_)) (by repeat' (first | exact HeapVia.nil | refine HeapVia.cons (by decide) (by first | trivial | (simp [Blk.bnd, SV.bnd, SV.bndL]; done) | exact bndL_mapV _ _ _ | exact LR.bnd (by rw [l2]; simp [bndE, SV.bnd, SV.bndL]) (by rw [l6]; decide)) (by first | rfl | (simp only [Blk.ren, renL_mapV]; rfl) | (rw [LR.ren (by rw [l2] <;> rfl) (by rw [l6] <;> rfl)]; rfl)) ?_)) ⟨by have := hκ.hm; (try dsimp only at this); (first | done | omega), fun i hi => by have := hκ.hm; (try dsimp only at this); (first | omega | (dsimp only; omega) | (rw [if_neg (by omega)]))⟩ ⟨by simp, rfl⟩
        cases hk2 : x.k
        case true =>
          rw [readyB, hr, hk2, Bool.not_true, Bool.and_false, if_neg (by decide)] at hz

          refine hκ.run 300 ?_
          simp (disch := omega) only [exec_succ, runR_next, runR_need, runR_fork_false, runR_guard_tt, runR_stop, stepS, runOp, guardS, condS, toSR, sop, rOf, rNew, sPick, sAlloc, sAlloc0, sLoadIn, sLoad, sStoreIn, sStore, sInt, sBin, sUn, sFieldAddr, sIndexAddr, elemT, obind, ev, svs, Env.get, Heap.get, Heap.set, takeN, cut, over, paste, aggOf, cellsS, one, ones, Value.oneCell', OutOK_need, OutOK_stop, undefS, undef, List.size_toArray, List.length_cons, List.length_nil, List.length_append, List.range, List.range.loop, List.getElem?_toArray, List.getElem?_cons_succ, List.getElem?_cons_zero, List.map_cons, List.map_nil, Option.bind_some, ↓reduceIte, Nat.reduceAdd, Nat.reduceLT, Nat.reduceEqDiff, Nat.zero_add, Nat.add_one_ne_zero, Int.toNat_natCast, Bool.not_true, decide_false, true_and, and_self, forall_const, wrap_i64, gl0, Tryd.sz3, Tryd.ag3, Tryd.sz4, Tryd.ag4, Tryd.underlying22, Tryd.sz22, Tryd.ag22, Tryd.fd24f1, Tryd.sz33, Tryd.ag33, Tryd.ze33, Tryd.ar33, Tryd.fd33f4, Tryd.fd33f5, Tryd.fd33f6, e1, gk, hAl, hBl]
          (repeat (refine ⟨by first | omega | (refine ⟨?_, ?_⟩ <;> omega) | trivial | (simp; done) | decide +kernel, fun _ => ?_⟩))
          (repeat (refine ⟨by first | omega | (refine ⟨?_, ?_⟩ <;> omega) | trivial | (simp; done) | decide +kernel, fun _ => ?_⟩))
          (repeat (refine ⟨by first | omega | (refine ⟨?_, ?_⟩ <;> omega) | trivial | (simp; done) | decide +kernel, fun _ => ?_⟩))
          (repeat (refine ⟨by first | omega | (refine ⟨?_, ?_⟩ <;> omega) | trivial | (simp; done) | decide +kernel, fun _ => ?_⟩))
          simp only [List.length_append, List.length_cons, List.length_nil, List.length_singleton, List.length_map, List.length_set, List.length_replicate, Nat.zero_add, Nat.add_zero, Int.natCast_add, Int.natCast_one, Int.ofNat_eq_natCast, List.map_append, List.map_cons, List.map_nil, List.take_length, eI, eB] at hz ⊢
          refine Sat.via (fun i => i) (hz) (by intro i j; (repeat (first | omega | split))) (by repeat' (first | exact EnvVia.nil | refine EnvVia.cons (by first | trivial | decide | (simp [SV.bnd, SV.bndL]; done)) rfl ?_)) (by repeat' (first | exact HeapVia.nil | refine HeapVia.cons (by decide) (by first | trivial | (simp [Blk.bnd, SV.bnd, SV.bndL]; done) | exact bndL_mapV _ _ _ | exact LR.bnd (by rw [l2]; simp [bndE, SV.bnd, SV.bndL]) (by rw [l6]; decide)) (by first | rfl | (simp only [Blk.ren, renL_mapV]; rfl) | (rw [LR.ren (by rw [l2] <;> rfl) (by rw [l6] <;> rfl)]; rfl)) ?_)) ⟨by have := hκ.hm; (try dsimp only at this); (first | done | omega), fun i hi => by have := hκ.hm; (try dsimp only at this); (first | omega | (dsimp only; omega) | (rw [if_neg (by omega)]))⟩ ⟨by simp, rfl⟩
        rw [readyB, hr, hk2, Bool.not_false, Bool.and_true, if_pos rfl] at hz
        refine hκ.run 300 ?_
        simp (disch := omega) only [exec_succ, runR_next, runR_need, runR_fork_true, runR_fork_false, runR_guard_tt, runR_stop, stepS, runOp, guardS, condS, toSR, sop, rOf, rNew, sPick, sAlloc, sAlloc0, sLoadIn, sLoad, sStoreIn, sStore, sInt, sBin, sUn, sFieldAddr, sIndexAddr, elemT, obind, ev, svs, Env.get, Heap.get, Heap.set, takeN, cut, over, paste, aggOf, cellsS, one, ones, Value.oneCell', OutOK_need, OutOK_stop, undefS, undef, List.size_toArray, List.length_cons, List.length_nil, List.length_append, List.range, List.range.loop, List.getElem?_toArray, List.getElem?_cons_succ, List.getElem?_cons_zero, List.map_cons, List.map_nil, Option.bind_some, ↓reduceIte, Nat.reduceAdd, Nat.reduceLT, Nat.reduceEqDiff, Nat.zero_add, Nat.add_one_ne_zero, Int.toNat_natCast, Bool.not_true, Bool.not_false, decide_false, true_and, and_self, forall_const, wrap_i64, gl0, Tryd.sz3, Tryd.ag3, Tryd.sz4, Tryd.ag4, Tryd.underlying22, Tryd.sz22, Tryd.ag22, Tryd.fd24f1, Tryd.sz33, Tryd.ag33, Tryd.ze33, Tryd.ar33, Tryd.fd33f4, Tryd.fd33f5, Tryd.fd33f6, e1, gk, hAl, hBl]
        (repeat (refine ⟨by first | omega | (refine ⟨?_, ?_⟩ <;> omega) | trivial | (simp; done) | decide +kernel, fun _ => ?_⟩))
        (repeat (refine ⟨by first | omega | (refine ⟨?_, ?_⟩ <;> omega) | trivial | (simp; done) | decide +kernel, fun _ => ?_⟩))
        (repeat (refine ⟨by first | omega | (refine ⟨?_, ?_⟩ <;> omega) | trivial | (simp; done) | decide +kernel, fun _ => ?_⟩))
        (repeat (refine ⟨by first | omega | (refine ⟨?_, ?_⟩ <;> omega) | trivial | (simp; done) | decide +kernel, fun _ => ?_⟩))
        simp only [List.length_append, List.length_cons, List.length_nil, List.length_singleton, List.length_map, List.length_set, List.length_replicate, Nat.zero_add, Nat.add_zero, Int.natCast_add, Int.natCast_one, Int.ofNat_eq_natCast, List.map_append, List.map_cons, List.map_nil, List.take_length, eI, eB] at hz ⊢
        refine Sat.via (fun i => i) (hz) (by intro i j; (repeat (first | omega | split))) (by repeat' (first | exact EnvVia.nil | refine EnvVia.cons (by first | trivial | decide | (simp [SV.bnd, SV.bndL]; done)) rfl ?_)) (by repeat' (first | exact HeapVia.nil | refine HeapVia.cons (by decide) (by first | trivial | (simp [Blk.bnd, SV.bnd, SV.bndL]; done) | exact bndL_mapV _ _ _ | exact LR.bnd (by rw [l2]; simp [bndE, SV.bnd, SV.bndL]) (by rw [l6]; decide)) (by first | rfl | (simp only [Blk.ren, renL_mapV]; rfl) | (rw [LR.ren (by rw [l2] <;> rfl) (by rw [l6] <;> rfl)]; rfl)) ?_)) ⟨by have := hκ.hm; (try dsimp only at this); (first | done | omega), fun i hi => by have := hκ.hm; (try dsimp only at this); (first | omega | (dsimp only; omega) | (rw [if_neg (by omega)]))⟩ ⟨by simp, rfl⟩
    · simp (disch := omega) only [exec_zero, exec_succ, runR_next, stepS, goS, exitTo, OutOK_stop, ↓reduceIte, beq_self_eq_true]
      obtain rfl : k = l.length := by omega
      have et : List.take l.length (List.map (fun x => eX (freeX N x)) l) = List.map (fun x => eX (freeX N x)) l := List.take_of_length_le (by simp)
      rw [List.take_length, List.drop_length, List.map_nil, List.append_nil]
      have hes : l.map (fun x => eX (freeX N x)) = (l.map (freeX N)).map eX := by rw [List.map_map]; rfl
      rw [hes] at et ⊢
      refine Sat.frzOwn [2] 0 _ _ rfl (by decide) (by first | (simp [lendPL, lendP, lendSlP, Heap.get]; done) | (simp only [lendPL, lendP, lendSlP, Heap.get, List.mem_singleton, List.mem_cons, List.not_mem_nil, or_false, or_true, true_or, Nat.reduceEqDiff, Nat.one_ne_zero, Nat.zero_ne_one, ↓reduceIte, and_true, true_and, List.length_map, List.length_append, List.length_cons, List.length_nil, List.length_replicate]; omega)) ?_
      simp only [lendL, lendS, lendSl, Heap.get, without, List.mem_singleton, List.mem_cons, List.not_mem_nil, or_false, or_true, true_or, List.drop_zero, List.take_length, List.take_succ_cons, List.take_zero, Nat.reduceAdd, Nat.reduceEqDiff, Nat.one_ne_zero, Nat.zero_ne_one, ↓reduceIte]
      simp only [Heap.set, Nat.reduceEqDiff, ↓reduceIte, et]
      have hmm : ∀ y ∈ l.map (freeX N), inX y ∧ y.m = 2 ^ N - 1 ∧ y.g = 0 := fun y hy => by
        obtain ⟨x, hx, rfl⟩ := List.mem_map.1 hy
        obtain ⟨a1, a2, a3, a4, a5, a6, a7, a8, a9⟩ := m2 x hx
        exact ⟨⟨a1, a2, ⟨by show (_ : Int) ≤ 0; decide, by show (0 : Int) ≤ _; decide⟩, a4, a5, by show 2 ^ N - 1 < _; omega, a7, a8, a9⟩, rfl, rfl⟩
      have hc1 : l.countP onB = (l.map (freeX N)).countP onB := by rw [List.countP_map]; rfl
      have hc2 : l.countP readyB = (l.map (freeX N)).countP readyB := by rw [List.countP_map]; rfl
      have hll : (l.map (freeX N)).length = l.length := List.length_map ..
      rw [hc1, hc2]
      rw [← hll] at hl8
      generalize l.map (freeX N) = L at hmm hl8 ⊢
      have hm : inM (t, L) := ⟨m1, fun y hy => (hmm y hy).1, by dsimp only; omega⟩
      have c1 := admits_ok (t, L) hm
      have c2 := whole_ok (t, L) hm
      have c3 := idle_ok (t, L) hm
      dsimp only [eM] at c1 c2 c3
      have cl : ((L.countP onB : Nat) : Int) ≤ 30 := by have := List.countP_le_length (p := onB) (l := L); omega
      refine hκ.run 300 ?_
      simp (disch := omega) only [exec_succ, runR_next, runR_call, stepS, runOp, toSR, sop, rOf, sLoadIn, sLoad, ev, evs, Env.get, Heap.get, takeN, cut, aggOf, OutOK_call, List.size_toArray, List.length_cons, List.length_nil, List.range, List.range.loop, List.getElem?_toArray, List.getElem?_cons_succ, List.getElem?_cons_zero, ↓reduceIte, Nat.reduceAdd, Nat.reduceLT, Nat.reduceEqDiff, Nat.zero_add, gl0, Tryd.sz24, Tryd.ag24]
      cases hr : rightM (t, L)
      · rw [admM, hr] at c1
        refine Does.ret hκ.hP hκ.hgl (c1) ⟨trivial, by simp [SV.bnd, SV.bndL], by first | (simp [SV.bnd, SV.bndL]; done) | assumption⟩ ?_
        refine hκ.run 300 ?_
        simp (disch := omega) only [sBuiltin, exec_succ, runR_next, runR_fork_true, runR_guard_tf, runR_stop, stepS, runOp, guardS, condS, toSR, sop, rOf, sPick, sLoadIn, sLoad, sBin, sUn, sLen, ev, evs, Env.get, Heap.get, takeN, cut, aggOf, setO, OutOK_stop, undefS, undef, Bool.false_and, List.size_toArray, List.length_cons, List.length_nil, List.range, List.range.loop, List.getElem?_toArray, List.getElem?_cons_succ, List.getElem?_cons_zero, Option.bind_some, ↓reduceIte, Nat.reduceLT, Nat.reduceEqDiff, Nat.zero_add, Bool.not_false, and_self, gl0, Tryd.sz24, Tryd.ag24]
        refine hκ.ret _ _ _ _ _ _ trivial rfl ?_
        rfl
      have hsee := seenB_ofM hr
      cases ha : admB 0 L
      · rw [admM, hr, ha] at c1
        refine Does.ret hκ.hP hκ.hgl (c1) ⟨trivial, by simp [SV.bnd, SV.bndL], by first | (simp [SV.bnd, SV.bndL]; done) | assumption⟩ ?_
        refine hκ.run 300 ?_
        simp (disch := omega) only [sBuiltin, exec_succ, runR_next, runR_fork_true, runR_guard_tf, runR_stop, stepS, runOp, guardS, condS, toSR, sop, rOf, sPick, sLoadIn, sLoad, sBin, sUn, sLen, ev, evs, Env.get, Heap.get, takeN, cut, aggOf, setO, OutOK_stop, undefS, undef, Bool.and_false, List.size_toArray, List.length_cons, List.length_nil, List.range, List.range.loop, List.getElem?_toArray, List.getElem?_cons_succ, List.getElem?_cons_zero, Option.bind_some, ↓reduceIte, Nat.reduceLT, Nat.reduceEqDiff, Nat.zero_add, Bool.not_false, and_self, gl0, Tryd.sz24, Tryd.ag24]
        refine hκ.ret _ _ _ _ _ _ trivial rfl ?_
        rfl
      rw [admM, hr, ha] at c1
      rw [wholeM, hr, show L.all (wholeX L) = true from List.all_eq_true.2 fun x hx => by rw [wholeX, (hmm x hx).2.2]; rfl] at c2
      rw [idleM, hr, if_pos rfl] at c3
      refine Does.ret hκ.hP hκ.hgl (c1) ⟨trivial, by simp [SV.bnd, SV.bndL], by first | (simp [SV.bnd, SV.bndL]; done) | assumption⟩ ?_
      refine hκ.run 300 ?_
      simp (disch := omega) only [exec_succ, runR_next, runR_guard_ff, runR_call, stepS, runOp, guardS, toSR, sop, rOf, sLoadIn, sLoad, sUn, ev, evs, Env.get, Heap.get, takeN, cut, aggOf, setO, OutOK_call, undefS, undef, Bool.and_true, List.getElem?_toArray, List.getElem?_cons_succ, List.getElem?_cons_zero, Option.bind_some, ↓reduceIte, Nat.reduceLT, Nat.reduceEqDiff, Bool.not_true, Bool.not_false, and_self, gl0, Tryd.sz24, Tryd.ag24]
      refine Does.ret hκ.hP hκ.hgl (c3) ⟨trivial, by simp [SV.bnd, SV.bndL], by first | (simp [SV.bnd, SV.bndL]; done) | assumption⟩ ?_
      by_cases hi : idleL L = []
      · have hcnt := one_count hN8 (fun x hx => ⟨(hmm x hx).2.1, (hmm x hx).2.2, ((seenB_iff x).1 (hsee x hx)).2.2.2.2.1.1⟩) ha hi
        rw [hi]
        refine hκ.run 300 ?_
        simp (disch := omega) only [sBuiltin, sMinMax, exec_succ, runR_next, runR_fork_false, runR_guard_tt, runR_guard_ff, runR_call, stepS, runOp, guardS, condS, toSR, sop, rOf, sPick, sLoadIn, sLoad, sInt, sBin, sLen, ev, evs, Env.get, Heap.get, takeN, cut, aggOf, setO, OutOK_call, undefS, undef, Int.cast_ofNat_Int, Bool.false_eq_true, List.size_toArray, List.length_cons, List.length_nil, List.range, List.range.loop, List.getElem?_toArray, List.getElem?_cons_succ, List.getElem?_cons_zero, List.map_cons, List.map_nil, Option.bind_some, ↓reduceIte, Nat.reduceAdd, Nat.reduceLT, Nat.reduceEqDiff, Nat.zero_add, Int.reduceLT, Bool.not_true, Bool.not_false, decide_true, decide_false, and_self, gl0, Tryd.sz24, Tryd.ag24, Tryd.underlying27, hcnt]
        refine Does.ret hκ.hP hκ.hgl (c2) ⟨trivial, by simp [SV.bnd, SV.bndL], by first | (simp [SV.bnd, SV.bndL]; done) | assumption⟩ ?_
        refine hκ.run 300 ?_
        simp (disch := omega) only [exec_succ, runR_next, runR_stop, stepS, runOp, toSR, sop, rOf, sPick, ev, Env.get, setO, OutOK_stop, Bool.and_true, List.getElem?_toArray, List.getElem?_cons_succ, List.getElem?_cons_zero, ↓reduceIte, Nat.reduceLT, Nat.reduceEqDiff, gl0]
        refine hκ.ret _ _ _ _ _ _ trivial rfl ?_
        rfl
      · have hp := List.length_pos_iff.2 hi
        have e1 : ((0 : Int) < ((idleL L).length : Int)) = True := by first | (simp only [eq_iff_iff, iff_true]; first | assumption | omega) | (simp; omega)
        refine hκ.run 300 ?_
        simp (disch := omega) only [sBuiltin, exec_succ, runR_next, runR_fork_true, runR_guard_ff, runR_stop, stepS, runOp, guardS, condS, toSR, sop, rOf, sPick, sInt, sBin, sLen, ev, Env.get, setO, OutOK_stop, undefS, undef, List.size_toArray, List.length_cons, List.length_nil, List.length_map, List.range, List.range.loop, List.getElem?_toArray, List.getElem?_cons_succ, List.getElem?_cons_zero, Option.bind_some, ↓reduceIte, Nat.reduceLT, Nat.reduceEqDiff, Nat.zero_add, Bool.not_false, decide_true, and_self, gl0, Tryd.underlying27, e1]
        refine hκ.ret _ _ _ _ _ _ trivial rfl ?_
        rfl
end Go.Proofs.YtbjhphjpdeblnaaDoor

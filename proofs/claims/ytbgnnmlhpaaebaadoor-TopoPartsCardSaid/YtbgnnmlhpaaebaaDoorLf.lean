/- TopoMetric: the walk of the law. No condition. -/
import Derived.Test.YtbgnnmlhpaaebaaDoorLb
namespace Go.Proofs.YtbgnnmlhpaaebaaDoor
open Go Go.Sy
set_option maxRecDepth 100000
set_option linter.unusedSimpArgs false
set_option linter.unusedVariables false

theorem distN_sym (l : List Sea) (a b : Nat) : distN l b a = distN l a b := by
  rw [distN, distN]
  by_cases h1 : a = b
  · rw [if_pos h1, if_pos h1.symm]
  rw [if_neg h1, if_neg (fun h => h1 h.symm)]
  by_cases h2 : l.getD a default = l.getD b default
  · rw [if_pos h2, if_pos h2.symm]
  rw [if_neg h2, if_neg (fun h => h2 h.symm)]
  by_cases h3 : (l.getD a default).1 = (l.getD b default).1
  · rw [if_pos h3, if_pos h3.symm]
  · rw [if_neg h3, if_neg (fun h => h3 h.symm)]
theorem distN_zero (l : List Sea) (a b : Nat) : distN l a b = 0 ↔ a = b := by
  rw [distN]
  by_cases h1 : a = b
  · rw [if_pos h1]; simp [h1]
  · rw [if_neg h1]
    refine ⟨fun h => ?_, fun h => absurd h h1⟩
    split at h
    · cases h
    · split at h <;> cases h
theorem distN_one (l : List Sea) (a b : Nat) : distN l a b ≤ 1 ↔ l.getD b default = l.getD a default := by
  rw [distN]
  by_cases h1 : a = b
  · rw [if_pos h1]; subst h1; exact ⟨fun _ => rfl, fun _ => by decide⟩
  rw [if_neg h1]
  by_cases h2 : l.getD a default = l.getD b default
  · rw [if_pos h2]; exact ⟨fun _ => h2.symm, fun _ => by decide⟩
  · rw [if_neg h2]
    refine ⟨fun h => ?_, fun h => absurd h.symm h2⟩
    split at h <;> omega
theorem distN_two (l : List Sea) (a b : Nat) : distN l a b ≤ 2 ↔ (l.getD a default).1 = (l.getD b default).1 := by
  rw [distN]
  by_cases h1 : a = b
  · rw [if_pos h1]; subst h1; exact ⟨fun _ => rfl, fun _ => by decide⟩
  rw [if_neg h1]
  by_cases h2 : l.getD a default = l.getD b default
  · rw [if_pos h2]; exact ⟨fun _ => by rw [h2], fun _ => by decide⟩
  rw [if_neg h2]
  by_cases h3 : (l.getD a default).1 = (l.getD b default).1
  · rw [if_pos h3]; exact ⟨fun _ => h3, fun _ => by decide⟩
  · rw [if_neg h3]; exact ⟨fun h => absurd h (by decide), fun h => absurd h h3⟩
theorem distN_tri (l : List Sea) (a b c : Nat) : distN l a b ≤ max (distN l a c) (distN l c b) := by
  have z1 := distN_zero l a b
  have z2 := distN_zero l a c
  have z3 := distN_zero l c b
  have o1 := distN_one l a b
  have o2 := distN_one l a c
  have o3 := distN_one l c b
  have t1 := distN_two l a b
  have t2 := distN_two l a c
  have t3 := distN_two l c b
  have b1 := distN_bd l a b
  have b2 := distN_bd l a c
  have b3 := distN_bd l c b
  have h0 : distN l a c = 0 → distN l c b = 0 → distN l a b = 0 := fun h1 h2 => z1.2 ((z2.1 h1).trans (z3.1 h2))
  have h1 : distN l a c ≤ 1 → distN l c b ≤ 1 → distN l a b ≤ 1 := fun h1 h2 => o1.2 ((o3.1 h2).trans (o2.1 h1))
  have h2 : distN l a c ≤ 2 → distN l c b ≤ 2 → distN l a b ≤ 2 := fun h1 h2 => t1.2 ((t2.1 h1).trans (t3.1 h2))
  omega
theorem sib_has {l : List Sea} (ho : okTs l = true) {a b : Nat} (ha : a < l.length) (hb : b < l.length) : hasB (sibK l a) b = decide (distN l a b ≤ 1) := by
  have h8 := ((okTs_iff l).1 ho).2.2
  have hin : inN l a = true := (inN_iff _ _).2 (by omega)
  rw [sibK, if_pos hin, Int.toNat_natCast, qset, if_pos ho, hasB_nat (by omega), setK_bit, decide_eq_true hb, Bool.true_and, decide_eq_decide]
  exact (distN_one l a b).symm
theorem sib_lt (l : List Sea) (n : Int) : sibK l n < 256 := by
  rw [sibK]; split
  · exact qset_lt _ _
  · decide
theorem dist_nat (l : List Sea) (ho : okTs l = true) (hl : ∀ s ∈ l, inT s) (a b : Nat) (ha : a < l.length) (hb : b < l.length) : Con Tryd.prog gl0 (fnv 13) [To l, I a, I b] 0 [] (Ret (.tup [I (distN l a b), I 0])) := by
  have h8 := ((okTs_iff l).1 ho).2.2
  have h := Dist_ok l a b hl (by omega)
  have hd : distE l a b = 0 := by rw [distE, if_pos ho, if_pos ⟨(inN_iff _ _).2 (by omega), (inN_iff _ _).2 (by omega)⟩]
  rw [hd, if_pos rfl, Int.toNat_natCast, Int.toNat_natCast] at h
  exact h
theorem metric_law (x : List Sea) (hx : ∀ s ∈ x, inT s) (hn : x.length < 2 ^ 46) : Law Tryd.prog gl0 6 [To x] := by
  refine Law.of (nt := 111) (res := [.tmp 2]) Tryd.mixed Tryd.func6 rfl rfl rfl rfl fun κ xc hκ => hκ.run 300 ?_
  simp (disch := omega) only [exec_succ, runR_next, runR_call, stepS, runOp, toSR, sop, rOf, rNew, sBox, isArr, ev, evs, Env.get, cellsS, envOf, OutOK_call, Bool.false_eq_true, List.size_toArray, List.length_cons, List.length_nil, List.range, List.range.loop, List.getElem?_toArray, List.getElem?_cons_succ, List.getElem?_cons_zero, ↓reduceIte, Nat.reduceAdd, Nat.reduceLT, Nat.zero_add, gl0]
  refine Does.ret hκ.hP hκ.hgl (wakes_ok) ⟨trivial, by simp [SV.bnd, SV.bndL], by first | (simp [SV.bnd, SV.bndL]; done) | assumption⟩ ?_
  refine hκ.run 300 ?_
  simp (disch := omega) only [exec_succ, runR_next, runR_fork_false, runR_call, stepS, runOp, condS, toSR, sop, rOf, sLoadIn, sLoad, sUn, ev, evs, Env.get, Heap.get, takeN, cut, aggOf, setO, OutOK_call, List.size_toArray, List.length_cons, List.length_nil, List.range, List.range.loop, List.getElem?_toArray, List.getElem?_cons_succ, List.getElem?_cons_zero, ↓reduceIte, Nat.reduceAdd, Nat.reduceLT, Nat.reduceEqDiff, Nat.zero_add, Bool.not_true, gl0, Tryd.sz24, Tryd.ag24]
  have cx := short_ok x hn
  have ht := cut9_in hx
  have htl := cut9_len x
  generalize cut9 x = t at cx ht htl
  have c1 := tcheck_ok t ht (by omega)
  refine Does.ret hκ.hP hκ.hgl (cx) ⟨trivial, by simp [SV.bnd, SV.bndL], by first | (simp [SV.bnd, SV.bndL]; done) | assumption⟩ ?_
  refine hκ.run 300 ?_
  simp (disch := omega) only [exec_succ, runR_next, runR_need, runR_call, stepS, runOp, toSR, sop, rOf, rNew, sAlloc, sAlloc0, sLoadIn, sLoad, sStoreIn, sStore, ev, evs, svs, Env.get, Heap.get, Heap.set, takeN, cut, over, paste, aggOf, cellsS, one, ones, setO, OutOK_need, OutOK_call, undefS, undef, List.size_toArray, List.length_cons, List.length_nil, List.range, List.range.loop, List.getElem?_toArray, List.getElem?_cons_succ, List.getElem?_cons_zero, List.map_cons, List.map_nil, ↓reduceIte, Nat.reduceAdd, Nat.reduceLT, Nat.reduceEqDiff, Nat.zero_add, true_and, and_self, forall_const, gl0, Tryd.sz24, Tryd.ag24, Tryd.ze24, Tryd.ar24]
  cases ho : okTs t
  · rw [ho, if_neg (by decide)] at c1
    refine Does.ret hκ.hP hκ.hgl (c1) ⟨trivial, by simp [SV.bnd, SV.bndL], by first | (simp [SV.bnd, SV.bndL]; done) | assumption⟩ ?_
    refine hκ.run 300 ?_
    simp (disch := omega) only [exec_succ, runR_next, runR_fork_true, runR_stop, stepS, runOp, condS, toSR, sop, rOf, sInt, sBin, ev, Env.get, setO, OutOK_stop, List.size_toArray, List.length_cons, List.length_nil, List.range, List.range.loop, List.getElem?_toArray, List.getElem?_cons_succ, List.getElem?_cons_zero, ↓reduceIte, Nat.reduceLT, Nat.zero_add, Int.reduceEq, Bool.not_false, decide_false, gl0]
    refine hκ.ret _ _ _ _ _ _ trivial rfl ?_
    rfl
  rw [ho, if_pos rfl] at c1
  have hln : t.length < 2 ^ 40 := by omega
  refine Does.ret hκ.hP hκ.hgl (c1) ⟨trivial, by simp [SV.bnd, SV.bndL], by first | (simp [SV.bnd, SV.bndL]; done) | assumption⟩ ?_
  refine hκ.run 300 ?_
  simp (disch := omega) only [sBuiltin, exec_succ, runR_next, runR_fork_false, runR_stop, stepS, runOp, condS, toSR, sop, rOf, sLoadIn, sLoad, sInt, sBin, sFieldAddr, sLen, ev, Env.get, Heap.get, takeN, cut, aggOf, setO, OutOK_stop, List.size_toArray, List.length_cons, List.length_nil, List.length_map, List.range, List.range.loop, List.getElem?_toArray, List.getElem?_cons_succ, List.getElem?_cons_zero, ↓reduceIte, Nat.reduceAdd, Nat.reduceLT, Nat.reduceEqDiff, Nat.zero_add, Nat.add_zero, Nat.add_one_ne_zero, Bool.not_true, decide_true, gl0, Tryd.underlying22, Tryd.sz22, Tryd.ag22, Tryd.fd24f0]
  refine Sat.less (Sat.loop (γ := Nat) (fun a => ([(27, I a), (26, I t.length), (4, I t.length), (3, .ptr 1 0 0 0)], [(1, .own [Ss t] 24)], 2)) (fun a => t.length - a) (fun a => a ≤ t.length) ?round 0 (Nat.zero_le _)) (by repeat' (first | exact EnvSub.nil _ | exact HeapSub.nil _ | refine EnvSub.cons rfl ?_ | refine HeapSub.cons rfl ?_ | (refine EnvSub.cons (by simp [Env.get]; done) ?_) | (refine HeapSub.cons (by simp [Heap.get]; done) ?_))) (by repeat' (first | exact EnvSub.nil _ | exact HeapSub.nil _ | refine EnvSub.cons rfl ?_ | refine HeapSub.cons rfl ?_ | (refine EnvSub.cons (by simp [Env.get]; done) ?_) | (refine HeapSub.cons (by simp [Heap.get]; done) ?_)))
  case round =>
    intro a hat ih
    dsimp only at hat ih ⊢
    refine hκ.run 300 ?_
    simp (disch := omega) only [exec_succ, runR_next, stepS, runOp, condS, toSR, sop, sInt, sBin, ev, Env.get, List.size_toArray, List.length_cons, List.length_nil, List.range, List.range.loop, List.getElem?_toArray, List.getElem?_cons_zero, ↓reduceIte, Nat.reduceLT, Nat.reduceEqDiff, Nat.zero_add, gl0]
    refine OutOK_fork (fun h => ?_) (fun h => ?_) <;> try simp only [Bool.not_true, Bool.not_false, decide_eq_true_eq, decide_eq_false_iff_not, Bool.not_eq_true', Bool.not_eq_false', Bool.and_eq_true, Bool.or_eq_false_iff, Bool.or_eq_true, Bool.and_eq_false_iff] at h
    · have hz := ih (a + 1) (by omega) (by omega)
      clear ih
      simp (disch := omega) only [exec_succ, runR_next, runR_stop, stepS, runOp, toSR, sop, rOf, ev, Env.get, OutOK_stop, List.size_toArray, List.length_cons, List.length_nil, List.range, List.range.loop, List.getElem?_toArray, List.getElem?_cons_succ, List.getElem?_cons_zero, ↓reduceIte, Nat.reduceAdd, Nat.reduceLT, Nat.reduceEqDiff, Nat.zero_add]
      refine Sat.less (Sat.loop (γ := Nat) (fun b => ([(31, I b), (30, I t.length), (5, I a), (27, I a), (26, I t.length), (4, I t.length), (3, .ptr 1 0 0 0)], [(1, .own [Ss t] 24)], 2)) (fun b => t.length - b) (fun b => b ≤ t.length) ?mid 0 (Nat.zero_le _)) (by repeat' (first | exact EnvSub.nil _ | exact HeapSub.nil _ | refine EnvSub.cons rfl ?_ | refine HeapSub.cons rfl ?_ | (refine EnvSub.cons (by simp [Env.get]; done) ?_) | (refine HeapSub.cons (by simp [Heap.get]; done) ?_))) (by repeat' (first | exact EnvSub.nil _ | exact HeapSub.nil _ | refine EnvSub.cons rfl ?_ | refine HeapSub.cons rfl ?_ | (refine EnvSub.cons (by simp [Env.get]; done) ?_) | (refine HeapSub.cons (by simp [Heap.get]; done) ?_)))
      case mid =>
        intro b hbt ihb
        dsimp only at hbt ihb ⊢
        refine hκ.run 300 ?_
        simp (disch := omega) only [exec_succ, runR_next, stepS, runOp, condS, toSR, sop, sInt, sBin, ev, Env.get, List.size_toArray, List.length_cons, List.length_nil, List.range, List.range.loop, List.getElem?_toArray, List.getElem?_cons_zero, ↓reduceIte, Nat.reduceLT, Nat.reduceEqDiff, Nat.zero_add, gl0]
        refine OutOK_fork (fun h => ?_) (fun h => ?_) <;> try simp only [Bool.not_true, Bool.not_false, decide_eq_true_eq, decide_eq_false_iff_not, Bool.not_eq_true', Bool.not_eq_false', Bool.and_eq_true, Bool.or_eq_false_iff, Bool.or_eq_true, Bool.and_eq_false_iff] at h
        · have hy := ihb (b + 1) (by omega) (by omega)
          clear ihb
          have d1 := dist_nat t ho ht a b (by omega) (by omega)
          have d2 := dist_nat t ho ht b a (by omega) (by omega)
          rw [distN_sym] at d2
          have c2 := sib_ok t a ht hln
          have hsl := sib_lt t a
          have c3 := has_ok (sibK t a) b (by omega) (by omega)
          rw [sib_has ho (by omega) (by omega)] at c3
          have hz0 := distN_zero t a b
          have htri := fun c => distN_tri t a b c
          have hbd := distN_bd t a b
          generalize distN t a b = d at d1 d2 c3 hz0 htri hbd
          generalize sibK t a = sb at c2 c3
          simp (disch := omega) only [exec_succ, runR_next, runR_call, stepS, runOp, toSR, sop, rOf, sLoadIn, sLoad, ev, evs, Env.get, Heap.get, takeN, cut, aggOf, OutOK_call, List.size_toArray, List.length_cons, List.length_nil, List.range, List.range.loop, List.getElem?_toArray, List.getElem?_cons_succ, List.getElem?_cons_zero, ↓reduceIte, Nat.reduceAdd, Nat.reduceLT, Nat.reduceEqDiff, Nat.zero_add, Tryd.sz24, Tryd.ag24]
          refine Does.ret hκ.hP hκ.hgl (d1) ⟨trivial, by simp [SV.bnd, SV.bndL], by first | (simp [SV.bnd, SV.bndL]; done) | assumption⟩ ?_
          refine hκ.run 300 ?_
          simp (disch := omega) only [exec_succ, runR_next, runR_call, stepS, runOp, toSR, sop, rOf, sLoadIn, sLoad, sExtract, ev, evs, Env.get, Heap.get, takeN, cut, aggOf, setO, OutOK_call, List.size_toArray, List.length_cons, List.length_nil, List.range, List.range.loop, List.getElem?_toArray, List.getElem?_cons_succ, List.getElem?_cons_zero, ↓reduceIte, Nat.reduceAdd, Nat.reduceLT, Nat.reduceEqDiff, Nat.zero_add, gl0, Tryd.sz24, Tryd.ag24]
          refine Does.ret hκ.hP hκ.hgl (d2) ⟨trivial, by simp [SV.bnd, SV.bndL], by first | (simp [SV.bnd, SV.bndL]; done) | assumption⟩ ?_
          refine hκ.runA 15 300 ?_
          simp (disch := omega) only [runR_next, stepS, runOp, toSR, sop, rOf, sExtract, ev, Env.get, setO, OutOK_stop, halt, isAt, atC, execA_succ, List.getElem?_toArray, List.getElem?_cons_succ, List.getElem?_cons_zero, ↓reduceIte, Nat.reduceLT, Nat.reduceEqDiff, beq_self_eq_true, gl0]
          apply Sat.join (α := Unit) (nx := 2) (dfs := []) (fun _ => True) (fun _ => ([(7, I d), (6, I b), (31, I b), (30, I t.length), (5, I a), (27, I a), (26, I t.length), (4, I t.length), (3, .ptr 1 0 0 0)], [(1, .own [Ss t] 24)]))
          · intro hj
            have hj := hj () trivial
            dsimp only at hj
            by_cases e : a = b
            · have e1 : ((a : Int) = (b : Int)) = True := by first | (simp only [eq_iff_iff, iff_true]; first | assumption | omega) | (simp; omega)
              have e2 : (d = 0) = True := eq_true (hz0.2 e)
              have e3 : d ≤ 1 := by rw [hz0.2 e]; decide
              rw [decide_eq_true e3] at c3
              refine hκ.runA 17 300 ?_
              simp (disch := omega) only [runR_next, runR_need, runR_guard_ff, runR_call, stepS, runOp, guardS, toSR, sop, rOf, sPick, sLoadIn, sLoad, sInt, sEq, sEqR, sBin, ev, evs, Env.get, Heap.get, takeN, cut, aggOf, OutOK_need, OutOK_call, undefS, undef, halt, isAt, atC, execA_succ, List.size_toArray, List.length_cons, List.length_nil, List.range, List.range.loop, List.getElem?_toArray, List.getElem?_cons_succ, List.getElem?_cons_zero, Option.bind_some, ↓reduceIte, Nat.reduceAdd, Nat.reduceLT, Nat.reduceEqDiff, Nat.zero_add, Nat.reduceBEq, Bool.not_true, Bool.not_false, decide_true, beq_self_eq_true, true_and, and_self, forall_const, gl0, Tryd.underlying4, Tryd.sz24, Tryd.ag24, e1, e2]
              refine Does.ret hκ.hP hκ.hgl (c2) ⟨trivial, by simp [SV.bnd, SV.bndL], by first | (simp [SV.bnd, SV.bndL]; done) | assumption⟩ ?_
              refine hκ.runA 17 300 ?_
              simp (disch := omega) only [runR_next, runR_guard_ff, runR_call, stepS, runOp, guardS, toSR, sop, rOf, ev, evs, Env.get, setO, OutOK_call, undefS, undef, halt, isAt, execA_succ, List.getElem?_toArray, List.getElem?_cons_succ, List.getElem?_cons_zero, Option.bind_some, ↓reduceIte, Nat.reduceLT, Nat.reduceEqDiff, Bool.not_false, and_self, gl0]
              refine Does.ret hκ.hP hκ.hgl (c3) ⟨trivial, by simp [SV.bnd, SV.bndL], by first | (simp [SV.bnd, SV.bndL]; done) | assumption⟩ ?_
              refine hκ.runA 17 300 ?_
              simp (disch := omega) only [runR_next, runR_need, runR_fork_false, runR_guard_ff, stepS, runOp, guardS, condS, toSR, sop, rOf, sPick, sInt, sEq, sEqR, sBin, ev, Env.get, setO, OutOK_need, OutOK_stop, undefS, undef, halt, isAt, atC, execA_succ, List.getElem?_toArray, List.getElem?_cons_succ, List.getElem?_cons_zero, Option.bind_some, ↓reduceIte, Nat.reduceLT, Nat.reduceEqDiff, Bool.not_true, Bool.not_false, decide_true, beq_self_eq_true, true_and, and_self, forall_const, gl0, Tryd.underlying4, e3]
              exact hj.less (by repeat' (first | exact EnvSub.nil _ | exact HeapSub.nil _ | refine EnvSub.cons rfl ?_ | refine HeapSub.cons rfl ?_ | (refine EnvSub.cons (by simp [Env.get]; done) ?_) | (refine HeapSub.cons (by simp [Heap.get]; done) ?_))) (by repeat' (first | exact EnvSub.nil _ | exact HeapSub.nil _ | refine EnvSub.cons rfl ?_ | refine HeapSub.cons rfl ?_ | (refine EnvSub.cons (by simp [Env.get]; done) ?_) | (refine HeapSub.cons (by simp [Heap.get]; done) ?_)))
            · have e1 : ((a : Int) = (b : Int)) = False := by first | (simp only [eq_iff_iff, iff_false]; first | assumption | omega) | (simp; omega)
              have e2 : (d = 0) = False := eq_false (fun h => e (hz0.1 h))
              by_cases e3 : d ≤ 1
              · rw [decide_eq_true e3] at c3
                refine hκ.runA 17 300 ?_
                simp (disch := omega) only [runR_next, runR_need, runR_guard_ff, runR_call, stepS, runOp, guardS, toSR, sop, rOf, sPick, sLoadIn, sLoad, sInt, sEq, sEqR, sBin, ev, evs, Env.get, Heap.get, takeN, cut, aggOf, OutOK_need, OutOK_call, undefS, undef, halt, isAt, atC, execA_succ, List.size_toArray, List.length_cons, List.length_nil, List.range, List.range.loop, List.getElem?_toArray, List.getElem?_cons_succ, List.getElem?_cons_zero, Option.bind_some, ↓reduceIte, Nat.reduceAdd, Nat.reduceLT, Nat.reduceEqDiff, Nat.zero_add, Nat.reduceBEq, Bool.not_true, Bool.not_false, decide_true, decide_false, beq_self_eq_true, true_and, and_self, forall_const, gl0, Tryd.underlying4, Tryd.sz24, Tryd.ag24, e1, e2]
                refine Does.ret hκ.hP hκ.hgl (c2) ⟨trivial, by simp [SV.bnd, SV.bndL], by first | (simp [SV.bnd, SV.bndL]; done) | assumption⟩ ?_
                refine hκ.runA 17 300 ?_
                simp (disch := omega) only [runR_next, runR_guard_ff, runR_call, stepS, runOp, guardS, toSR, sop, rOf, ev, evs, Env.get, setO, OutOK_call, undefS, undef, halt, isAt, execA_succ, List.getElem?_toArray, List.getElem?_cons_succ, List.getElem?_cons_zero, Option.bind_some, ↓reduceIte, Nat.reduceLT, Nat.reduceEqDiff, Bool.not_false, and_self, gl0]
                refine Does.ret hκ.hP hκ.hgl (c3) ⟨trivial, by simp [SV.bnd, SV.bndL], by first | (simp [SV.bnd, SV.bndL]; done) | assumption⟩ ?_
                refine hκ.runA 17 300 ?_
                simp (disch := omega) only [runR_next, runR_need, runR_fork_false, runR_guard_ff, stepS, runOp, guardS, condS, toSR, sop, rOf, sPick, sInt, sEq, sEqR, sBin, ev, Env.get, setO, OutOK_need, OutOK_stop, undefS, undef, halt, isAt, atC, execA_succ, List.getElem?_toArray, List.getElem?_cons_succ, List.getElem?_cons_zero, Option.bind_some, ↓reduceIte, Nat.reduceLT, Nat.reduceEqDiff, Bool.not_true, Bool.not_false, decide_true, beq_self_eq_true, true_and, and_self, forall_const, gl0, Tryd.underlying4, e3]
                exact hj.less (by repeat' (first | exact EnvSub.nil _ | exact HeapSub.nil _ | refine EnvSub.cons rfl ?_ | refine HeapSub.cons rfl ?_ | (refine EnvSub.cons (by simp [Env.get]; done) ?_) | (refine HeapSub.cons (by simp [Heap.get]; done) ?_))) (by repeat' (first | exact EnvSub.nil _ | exact HeapSub.nil _ | refine EnvSub.cons rfl ?_ | refine HeapSub.cons rfl ?_ | (refine EnvSub.cons (by simp [Env.get]; done) ?_) | (refine HeapSub.cons (by simp [Heap.get]; done) ?_)))
              · rw [decide_eq_false e3] at c3
                refine hκ.runA 17 300 ?_
                simp (disch := omega) only [runR_next, runR_need, runR_guard_ff, runR_call, stepS, runOp, guardS, toSR, sop, rOf, sPick, sLoadIn, sLoad, sInt, sEq, sEqR, sBin, ev, evs, Env.get, Heap.get, takeN, cut, aggOf, OutOK_need, OutOK_call, undefS, undef, halt, isAt, atC, execA_succ, List.size_toArray, List.length_cons, List.length_nil, List.range, List.range.loop, List.getElem?_toArray, List.getElem?_cons_succ, List.getElem?_cons_zero, Option.bind_some, ↓reduceIte, Nat.reduceAdd, Nat.reduceLT, Nat.reduceEqDiff, Nat.zero_add, Nat.reduceBEq, Bool.not_true, Bool.not_false, decide_true, decide_false, beq_self_eq_true, true_and, and_self, forall_const, gl0, Tryd.underlying4, Tryd.sz24, Tryd.ag24, e1, e2]
                refine Does.ret hκ.hP hκ.hgl (c2) ⟨trivial, by simp [SV.bnd, SV.bndL], by first | (simp [SV.bnd, SV.bndL]; done) | assumption⟩ ?_
                refine hκ.runA 17 300 ?_
                simp (disch := omega) only [runR_next, runR_guard_ff, runR_call, stepS, runOp, guardS, toSR, sop, rOf, ev, evs, Env.get, setO, OutOK_call, undefS, undef, halt, isAt, execA_succ, List.getElem?_toArray, List.getElem?_cons_succ, List.getElem?_cons_zero, Option.bind_some, ↓reduceIte, Nat.reduceLT, Nat.reduceEqDiff, Bool.not_false, and_self, gl0]
                refine Does.ret hκ.hP hκ.hgl (c3) ⟨trivial, by simp [SV.bnd, SV.bndL], by first | (simp [SV.bnd, SV.bndL]; done) | assumption⟩ ?_
                refine hκ.runA 17 300 ?_
                simp (disch := omega) only [runR_next, runR_need, runR_fork_false, runR_guard_ff, stepS, runOp, guardS, condS, toSR, sop, rOf, sPick, sInt, sEq, sEqR, sBin, ev, Env.get, setO, OutOK_need, OutOK_stop, undefS, undef, halt, isAt, atC, execA_succ, List.getElem?_toArray, List.getElem?_cons_succ, List.getElem?_cons_zero, Option.bind_some, ↓reduceIte, Nat.reduceLT, Nat.reduceEqDiff, Bool.not_true, Bool.not_false, decide_false, beq_self_eq_true, true_and, and_self, forall_const, gl0, Tryd.underlying4, e3]
                exact hj.less (by repeat' (first | exact EnvSub.nil _ | exact HeapSub.nil _ | refine EnvSub.cons rfl ?_ | refine HeapSub.cons rfl ?_ | (refine EnvSub.cons (by simp [Env.get]; done) ?_) | (refine HeapSub.cons (by simp [Heap.get]; done) ?_))) (by repeat' (first | exact EnvSub.nil _ | exact HeapSub.nil _ | refine EnvSub.cons rfl ?_ | refine HeapSub.cons rfl ?_ | (refine EnvSub.cons (by simp [Env.get]; done) ?_) | (refine HeapSub.cons (by simp [Heap.get]; done) ?_)))
          intro _ _
          dsimp only
          clear c2 c3 d1 d2
          refine hκ.run 300 ?_
          simp (disch := omega) only [exec_succ, runR_next, runR_stop, stepS, runOp, toSR, sop, rOf, ev, Env.get, OutOK_stop, List.size_toArray, List.length_cons, List.length_nil, List.range, List.range.loop, List.getElem?_toArray, List.getElem?_cons_succ, List.getElem?_cons_zero, ↓reduceIte, Nat.reduceAdd, Nat.reduceLT, Nat.reduceEqDiff, Nat.zero_add, gl0]
          refine Sat.less (Sat.loop (γ := Nat) (fun c => ([(78, I c), (77, I t.length), (7, I d), (6, I b), (31, I b), (30, I t.length), (5, I a), (27, I a), (26, I t.length), (4, I t.length), (3, .ptr 1 0 0 0)], [(1, .own [Ss t] 24)], 2)) (fun c => t.length - c) (fun c => c ≤ t.length) ?inner 0 (Nat.zero_le _)) (by repeat' (first | exact EnvSub.nil _ | exact HeapSub.nil _ | refine EnvSub.cons rfl ?_ | refine HeapSub.cons rfl ?_ | (refine EnvSub.cons (by simp [Env.get]; done) ?_) | (refine HeapSub.cons (by simp [Heap.get]; done) ?_))) (by repeat' (first | exact EnvSub.nil _ | exact HeapSub.nil _ | refine EnvSub.cons rfl ?_ | refine HeapSub.cons rfl ?_ | (refine EnvSub.cons (by simp [Env.get]; done) ?_) | (refine HeapSub.cons (by simp [Heap.get]; done) ?_)))
          case inner =>
            intro c hct ihc
            dsimp only at hct ihc ⊢
            refine hκ.run 300 ?_
            simp (disch := omega) only [exec_succ, runR_next, stepS, runOp, condS, toSR, sop, sInt, sBin, ev, Env.get, List.size_toArray, List.length_cons, List.length_nil, List.range, List.range.loop, List.getElem?_toArray, List.getElem?_cons_zero, ↓reduceIte, Nat.reduceLT, Nat.reduceEqDiff, Nat.zero_add, gl0]
            refine OutOK_fork (fun h => ?_) (fun h => ?_) <;> try simp only [Bool.not_true, Bool.not_false, decide_eq_true_eq, decide_eq_false_iff_not, Bool.not_eq_true', Bool.not_eq_false', Bool.and_eq_true, Bool.or_eq_false_iff, Bool.or_eq_true, Bool.and_eq_false_iff] at h
            · have hw := ihc (c + 1) (by omega) (by omega)
              clear ihc
              have p1 := dist_nat t ho ht a c (by omega) (by omega)
              have p2 := dist_nat t ho ht c b (by omega) (by omega)
              have htri := htri c
              generalize distN t a c = p at p1 htri
              generalize distN t c b = q at p2 htri
              have e1 : (max p q < d) = False := by first | (simp only [eq_iff_iff, iff_false]; first | assumption | omega) | (simp; omega)
              simp (disch := omega) only [exec_succ, runR_next, runR_call, stepS, runOp, toSR, sop, rOf, sLoadIn, sLoad, ev, evs, Env.get, Heap.get, takeN, cut, aggOf, OutOK_call, List.size_toArray, List.length_cons, List.length_nil, List.range, List.range.loop, List.getElem?_toArray, List.getElem?_cons_succ, List.getElem?_cons_zero, ↓reduceIte, Nat.reduceAdd, Nat.reduceLT, Nat.reduceEqDiff, Nat.zero_add, Tryd.sz24, Tryd.ag24]
              refine Does.ret hκ.hP hκ.hgl (p1) ⟨trivial, by simp [SV.bnd, SV.bndL], by first | (simp [SV.bnd, SV.bndL]; done) | assumption⟩ ?_
              refine hκ.run 300 ?_
              simp (disch := omega) only [exec_succ, runR_next, runR_call, stepS, runOp, toSR, sop, rOf, sLoadIn, sLoad, sExtract, ev, evs, Env.get, Heap.get, takeN, cut, aggOf, setO, OutOK_call, List.size_toArray, List.length_cons, List.length_nil, List.range, List.range.loop, List.getElem?_toArray, List.getElem?_cons_succ, List.getElem?_cons_zero, ↓reduceIte, Nat.reduceAdd, Nat.reduceLT, Nat.reduceEqDiff, Nat.zero_add, gl0, Tryd.sz24, Tryd.ag24]
              refine Does.ret hκ.hP hκ.hgl (p2) ⟨trivial, by simp [SV.bnd, SV.bndL], by first | (simp [SV.bnd, SV.bndL]; done) | assumption⟩ ?_
              refine hκ.run 300 ?_
              simp (disch := omega) only [sBuiltin, sMinMax, exec_succ, runR_next, runR_guard_ff, stepS, runOp, guardS, condS, toSR, sop, rOf, sPick, sInt, sBin, sExtract, ev, Env.get, setO, undefS, undef, List.size_toArray, List.length_cons, List.length_nil, List.range, List.range.loop, List.getElem?_toArray, List.getElem?_cons_succ, List.getElem?_cons_zero, List.map_cons, List.map_nil, Option.bind_some, ↓reduceIte, Nat.reduceAdd, Nat.reduceLT, Nat.reduceEqDiff, Nat.zero_add, Bool.not_true, Bool.not_false, decide_true, and_self, gl0]
              simp (disch := omega) only [exec_succ, runR_next, runR_fork_false, runR_stop, stepS, runOp, toSR, sop, rOf, sInt, sBin, ev, Env.get, OutOK_stop, List.size_toArray, List.length_cons, List.length_nil, List.range, List.range.loop, List.getElem?_toArray, List.getElem?_cons_succ, List.getElem?_cons_zero, ↓reduceIte, Nat.reduceAdd, Nat.reduceLT, Nat.reduceEqDiff, Nat.zero_add, decide_false, wrap_i64, e1]
              exact hw.less (by repeat' (first | exact EnvSub.nil _ | exact HeapSub.nil _ | refine EnvSub.cons rfl ?_ | refine HeapSub.cons rfl ?_ | (refine EnvSub.cons (by simp [Env.get]; done) ?_) | (refine HeapSub.cons (by simp [Heap.get]; done) ?_))) (by repeat' (first | exact EnvSub.nil _ | exact HeapSub.nil _ | refine EnvSub.cons rfl ?_ | refine HeapSub.cons rfl ?_ | (refine EnvSub.cons (by simp [Env.get]; done) ?_) | (refine HeapSub.cons (by simp [Heap.get]; done) ?_)))
            · simp (disch := omega) only [exec_succ, runR_next, runR_stop, stepS, runOp, goS, toSR, sop, rOf, sInt, sBin, ev, Env.get, exitTo, OutOK_stop, List.size_toArray, List.length_cons, List.length_nil, List.range, List.range.loop, List.getElem?_toArray, List.getElem?_cons_succ, List.getElem?_cons_zero, ↓reduceIte, Nat.reduceAdd, Nat.reduceLT, Nat.reduceEqDiff, Nat.zero_add, beq_self_eq_true, wrap_i64]
              exact hy.less (by repeat' (first | exact EnvSub.nil _ | exact HeapSub.nil _ | refine EnvSub.cons rfl ?_ | refine HeapSub.cons rfl ?_ | (refine EnvSub.cons (by simp [Env.get]; done) ?_) | (refine HeapSub.cons (by simp [Heap.get]; done) ?_))) (by repeat' (first | exact EnvSub.nil _ | exact HeapSub.nil _ | refine EnvSub.cons rfl ?_ | refine HeapSub.cons rfl ?_ | (refine EnvSub.cons (by simp [Env.get]; done) ?_) | (refine HeapSub.cons (by simp [Heap.get]; done) ?_)))
        · simp (disch := omega) only [exec_succ, runR_next, runR_stop, stepS, runOp, goS, toSR, sop, rOf, sInt, sBin, ev, Env.get, exitTo, OutOK_stop, List.size_toArray, List.length_cons, List.length_nil, List.range, List.range.loop, List.getElem?_toArray, List.getElem?_cons_succ, List.getElem?_cons_zero, ↓reduceIte, Nat.reduceAdd, Nat.reduceLT, Nat.reduceEqDiff, Nat.zero_add, beq_self_eq_true, wrap_i64]
          exact hz.less (by repeat' (first | exact EnvSub.nil _ | exact HeapSub.nil _ | refine EnvSub.cons rfl ?_ | refine HeapSub.cons rfl ?_ | (refine EnvSub.cons (by simp [Env.get]; done) ?_) | (refine HeapSub.cons (by simp [Heap.get]; done) ?_))) (by repeat' (first | exact EnvSub.nil _ | exact HeapSub.nil _ | refine EnvSub.cons rfl ?_ | refine HeapSub.cons rfl ?_ | (refine EnvSub.cons (by simp [Env.get]; done) ?_) | (refine HeapSub.cons (by simp [Heap.get]; done) ?_)))
    · simp (disch := omega) only [exec_succ, runR_next, runR_stop, stepS, runOp, goS, toSR, sop, rOf, ev, exitTo, OutOK_stop, List.size_toArray, List.length_cons, List.length_nil, List.range, List.range.loop, List.getElem?_toArray, List.getElem?_cons_zero, ↓reduceIte, Nat.reduceLT, Nat.zero_add, beq_self_eq_true]
      refine hκ.ret _ _ _ _ _ _ trivial rfl ?_
      rfl
end Go.Proofs.YtbgnnmlhpaaebaaDoor

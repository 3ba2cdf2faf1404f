/- Moments: admissible ones, whole ones, idle pCPUs, as the document says them. No condition. -/
import Derived.Test.YtbjhphjpdeblnaaDoorBa
namespace Go.Proofs.YtbjhphjpdeblnaaDoor
open Go Go.Sy
set_option maxRecDepth 100000
set_option linter.unusedSimpArgs false
set_option linter.unusedVariables false

theorem radmits_ok (m : Mo) (hm : inM m) (hr : rightM m = true) : Con Tryd.prog gl0 (fnv 10) [.agg (eM m)] 0 [] (Ret (Bo (admB 0 m.2))) := by
  have hsee := seenB_ofM hr
  obtain ⟨t, l⟩ := m
  obtain ⟨hm1, hm2, hm3⟩ := hm
  dsimp only at hm1 hm2 hm3 hsee ⊢
  refine Con.of Tryd.ok10 (nt := 50) (res := [.tmp 2]) Tryd.mixed Tryd.func10 rfl rfl rfl rfl fun κ xc hκ => hκ.run 300 ?_
  simp (disch := omega) only [exec_succ, runR_next, runR_stop, stepS, runOp, toSR, sop, rOf, rNew, sBox, isArr, ev, Env.get, cellsS, envOf, OutOK_stop, Bool.false_eq_true, List.size_toArray, List.length_cons, List.length_nil, List.range, List.range.loop, List.getElem?_toArray, List.getElem?_cons_succ, List.getElem?_cons_zero, ↓reduceIte, Nat.reduceAdd, Nat.reduceLT, Nat.zero_add, gl0, eM]
  refine Sat.less (Sat.loop (γ := Nat) (fun k => ([(3, I k), (1, .ptr 0 0 0 0)], [(0, .own [I t, Xs l] 24)], 1)) (fun k => l.length - k) (fun k => k ≤ l.length ∧ admB (takN (l.take k)) (l.drop k) = admB 0 l) ?round 0 ⟨Nat.zero_le _, rfl⟩) (by repeat' (first | exact EnvSub.nil _ | exact HeapSub.nil _ | refine EnvSub.cons rfl ?_ | refine HeapSub.cons rfl ?_ | (refine EnvSub.cons (by simp [Env.get]; done) ?_) | (refine HeapSub.cons (by simp [Heap.get]; done) ?_))) (by repeat' (first | exact EnvSub.nil _ | exact HeapSub.nil _ | refine EnvSub.cons rfl ?_ | refine HeapSub.cons rfl ?_ | (refine EnvSub.cons (by simp [Env.get]; done) ?_) | (refine HeapSub.cons (by simp [Heap.get]; done) ?_)))
  case round =>
    rintro k ⟨hk, hj⟩ ih
    dsimp only at hk hj ih ⊢
    refine hκ.run 300 ?_
    simp (disch := omega) only [sBuiltin, exec_succ, runR_next, stepS, runOp, condS, toSR, sop, rOf, sLoadIn, sLoad, sInt, sBin, sFieldAddr, sLen, ev, Env.get, Heap.get, takeN, cut, aggOf, List.size_toArray, List.length_cons, List.length_nil, List.length_map, List.range, List.range.loop, List.getElem?_toArray, List.getElem?_cons_succ, List.getElem?_cons_zero, ↓reduceIte, Nat.reduceAdd, Nat.reduceLT, Nat.reduceEqDiff, Nat.zero_add, Nat.add_one_ne_zero, gl0, Tryd.underlying22, Tryd.sz22, Tryd.ag22, Tryd.fd24f1]
    refine OutOK_fork (fun h => ?_) (fun h => ?_) <;> try simp only [Bool.not_true, Bool.not_false, decide_eq_true_eq, decide_eq_false_iff_not, Bool.not_eq_true', Bool.not_eq_false', Bool.and_eq_true, Bool.or_eq_false_iff, Bool.or_eq_true, Bool.and_eq_false_iff] at h
    · have hxm := getD_mem (show k < l.length by omega)
      have hx := hm2 _ hxm
      have hxs := (seenB_iff _).1 (hsee _ hxm)
      have hz := fun h => ih (k + 1) ⟨by omega, h⟩ (by omega)
      rw [adm_step (by omega) (hsee _ hxm)] at hj
      simp (disch := omega) only [exec_succ, runR_next, runR_need, stepS, runOp, condS, toSR, sop, rOf, rNew, sAlloc, sAlloc0, sLoadIn, sLoad, sStoreIn, sStore, sInt, sBin, sFieldAddr, sIndexAddr, elemT, obind, ev, svs, Env.get, Heap.get, Heap.set, takeN, cut, over, paste, aggOf, cellsS, one, ones, Value.oneCell', OutOK_need, undefS, undef, List.size_toArray, List.length_cons, List.length_nil, List.length_map, List.range, List.range.loop, List.getElem?_toArray, List.getElem?_cons_succ, List.getElem?_cons_zero, List.map_cons, List.map_nil, ↓reduceIte, Nat.reduceAdd, Nat.reduceLT, Nat.reduceEqDiff, Nat.zero_add, Nat.add_one_ne_zero, Int.toNat_natCast, true_and, and_self, forall_const, getD_map, Tryd.sz3, Tryd.ag3, Tryd.underlying22, Tryd.sz22, Tryd.ag22, Tryd.fd24f1, Tryd.sz33, Tryd.ag33, Tryd.ze33, Tryd.ar33, Tryd.fd33f4, eX]
      (repeat (refine ⟨by first | omega | (refine ⟨?_, ?_⟩ <;> omega) | trivial | (simp; done) | decide +kernel, fun _ => ?_⟩))
      generalize hxx : l.getD k default = x at hx hxs hj ⊢
      have c2 := rhas_ok x.m x.c
      by_cases e1 : x.c < 0
      · rw [if_pos e1] at hj
        have hy := hz hj
        simp (disch := omega) only [exec_succ, runR_next, runR_fork_true, runR_stop, stepS, runOp, goS, toSR, sop, rOf, sInt, sBin, ev, Env.get, exitTo, OutOK_stop, List.size_toArray, List.length_cons, List.length_nil, List.range, List.range.loop, List.getElem?_toArray, List.getElem?_cons_succ, List.getElem?_cons_zero, ↓reduceIte, Nat.reduceAdd, Nat.reduceLT, Nat.reduceEqDiff, Nat.zero_add, decide_true, beq_self_eq_true, wrap_i64, e1]
        refine Sat.via (fun i => i) (hy) (by intro i j; (repeat (first | omega | split))) (by repeat' (first | exact EnvVia.nil | refine EnvVia.cons (by first | trivial | decide | (simp [SV.bnd, SV.bndL]; done)) rfl ?_)) (by repeat' (first | exact HeapVia.nil | refine HeapVia.cons (by decide) (by first | trivial | (simp [Blk.bnd, SV.bnd, SV.bndL]; done) | exact bndL_mapV _ _ _ | exact LR.bnd (by rw [l2]; simp [bndE, SV.bnd, SV.bndL]) (by rw [l6]; decide)) (by first | rfl | (simp only [Blk.ren, renL_mapV]; rfl) | (rw [LR.ren (by rw [l2] <;> rfl) (by rw [l6] <;> rfl)]; rfl)) ?_)) ⟨by have := hκ.hm; (try dsimp only at this); (first | done | omega), fun i hi => by have := hκ.hm; (try dsimp only at this); (first | omega | (dsimp only; omega) | (rw [if_neg (by omega)]))⟩ ⟨by simp, rfl⟩
      rw [if_neg e1] at hj
      simp (disch := omega) only [exec_succ, runR_next, runR_fork_false, stepS, runOp, guardS, toSR, sop, rOf, sLoadIn, sLoad, sUn, sFieldAddr, ev, Env.get, Heap.get, takeN, cut, aggOf, undefS, undef, List.size_toArray, List.length_cons, List.length_nil, List.range, List.range.loop, List.getElem?_toArray, List.getElem?_cons_succ, List.getElem?_cons_zero, Option.bind_some, ↓reduceIte, Nat.reduceAdd, Nat.reduceLT, Nat.reduceEqDiff, Nat.zero_add, Nat.add_one_ne_zero, Bool.not_false, decide_false, and_self, Tryd.sz4, Tryd.ag4, Tryd.fd33f5, Tryd.fd33f6, e1]
      have bad : ∀ {b : Bool}, (x.r && (!x.k && (hasB x.m x.c && !(l.take k).any fun y => decide (y.c = x.c)))) = b → b = false → admB 0 l = false := fun h h2 => by rw [h, h2] at hj; simpa using hj.symm
      cases hxr : x.r
      · rw [bad rfl (by rw [hxr]; rfl)] at hκ
        simp (disch := omega) only [exec_succ, runR_next, runR_fork_true, runR_guard_tf, runR_stop, stepS, runOp, guardS, condS, toSR, sop, rOf, sPick, sLoad, sUn, sFieldAddr, ev, evs, Env.get, OutOK_stop, undefS, undef, List.size_toArray, List.length_cons, List.length_nil, List.range, List.range.loop, List.getElem?_toArray, List.getElem?_cons_succ, List.getElem?_cons_zero, Option.bind_some, ↓reduceIte, Nat.reduceLT, Nat.reduceEqDiff, Nat.zero_add, Nat.add_one_ne_zero, Bool.not_false, and_self, Tryd.fd33f4, Tryd.fd33f7]
        refine hκ.ret _ _ _ _ _ _ trivial rfl ?_
        exact .ret trivial
      cases hxk : x.k
      case true =>
        rw [bad rfl (by rw [hxk]; simp)] at hκ
        simp (disch := omega) only [exec_succ, runR_next, runR_fork_true, runR_guard_ff, runR_guard_tf, runR_stop, stepS, runOp, guardS, condS, toSR, sop, rOf, sPick, sLoadIn, sLoad, sUn, sFieldAddr, ev, evs, Env.get, Heap.get, takeN, cut, aggOf, OutOK_stop, undefS, undef, List.size_toArray, List.length_cons, List.length_nil, List.range, List.range.loop, List.getElem?_toArray, List.getElem?_cons_succ, List.getElem?_cons_zero, Option.bind_some, ↓reduceIte, Nat.reduceLT, Nat.reduceEqDiff, Nat.zero_add, Nat.add_one_ne_zero, Bool.not_true, Bool.not_false, and_self, Tryd.sz4, Tryd.ag4, Tryd.fd33f4, Tryd.fd33f7]
        refine hκ.ret _ _ _ _ _ _ trivial rfl ?_
        exact .ret trivial
      cases hh : hasB x.m x.c
      · rw [bad rfl (by rw [hh]; simp)] at hκ
        rw [hh] at c2
        simp (disch := omega) only [exec_succ, runR_next, runR_guard_ff, runR_call, stepS, runOp, guardS, toSR, sop, rOf, sPick, sLoadIn, sLoad, sFieldAddr, ev, evs, Env.get, Heap.get, takeN, cut, aggOf, OutOK_call, undefS, undef, List.getElem?_toArray, List.getElem?_cons_succ, List.getElem?_cons_zero, Option.bind_some, ↓reduceIte, Nat.reduceLT, Nat.reduceEqDiff, Nat.zero_add, Nat.add_one_ne_zero, Bool.not_true, Bool.not_false, and_self, Tryd.sz3, Tryd.ag3, Tryd.sz4, Tryd.ag4, Tryd.sz31, Tryd.ag31, Tryd.fd33f4, Tryd.fd33f7]
        refine Does.ret hκ.hP hκ.hgl (c2) ⟨trivial, by simp [SV.bnd, SV.bndL], by first | (simp [SV.bnd, SV.bndL]; done) | assumption⟩ ?_
        refine hκ.run 300 ?_
        simp (disch := omega) only [exec_succ, runR_next, runR_fork_true, runR_guard_ff, runR_stop, stepS, runOp, guardS, condS, toSR, sop, rOf, sPick, sUn, ev, Env.get, setO, OutOK_stop, undefS, undef, List.size_toArray, List.length_cons, List.length_nil, List.range, List.range.loop, List.getElem?_toArray, List.getElem?_cons_succ, List.getElem?_cons_zero, Option.bind_some, ↓reduceIte, Nat.reduceLT, Nat.reduceEqDiff, Nat.zero_add, Bool.not_false, and_self, gl0]
        refine hκ.ret _ _ _ _ _ _ trivial rfl ?_
        exact .ret trivial
      rw [hh] at c2
      rw [hxr, hxk, hh] at hj bad
      simp only [Bool.not_false, Bool.true_and] at hj bad
      simp (disch := omega) only [exec_succ, runR_next, runR_guard_ff, runR_call, stepS, runOp, guardS, toSR, sop, rOf, sPick, sLoadIn, sLoad, sFieldAddr, ev, evs, Env.get, Heap.get, takeN, cut, aggOf, OutOK_call, undefS, undef, List.getElem?_toArray, List.getElem?_cons_succ, List.getElem?_cons_zero, Option.bind_some, ↓reduceIte, Nat.reduceLT, Nat.reduceEqDiff, Nat.zero_add, Nat.add_one_ne_zero, Bool.not_true, Bool.not_false, and_self, Tryd.sz3, Tryd.ag3, Tryd.sz4, Tryd.ag4, Tryd.sz31, Tryd.ag31, Tryd.fd33f4, Tryd.fd33f7]
      refine Does.ret hκ.hP hκ.hgl (c2) ⟨trivial, by simp [SV.bnd, SV.bndL], by first | (simp [SV.bnd, SV.bndL]; done) | assumption⟩ ?_
      refine hκ.run 300 ?_
      simp (disch := omega) only [exec_succ, runR_next, runR_fork_false, runR_guard_ff, runR_stop, stepS, runOp, guardS, condS, toSR, sop, rOf, sPick, sUn, ev, Env.get, setO, OutOK_stop, undefS, undef, List.size_toArray, List.length_cons, List.length_nil, List.range, List.range.loop, List.getElem?_toArray, List.getElem?_cons_succ, List.getElem?_cons_zero, Option.bind_some, ↓reduceIte, Nat.reduceLT, Nat.reduceEqDiff, Nat.zero_add, Bool.not_true, Bool.not_false, and_self, gl0]
      refine Sat.less (Sat.loop (γ := Nat) (fun j => ([(5, I j), (4, .ptr 1 0 0 0), (3, I k), (1, .ptr 0 0 0 0)], [(1, .own [I x.v, I x.d, I x.g, I x.p, I x.c, Bo true, Bo false, S x.m, I x.w, I x.n, I x.a] 33), (0, .own [I t, Xs l] 24)], 2)) (fun j => k - j) (fun j => j ≤ k ∧ (l.take j).any (fun y => decide (y.c = x.c)) = false) ?round2 0 ⟨Nat.zero_le _, rfl⟩) (by repeat' (first | exact EnvSub.nil _ | exact HeapSub.nil _ | refine EnvSub.cons rfl ?_ | refine HeapSub.cons rfl ?_ | (refine EnvSub.cons (by simp [Env.get]; done) ?_) | (refine HeapSub.cons (by simp [Heap.get]; done) ?_))) (by repeat' (first | exact EnvSub.nil _ | exact HeapSub.nil _ | refine EnvSub.cons rfl ?_ | refine HeapSub.cons rfl ?_ | (refine EnvSub.cons (by simp [Env.get]; done) ?_) | (refine HeapSub.cons (by simp [Heap.get]; done) ?_)))
      case round2 =>
        rintro j ⟨hj2, ha⟩ ih2
        dsimp only at hj2 ha ih2 ⊢
        refine hκ.run 300 ?_
        simp (disch := omega) only [exec_succ, runR_next, stepS, runOp, condS, toSR, sop, rOf, sInt, sBin, ev, Env.get, List.size_toArray, List.length_cons, List.length_nil, List.range, List.range.loop, List.getElem?_toArray, List.getElem?_cons_succ, List.getElem?_cons_zero, ↓reduceIte, Nat.reduceAdd, Nat.reduceLT, Nat.reduceEqDiff, Nat.zero_add, gl0]
        refine OutOK_fork (fun h => ?_) (fun h => ?_) <;> try simp only [Bool.not_true, Bool.not_false, decide_eq_true_eq, decide_eq_false_iff_not, Bool.not_eq_true', Bool.not_eq_false', Bool.and_eq_true, Bool.or_eq_false_iff, Bool.or_eq_true, Bool.and_eq_false_iff] at h
        · have hym := getD_mem (show j < l.length by omega)
          have hyb := hm2 _ hym
          have hz2 := fun h => ih2 (j + 1) ⟨by omega, h⟩ (by omega)
          rw [take_getD (by omega), List.any_append, ha, List.any_cons, List.any_nil, Bool.or_false, Bool.false_or] at hz2
          by_cases e2 : (l.getD j default).c = x.c
          · have hin : (l.take k).any (fun y => decide (y.c = x.c)) = true := by
              rw [List.any_eq_true]
              refine ⟨l.getD j default, ?_, decide_eq_true e2⟩
              rw [List.mem_iff_getElem]
              exact ⟨j, by simp; omega, by rw [List.getElem_take, ← getD_get]⟩
            rw [bad rfl (by rw [hin]; rfl)] at hκ
            have e2t : ((l.getD j default).c = x.c) = True := by first | (simp only [eq_iff_iff, iff_true]; first | assumption | omega) | (simp; omega)
            simp (disch := omega) only [allQuiet, quietOp, drawS, drawGo, drawN, drawFin, exec_succ, runR_next, runR_need, runR_fork_true, runR_stop, stepS, runOp, condS, toSR, sop, rOf, sLoadIn, sLoad, sInt, sEq, sEqR, sEqAgg, aggS, sBin, sFieldAddr, sIndexAddr, elemT, obind, ev, svs, Env.get, Heap.get, takeN, cut, aggOf, OutOK_need, OutOK_stop, Option.isNone_none, Bool.and_true, Bool.false_eq_true, List.size_toArray, List.length_cons, List.length_nil, List.length_map, List.range, List.range.loop, List.getElem?_toArray, List.getElem?_cons_zero, ↓reduceIte, Nat.reduceLT, Nat.reduceEqDiff, Nat.zero_add, Nat.add_one_ne_zero, Int.toNat_natCast, decide_true, getD_map, Tryd.underlying3, Tryd.sz3, Tryd.ag3, Tryd.underlying22, Tryd.sz22, Tryd.ag22, Tryd.fd24f1, Tryd.sz33, Tryd.fd33f4, e2t, eX]
            (repeat (refine ⟨by first | omega | (refine ⟨?_, ?_⟩ <;> omega) | trivial | (simp; done) | decide +kernel, fun _ => ?_⟩))
            (try (repeat (refine ⟨by first | omega | (refine ⟨?_, ?_⟩ <;> omega) | trivial | (simp; done) | decide +kernel, fun _ => ?_⟩)))
            refine hκ.ret _ _ _ _ _ _ trivial rfl ?_
            exact .ret trivial
          · have hy2 := hz2 (decide_eq_false e2)
            simp (disch := omega) only [allQuiet, quietOp, drawS, drawGo, drawN, drawFin, exec_succ, runR_next, runR_need, runR_fork_false, runR_stop, stepS, runOp, condS, toSR, sop, rOf, sLoadIn, sLoad, sInt, sEq, sEqR, sEqAgg, aggS, sBin, sFieldAddr, sIndexAddr, elemT, obind, ev, svs, Env.get, Heap.get, takeN, cut, aggOf, OutOK_need, OutOK_stop, Option.isNone_none, Bool.and_true, Bool.false_eq_true, List.size_toArray, List.length_cons, List.length_nil, List.length_map, List.range, List.range.loop, List.getElem?_toArray, List.getElem?_cons_succ, List.getElem?_cons_zero, ↓reduceIte, Nat.reduceAdd, Nat.reduceLT, Nat.reduceEqDiff, Nat.zero_add, Nat.add_one_ne_zero, Int.toNat_natCast, decide_false, getD_map, wrap_i64, Tryd.underlying3, Tryd.sz3, Tryd.ag3, Tryd.underlying22, Tryd.sz22, Tryd.ag22, Tryd.fd24f1, Tryd.sz33, Tryd.fd33f4, e2, eX]
            (repeat (refine ⟨by first | omega | (refine ⟨?_, ?_⟩ <;> omega) | trivial | (simp; done) | decide +kernel, fun _ => ?_⟩))
            (try (repeat (refine ⟨by first | omega | (refine ⟨?_, ?_⟩ <;> omega) | trivial | (simp; done) | decide +kernel, fun _ => ?_⟩)))
            refine Sat.via (fun i => i) (hy2) (by intro i j; (repeat (first | omega | split))) (by repeat' (first | exact EnvVia.nil | refine EnvVia.cons (by first | trivial | decide | (simp [SV.bnd, SV.bndL]; done)) rfl ?_)) (by repeat' (first | exact HeapVia.nil | refine HeapVia.cons (by decide) (by first | trivial | (simp [Blk.bnd, SV.bnd, SV.bndL]; done) | exact bndL_mapV _ _ _ | exact LR.bnd (by rw [l2]; simp [bndE, SV.bnd, SV.bndL]) (by rw [l6]; decide)) (by first | rfl | (simp only [Blk.ren, renL_mapV]; rfl) | (rw [LR.ren (by rw [l2] <;> rfl) (by rw [l6] <;> rfl)]; rfl)) ?_)) ⟨by have := hκ.hm; (try dsimp only at this); (first | done | omega), fun i hi => by have := hκ.hm; (try dsimp only at this); (first | omega | (dsimp only; omega) | (rw [if_neg (by omega)]))⟩ ⟨by simp, rfl⟩
        · obtain rfl : j = k := by omega
          simp only [ha, Bool.not_false, if_true] at hj
          have hy := hz hj
          simp (disch := omega) only [exec_succ, runR_next, runR_stop, stepS, runOp, goS, toSR, sop, rOf, sInt, sBin, ev, Env.get, exitTo, OutOK_stop, List.size_toArray, List.length_cons, List.length_nil, List.range, List.range.loop, List.getElem?_toArray, List.getElem?_cons_succ, List.getElem?_cons_zero, ↓reduceIte, Nat.reduceAdd, Nat.reduceLT, Nat.reduceEqDiff, Nat.zero_add, beq_self_eq_true, wrap_i64]
          refine Sat.via (fun i => i) (hy) (by intro i j; (repeat (first | omega | split))) (by repeat' (first | exact EnvVia.nil | refine EnvVia.cons (by first | trivial | decide | (simp [SV.bnd, SV.bndL]; done)) rfl ?_)) (by repeat' (first | exact HeapVia.nil | refine HeapVia.cons (by decide) (by first | trivial | (simp [Blk.bnd, SV.bnd, SV.bndL]; done) | exact bndL_mapV _ _ _ | exact LR.bnd (by rw [l2]; simp [bndE, SV.bnd, SV.bndL]) (by rw [l6]; decide)) (by first | rfl | (simp only [Blk.ren, renL_mapV]; rfl) | (rw [LR.ren (by rw [l2] <;> rfl) (by rw [l6] <;> rfl)]; rfl)) ?_)) ⟨by have := hκ.hm; (try dsimp only at this); (first | done | omega), fun i hi => by have := hκ.hm; (try dsimp only at this); (first | omega | (dsimp only; omega) | (rw [if_neg (by omega)]))⟩ ⟨by simp, rfl⟩
    · simp (disch := omega) only [exec_succ, runR_next, runR_stop, stepS, runOp, goS, toSR, sop, rOf, ev, exitTo, OutOK_stop, List.size_toArray, List.length_cons, List.length_nil, List.range, List.range.loop, List.getElem?_toArray, List.getElem?_cons_zero, ↓reduceIte, Nat.reduceLT, Nat.zero_add, beq_self_eq_true]
      obtain rfl : k = l.length := by omega
      rw [List.drop_length, admB] at hj
      rw [← hj] at hκ
      refine hκ.ret _ _ _ _ _ _ trivial rfl ?_
      exact .ret trivial
theorem rwhole_ok (m : Mo) (hm : inM m) (hr : rightM m = true) : Con Tryd.prog gl0 (fnv 11) [.agg (eM m)] 0 [] (Ret (Bo (m.2.all (wholeX m.2)))) := by
  have hsee := seenB_ofM hr
  rw [whole_gangs hsee]
  obtain ⟨t, l⟩ := m
  obtain ⟨hm1, hm2, hm3⟩ := hm
  dsimp only at hm1 hm2 hm3 hsee ⊢
  refine Con.of Tryd.ok11 (nt := 45) (res := [.tmp 2]) Tryd.mixed Tryd.func11 rfl rfl rfl rfl fun κ xc hκ => hκ.run 300 ?_
  simp (disch := omega) only [exec_succ, runR_next, runR_stop, stepS, runOp, toSR, sop, rOf, rNew, sBox, isArr, ev, Env.get, cellsS, envOf, OutOK_stop, Bool.false_eq_true, List.size_toArray, List.length_cons, List.length_nil, List.range, List.range.loop, List.getElem?_toArray, List.getElem?_cons_succ, List.getElem?_cons_zero, ↓reduceIte, Nat.reduceAdd, Nat.reduceLT, Nat.zero_add, gl0, eM]
  refine Sat.less (Sat.loop (γ := Nat) (fun k => ([(3, I (k + 1 : Nat)), (1, .ptr 0 0 0 0)], [(0, .own [I t, Xs l] 24)], 1)) (fun k => 8 - k) (fun k => k ≤ 8 ∧ ∀ i, i < k → (someG l ((i : Int) + 1) && restG l ((i : Int) + 1)) = false) ?round 0 ⟨Nat.zero_le _, fun i hi => by omega⟩) (by repeat' (first | exact EnvSub.nil _ | exact HeapSub.nil _ | refine EnvSub.cons rfl ?_ | refine HeapSub.cons rfl ?_ | (refine EnvSub.cons (by simp [Env.get]; done) ?_) | (refine HeapSub.cons (by simp [Heap.get]; done) ?_))) (by repeat' (first | exact EnvSub.nil _ | exact HeapSub.nil _ | refine EnvSub.cons rfl ?_ | refine HeapSub.cons rfl ?_ | (refine EnvSub.cons (by simp [Env.get]; done) ?_) | (refine HeapSub.cons (by simp [Heap.get]; done) ?_)))
  case round =>
    rintro k ⟨hk, hj⟩ ih
    dsimp only at hk hj ih ⊢
    refine hκ.run 300 ?_
    simp (disch := omega) only [exec_succ, runR_next, stepS, runOp, condS, toSR, sop, rOf, sInt, sBin, ev, Env.get, Int.cast_ofNat_Int, Int.natCast_add, List.size_toArray, List.length_cons, List.length_nil, List.range, List.range.loop, List.getElem?_toArray, List.getElem?_cons_succ, List.getElem?_cons_zero, ↓reduceIte, Nat.reduceAdd, Nat.reduceLT, Nat.zero_add, gl0]
    refine OutOK_fork (fun h => ?_) (fun h => ?_) <;> try simp only [Bool.not_true, Bool.not_false, decide_eq_true_eq, decide_eq_false_iff_not, Bool.not_eq_true', Bool.not_eq_false', Bool.and_eq_true, Bool.or_eq_false_iff, Bool.or_eq_true, Bool.and_eq_false_iff] at h
    · have hz := fun (h : (someG l ((k : Int) + 1) && restG l ((k : Int) + 1)) = false) => ih (k + 1) ⟨by omega, fun i hi => by
        by_cases e : i = k
        · rw [e]; exact h
        · exact hj i (by omega)⟩ (by omega)
      have hno : (someG l ((k : Int) + 1) && restG l ((k : Int) + 1)) = true → ((List.range 8).all fun i => !(someG l ((i : Int) + 1) && restG l ((i : Int) + 1))) = false := fun h => List.all_eq_false.2 ⟨k, List.mem_range.2 (by omega), by rw [h]; simp⟩
      simp (disch := omega) only [exec_succ, runR_next, runR_stop, stepS, runOp, toSR, sop, rOf, ev, OutOK_stop, List.size_toArray, List.length_cons, List.length_nil, List.range, List.range.loop, List.getElem?_toArray, List.getElem?_cons_succ, List.getElem?_cons_zero, ↓reduceIte, Nat.reduceAdd, Nat.reduceLT, Nat.zero_add]
      refine Sat.less (Sat.loop (γ := Nat) (fun j => ([(6, I j), (4, Bo (someG (l.take j) ((k : Int) + 1))), (5, Bo (!restG (l.take j) ((k : Int) + 1))), (3, I (k + 1 : Nat)), (1, .ptr 0 0 0 0)], [(0, .own [I t, Xs l] 24)], 1)) (fun j => l.length - j) (fun j => j ≤ l.length) ?round2 0 (Nat.zero_le _)) (by repeat' (first | exact EnvSub.nil _ | exact HeapSub.nil _ | refine EnvSub.cons rfl ?_ | refine HeapSub.cons rfl ?_ | (refine EnvSub.cons (by simp [Env.get]; done) ?_) | (refine HeapSub.cons (by simp [Heap.get]; done) ?_))) (by repeat' (first | exact EnvSub.nil _ | exact HeapSub.nil _ | refine EnvSub.cons rfl ?_ | refine HeapSub.cons rfl ?_ | (refine EnvSub.cons (by simp [Env.get]; done) ?_) | (refine HeapSub.cons (by simp [Heap.get]; done) ?_)))
      case round2 =>
        intro j hj2 ih2
        dsimp only at ih2 ⊢
        refine hκ.run 300 ?_
        simp (disch := omega) only [sBuiltin, exec_succ, runR_next, stepS, runOp, condS, toSR, sop, rOf, sLoadIn, sLoad, sInt, sBin, sFieldAddr, sLen, ev, Env.get, Heap.get, takeN, cut, aggOf, Int.cast_ofNat_Int, Int.natCast_add, List.size_toArray, List.length_cons, List.length_nil, List.length_map, List.range, List.range.loop, List.getElem?_toArray, List.getElem?_cons_succ, List.getElem?_cons_zero, ↓reduceIte, Nat.reduceAdd, Nat.reduceLT, Nat.reduceEqDiff, Nat.zero_add, Nat.add_one_ne_zero, gl0, Tryd.underlying22, Tryd.sz22, Tryd.ag22, Tryd.fd24f1]
        refine OutOK_fork (fun h => ?_) (fun h => ?_) <;> try simp only [Bool.not_true, Bool.not_false, decide_eq_true_eq, decide_eq_false_iff_not, Bool.not_eq_true', Bool.not_eq_false', Bool.and_eq_true, Bool.or_eq_false_iff, Bool.or_eq_true, Bool.and_eq_false_iff] at h
        · have hym := getD_mem (show j < l.length by omega)
          have hyb := hm2 _ hym
          have hz2 := ih2 (j + 1) (by omega) (by omega)
          rw [someG, restG, take_getD (by omega), List.any_append, List.any_append, List.any_cons, List.any_cons, List.any_nil, List.any_nil, Bool.or_false, Bool.or_false, ← someG, ← restG] at hz2
          generalize someG (l.take j) ((k : Int) + 1) = A at hz2 ⊢
          generalize restG (l.take j) ((k : Int) + 1) = B at hz2 ⊢
          simp (disch := omega) only [exec_succ, runR_next, runR_need, stepS, runOp, guardS, toSR, sop, rOf, rNew, sAlloc, sAlloc0, sLoadIn, sLoad, sStoreIn, sStore, sInt, sBin, sFieldAddr, sIndexAddr, elemT, obind, ev, svs, Env.get, Heap.get, Heap.set, takeN, cut, over, paste, aggOf, cellsS, one, ones, Value.oneCell', OutOK_need, undefS, undef, List.size_toArray, List.length_cons, List.length_nil, List.length_map, List.range, List.range.loop, List.getElem?_toArray, List.getElem?_cons_succ, List.getElem?_cons_zero, List.map_cons, List.map_nil, Option.bind_some, ↓reduceIte, Nat.reduceAdd, Nat.reduceLT, Nat.reduceEqDiff, Nat.zero_add, Nat.add_one_ne_zero, Int.toNat_natCast, Bool.not_false, true_and, and_self, forall_const, getD_map, Tryd.sz3, Tryd.ag3, Tryd.underlying22, Tryd.sz22, Tryd.ag22, Tryd.fd24f1, Tryd.sz33, Tryd.ag33, Tryd.ze33, Tryd.ar33, Tryd.fd33f2, Tryd.fd33f5, eX]
          (repeat (refine ⟨by first | omega | (refine ⟨?_, ?_⟩ <;> omega) | trivial | (simp; done) | decide +kernel, fun _ => ?_⟩))
          generalize l.getD j default = y at hyb hz2 ⊢
          by_cases e1 : y.g = (k : Int) + 1
          case neg =>
            rw [decide_eq_false e1, Bool.false_and, Bool.false_and, Bool.or_false, Bool.or_false] at hz2
            simp (disch := omega) only [exec_succ, runR_next, runR_fork_true, runR_guard_tf, runR_stop, stepS, runOp, guardS, condS, goS, toSR, sop, rOf, sPick, sLoad, sInt, sBin, sUn, sFieldAddr, ev, Env.get, exitTo, OutOK_stop, undefS, undef, List.size_toArray, List.length_cons, List.length_nil, List.range, List.range.loop, List.getElem?_toArray, List.getElem?_cons_succ, List.getElem?_cons_zero, Option.bind_some, ↓reduceIte, Nat.reduceAdd, Nat.reduceLT, Nat.reduceEqDiff, Nat.zero_add, Nat.add_one_ne_zero, Bool.not_false, decide_false, beq_self_eq_true, and_self, wrap_i64, Tryd.fd33f6, e1]
            refine Sat.via (fun i => i) (hz2) (by intro i j; (repeat (first | omega | split))) (by repeat' (first | exact EnvVia.nil | refine EnvVia.cons (by first | trivial | decide | (simp [SV.bnd, SV.bndL]; done)) rfl ?_)) (by repeat' (first | exact HeapVia.nil | refine HeapVia.cons (by decide) (by first | trivial | (simp [Blk.bnd, SV.bnd, SV.bndL]; done) | exact bndL_mapV _ _ _ | exact LR.bnd (by rw [l2]; simp [bndE, SV.bnd, SV.bndL]) (by rw [l6]; decide)) (by first | rfl | (simp only [Blk.ren, renL_mapV]; rfl) | (rw [LR.ren (by rw [l2] <;> rfl) (by rw [l6] <;> rfl)]; rfl)) ?_)) ⟨by have := hκ.hm; (try dsimp only at this); (first | done | omega), fun i hi => by have := hκ.hm; (try dsimp only at this); (first | omega | (dsimp only; omega) | (rw [if_neg (by omega)]))⟩ ⟨by simp, rfl⟩
          rw [decide_eq_true e1, Bool.true_and, Bool.true_and] at hz2
          have e1t : (y.g = (k : Int) + 1) = True := by first | (simp only [eq_iff_iff, iff_true]; first | assumption | omega) | (simp; omega)
          cases hyr : y.r
          · rw [hyr, Bool.false_and, Bool.false_and, Bool.false_and, Bool.or_false, Bool.or_false] at hz2
            simp (disch := omega) only [exec_succ, runR_next, runR_fork_true, runR_guard_ff, runR_guard_tf, runR_stop, stepS, runOp, guardS, condS, goS, toSR, sop, rOf, sPick, sLoadIn, sLoad, sInt, sBin, sUn, sFieldAddr, ev, Env.get, Heap.get, takeN, cut, aggOf, exitTo, OutOK_stop, undefS, undef, List.size_toArray, List.length_cons, List.length_nil, List.range, List.range.loop, List.getElem?_toArray, List.getElem?_cons_succ, List.getElem?_cons_zero, Option.bind_some, ↓reduceIte, Nat.reduceAdd, Nat.reduceLT, Nat.reduceEqDiff, Nat.zero_add, Nat.add_one_ne_zero, Bool.not_true, Bool.not_false, decide_true, beq_self_eq_true, and_self, wrap_i64, Tryd.sz4, Tryd.ag4, Tryd.fd33f6, e1t]
            refine Sat.via (fun i => i) (hz2) (by intro i j; (repeat (first | omega | split))) (by repeat' (first | exact EnvVia.nil | refine EnvVia.cons (by first | trivial | decide | (simp [SV.bnd, SV.bndL]; done)) rfl ?_)) (by repeat' (first | exact HeapVia.nil | refine HeapVia.cons (by decide) (by first | trivial | (simp [Blk.bnd, SV.bnd, SV.bndL]; done) | exact bndL_mapV _ _ _ | exact LR.bnd (by rw [l2]; simp [bndE, SV.bnd, SV.bndL]) (by rw [l6]; decide)) (by first | rfl | (simp only [Blk.ren, renL_mapV]; rfl) | (rw [LR.ren (by rw [l2] <;> rfl) (by rw [l6] <;> rfl)]; rfl)) ?_)) ⟨by have := hκ.hm; (try dsimp only at this); (first | done | omega), fun i hi => by have := hκ.hm; (try dsimp only at this); (first | omega | (dsimp only; omega) | (rw [if_neg (by omega)]))⟩ ⟨by simp, rfl⟩
          cases hyk : y.k
          case true =>
            rw [hyr, hyk, Bool.not_true, Bool.and_false, Bool.false_and, Bool.false_and, Bool.or_false, Bool.or_false] at hz2
            simp (disch := omega) only [exec_succ, runR_next, runR_fork_true, runR_guard_ff, runR_stop, stepS, runOp, guardS, condS, goS, toSR, sop, rOf, sPick, sLoadIn, sLoad, sInt, sBin, sUn, sFieldAddr, ev, Env.get, Heap.get, takeN, cut, aggOf, exitTo, OutOK_stop, undefS, undef, List.size_toArray, List.length_cons, List.length_nil, List.range, List.range.loop, List.getElem?_toArray, List.getElem?_cons_succ, List.getElem?_cons_zero, Option.bind_some, ↓reduceIte, Nat.reduceAdd, Nat.reduceLT, Nat.reduceEqDiff, Nat.zero_add, Nat.add_one_ne_zero, Bool.not_true, Bool.not_false, decide_true, beq_self_eq_true, and_self, wrap_i64, Tryd.sz4, Tryd.ag4, Tryd.fd33f6, e1t]
            refine Sat.via (fun i => i) (hz2) (by intro i j; (repeat (first | omega | split))) (by repeat' (first | exact EnvVia.nil | refine EnvVia.cons (by first | trivial | decide | (simp [SV.bnd, SV.bndL]; done)) rfl ?_)) (by repeat' (first | exact HeapVia.nil | refine HeapVia.cons (by decide) (by first | trivial | (simp [Blk.bnd, SV.bnd, SV.bndL]; done) | exact bndL_mapV _ _ _ | exact LR.bnd (by rw [l2]; simp [bndE, SV.bnd, SV.bndL]) (by rw [l6]; decide)) (by first | rfl | (simp only [Blk.ren, renL_mapV]; rfl) | (rw [LR.ren (by rw [l2] <;> rfl) (by rw [l6] <;> rfl)]; rfl)) ?_)) ⟨by have := hκ.hm; (try dsimp only at this); (first | done | omega), fun i hi => by have := hκ.hm; (try dsimp only at this); (first | omega | (dsimp only; omega) | (rw [if_neg (by omega)]))⟩ ⟨by simp, rfl⟩
          rw [hyr, hyk, Bool.not_false, Bool.and_true, Bool.true_and, Bool.true_and] at hz2
          by_cases e2 : 0 ≤ y.c
          · rw [decide_eq_true e2, Bool.not_true, Bool.or_false, Bool.or_true] at hz2
            simp (disch := omega) only [exec_succ, runR_next, runR_fork_true, runR_fork_false, runR_guard_ff, runR_stop, stepS, runOp, guardS, condS, toSR, sop, rOf, sPick, sLoadIn, sLoad, sInt, sBin, sUn, sFieldAddr, ev, Env.get, Heap.get, takeN, cut, aggOf, OutOK_stop, undefS, undef, List.size_toArray, List.length_cons, List.length_nil, List.range, List.range.loop, List.getElem?_toArray, List.getElem?_cons_succ, List.getElem?_cons_zero, Option.bind_some, ↓reduceIte, Nat.reduceAdd, Nat.reduceLT, Nat.reduceEqDiff, Nat.zero_add, Nat.add_one_ne_zero, Bool.not_true, Bool.not_false, decide_true, and_self, wrap_i64, Tryd.sz3, Tryd.ag3, Tryd.sz4, Tryd.ag4, Tryd.fd33f4, Tryd.fd33f6, e1t, e2]
            refine Sat.via (fun i => i) (hz2) (by intro i j; (repeat (first | omega | split))) (by repeat' (first | exact EnvVia.nil | refine EnvVia.cons (by first | trivial | decide | (simp [SV.bnd, SV.bndL]; done)) rfl ?_)) (by repeat' (first | exact HeapVia.nil | refine HeapVia.cons (by decide) (by first | trivial | (simp [Blk.bnd, SV.bnd, SV.bndL]; done) | exact bndL_mapV _ _ _ | exact LR.bnd (by rw [l2]; simp [bndE, SV.bnd, SV.bndL]) (by rw [l6]; decide)) (by first | rfl | (simp only [Blk.ren, renL_mapV]; rfl) | (rw [LR.ren (by rw [l2] <;> rfl) (by rw [l6] <;> rfl)]; rfl)) ?_)) ⟨by have := hκ.hm; (try dsimp only at this); (first | done | omega), fun i hi => by have := hκ.hm; (try dsimp only at this); (first | omega | (dsimp only; omega) | (rw [if_neg (by omega)]))⟩ ⟨by simp, rfl⟩
          · rw [decide_eq_false e2, Bool.not_false, Bool.or_false, Bool.or_true, Bool.not_true] at hz2
            simp (disch := omega) only [exec_succ, runR_next, runR_fork_false, runR_guard_ff, runR_stop, stepS, runOp, guardS, condS, toSR, sop, rOf, sPick, sLoadIn, sLoad, sInt, sBin, sUn, sFieldAddr, ev, Env.get, Heap.get, takeN, cut, aggOf, OutOK_stop, undefS, undef, List.size_toArray, List.length_cons, List.length_nil, List.range, List.range.loop, List.getElem?_toArray, List.getElem?_cons_succ, List.getElem?_cons_zero, Option.bind_some, ↓reduceIte, Nat.reduceAdd, Nat.reduceLT, Nat.reduceEqDiff, Nat.zero_add, Nat.add_one_ne_zero, Bool.not_true, Bool.not_false, decide_true, decide_false, and_self, wrap_i64, Tryd.sz3, Tryd.ag3, Tryd.sz4, Tryd.ag4, Tryd.fd33f4, Tryd.fd33f6, e1t, e2]
            refine Sat.via (fun i => i) (hz2) (by intro i j; (repeat (first | omega | split))) (by repeat' (first | exact EnvVia.nil | refine EnvVia.cons (by first | trivial | decide | (simp [SV.bnd, SV.bndL]; done)) rfl ?_)) (by repeat' (first | exact HeapVia.nil | refine HeapVia.cons (by decide) (by first | trivial | (simp [Blk.bnd, SV.bnd, SV.bndL]; done) | exact bndL_mapV _ _ _ | exact LR.bnd (by rw [l2]; simp [bndE, SV.bnd, SV.bndL]) (by rw [l6]; decide)) (by first | rfl | (simp only [Blk.ren, renL_mapV]; rfl) | (rw [LR.ren (by rw [l2] <;> rfl) (by rw [l6] <;> rfl)]; rfl)) ?_)) ⟨by have := hκ.hm; (try dsimp only at this); (first | done | omega), fun i hi => by have := hκ.hm; (try dsimp only at this); (first | omega | (dsimp only; omega) | (rw [if_neg (by omega)]))⟩ ⟨by simp, rfl⟩
        · obtain rfl : j = l.length := by omega
          rw [List.take_length]
          cases hs : someG l ((k : Int) + 1)
          · have hy := hz (by rw [hs]; rfl)
            simp (disch := omega) only [exec_succ, runR_next, runR_fork_false, runR_guard_ft, runR_stop, stepS, runOp, guardS, condS, goS, toSR, sop, rOf, sPick, sInt, sBin, sUn, ev, Env.get, exitTo, OutOK_stop, undefS, undef, List.size_toArray, List.length_cons, List.length_nil, List.range, List.range.loop, List.getElem?_toArray, List.getElem?_cons_succ, List.getElem?_cons_zero, Option.bind_some, ↓reduceIte, Nat.reduceAdd, Nat.reduceLT, Nat.reduceEqDiff, Nat.zero_add, Bool.not_true, beq_self_eq_true, and_self, wrap_i64]
            refine Sat.via (fun i => i) (hy) (by intro i j; (repeat (first | omega | split))) (by repeat' (first | exact EnvVia.nil | refine EnvVia.cons (by first | trivial | decide | (simp [SV.bnd, SV.bndL]; done)) rfl ?_)) (by repeat' (first | exact HeapVia.nil | refine HeapVia.cons (by decide) (by first | trivial | (simp [Blk.bnd, SV.bnd, SV.bndL]; done) | exact bndL_mapV _ _ _ | exact LR.bnd (by rw [l2]; simp [bndE, SV.bnd, SV.bndL]) (by rw [l6]; decide)) (by first | rfl | (simp only [Blk.ren, renL_mapV]; rfl) | (rw [LR.ren (by rw [l2] <;> rfl) (by rw [l6] <;> rfl)]; rfl)) ?_)) ⟨by have := hκ.hm; (try dsimp only at this); (first | done | omega), fun i hi => by have := hκ.hm; (try dsimp only at this); (first | omega | (dsimp only; omega) | (rw [if_neg (by omega)]))⟩ ⟨by simp, rfl⟩
          cases hg : restG l ((k : Int) + 1)
          · have hy := hz (by rw [hg, Bool.and_false])
            simp (disch := omega) only [exec_succ, runR_next, runR_fork_false, runR_guard_tt, runR_stop, stepS, runOp, guardS, condS, goS, toSR, sop, rOf, sPick, sInt, sBin, sUn, ev, Env.get, exitTo, OutOK_stop, undefS, undef, List.size_toArray, List.length_cons, List.length_nil, List.range, List.range.loop, List.getElem?_toArray, List.getElem?_cons_succ, List.getElem?_cons_zero, Option.bind_some, ↓reduceIte, Nat.reduceAdd, Nat.reduceLT, Nat.reduceEqDiff, Nat.zero_add, Bool.not_true, Bool.not_false, beq_self_eq_true, and_self, wrap_i64]
            refine Sat.via (fun i => i) (hy) (by intro i j; (repeat (first | omega | split))) (by repeat' (first | exact EnvVia.nil | refine EnvVia.cons (by first | trivial | decide | (simp [SV.bnd, SV.bndL]; done)) rfl ?_)) (by repeat' (first | exact HeapVia.nil | refine HeapVia.cons (by decide) (by first | trivial | (simp [Blk.bnd, SV.bnd, SV.bndL]; done) | exact bndL_mapV _ _ _ | exact LR.bnd (by rw [l2]; simp [bndE, SV.bnd, SV.bndL]) (by rw [l6]; decide)) (by first | rfl | (simp only [Blk.ren, renL_mapV]; rfl) | (rw [LR.ren (by rw [l2] <;> rfl) (by rw [l6] <;> rfl)]; rfl)) ?_)) ⟨by have := hκ.hm; (try dsimp only at this); (first | done | omega), fun i hi => by have := hκ.hm; (try dsimp only at this); (first | omega | (dsimp only; omega) | (rw [if_neg (by omega)]))⟩ ⟨by simp, rfl⟩
          · rw [hno (by rw [hs, hg]; rfl)] at hκ
            simp (disch := omega) only [exec_succ, runR_next, runR_fork_true, runR_guard_tt, runR_stop, stepS, runOp, guardS, condS, goS, toSR, sop, rOf, sPick, sUn, ev, Env.get, exitTo, OutOK_stop, undefS, undef, List.size_toArray, List.length_cons, List.length_nil, List.range, List.range.loop, List.getElem?_toArray, List.getElem?_cons_succ, List.getElem?_cons_zero, Option.bind_some, ↓reduceIte, Nat.reduceAdd, Nat.reduceLT, Nat.reduceEqDiff, Nat.zero_add, Bool.not_true, Bool.not_false, beq_self_eq_true, and_self]
            refine hκ.ret _ _ _ _ _ _ trivial rfl ?_
            exact .ret trivial
    · simp (disch := omega) only [exec_succ, runR_next, runR_stop, stepS, runOp, goS, toSR, sop, rOf, ev, exitTo, OutOK_stop, List.size_toArray, List.length_cons, List.length_nil, List.range, List.range.loop, List.getElem?_toArray, List.getElem?_cons_zero, ↓reduceIte, Nat.reduceLT, Nat.zero_add, beq_self_eq_true]
      obtain rfl : k = 8 := by omega
      rw [show ((List.range 8).all fun i => !(someG l ((i : Int) + 1) && restG l ((i : Int) + 1))) = true from List.all_eq_true.2 fun i hi => by rw [hj i (List.mem_range.1 hi)]; rfl] at hκ
      refine hκ.ret _ _ _ _ _ _ trivial rfl ?_
      exact .ret trivial
/-- Those idle among the first pCPUs. -/
def idleTo (s k : Nat) : List Int := List.map (fun c : Nat => (c : Int)) (List.filter (fun c => s.testBit c) (List.range k))
theorem idleTo_suc (s k : Nat) : idleTo s (k + 1) = idleTo s k ++ if s.testBit k = true then [(k : Int)] else [] := by
  rw [idleTo, idleTo, List.range_succ, List.filter_append, List.map_append]
  cases h : s.testBit k <;> simp [h]
theorem idleTo_len (s k : Nat) : (idleTo s k).length ≤ k := by
  rw [idleTo, List.length_map]
  exact Nat.le_trans (List.length_filter_le _ _) (by simp)
theorem ridle_ok (m : Mo) (hm : inM m) (hr : rightM m = true) : Con Tryd.prog gl0 (fnv 13) [.agg (eM m)] 0 [] (RetRow 3 1 ((idleL m.2).map (eI .i64))) := by
  have hsee := seenB_ofM hr
  obtain ⟨t, l⟩ := m
  obtain ⟨hm1, hm2, hm3⟩ := hm
  dsimp only at hm1 hm2 hm3 hsee ⊢
  have hb := want_bd hsee
  have hbit : ∀ c : Nat, c < 8 → (dif (wantN l) (takN l)).testBit c = ((l.any fun x => waitB x && hasB x.m (c : Int)) && !l.any fun x => decide (x.c = (c : Int))) := fun c hc => by
    rw [dif_bit, want_bit, tak_bit]
    congr 2
    funext x
    rw [hasB, decide_eq_true (by omega), Bool.true_and, Int.toNat_natCast]
  rw [show idleL l = idleTo (dif (wantN l) (takN l)) 8 from rfl]
  generalize dif (wantN l) (takN l) = s at hbit ⊢
  refine Con.of Tryd.ok13 (nt := 53) (res := [.tmp 2]) Tryd.mixed Tryd.func13 rfl rfl rfl rfl fun κ xc hκ => hκ.run 300 ?_
  simp (disch := omega) only [exec_succ, runR_next, runR_stop, stepS, runOp, toSR, sop, rOf, rNew, sBox, isArr, ev, Env.get, cellsS, envOf, OutOK_stop, Bool.false_eq_true, List.size_toArray, List.length_cons, List.length_nil, List.range, List.range.loop, List.getElem?_toArray, List.getElem?_cons_succ, List.getElem?_cons_zero, ↓reduceIte, Nat.reduceAdd, Nat.reduceLT, Nat.zero_add, gl0, eM]
  refine Sat.nilRow 3 1 3 rfl ?_
  refine Sat.less (Sat.loop (γ := Nat × Nat) (fun g => ([(4, I g.1), (3, .sl 1 1 0 (idleTo s g.1).length g.2), (1, .ptr 0 0 0 0)], [(1, .row 1 g.2 3 ((idleTo s g.1).map (eI .i64))), (0, .own [I t, Xs l] 24)], 2)) (fun g => 8 - g.1) (fun g => g.1 ≤ 8) ?round (0, 0) (Nat.zero_le _)) (by repeat' (first | exact EnvSub.nil _ | exact HeapSub.nil _ | refine EnvSub.cons rfl ?_ | refine HeapSub.cons rfl ?_ | (refine EnvSub.cons (by simp [Env.get]; done) ?_) | (refine HeapSub.cons (by simp [Heap.get]; done) ?_))) (by repeat' (first | exact EnvSub.nil _ | exact HeapSub.nil _ | refine EnvSub.cons rfl ?_ | refine HeapSub.cons rfl ?_ | (refine EnvSub.cons (by simp [Env.get]; done) ?_) | (refine HeapSub.cons (by simp [Heap.get]; done) ?_)))
  case round =>
    rintro ⟨k, cap⟩ hk ih
    dsimp only at hk ih ⊢
    refine Sat.room 1 rfl fun hroom => ?_
    rw [List.length_map] at hroom
    have hl8 := idleTo_len s k
    refine hκ.run 300 ?_
    simp (disch := omega) only [exec_succ, runR_next, stepS, runOp, condS, toSR, sop, rOf, sInt, sBin, ev, Env.get, List.size_toArray, List.length_cons, List.length_nil, List.range, List.range.loop, List.getElem?_toArray, List.getElem?_cons_succ, List.getElem?_cons_zero, ↓reduceIte, Nat.reduceAdd, Nat.reduceLT, Nat.zero_add, gl0]
    refine OutOK_fork (fun h => ?_) (fun h => ?_) <;> try simp only [Bool.not_true, Bool.not_false, decide_eq_true_eq, decide_eq_false_iff_not, Bool.not_eq_true', Bool.not_eq_false', Bool.and_eq_true, Bool.or_eq_false_iff, Bool.or_eq_true, Bool.and_eq_false_iff] at h
    · have hz := fun cap => ih (k + 1, cap) (by dsimp only; omega) (by dsimp only; omega)
      dsimp only at hz
      rw [idleTo_suc, hbit k (by omega)] at hz
      generalize idleTo s k = S at hz hroom hl8 ⊢
      have et : List.take S.length (List.map (eI .i64) S) = List.map (eI .i64) S := List.take_of_length_le (by simp)
      simp (disch := omega) only [exec_succ, runR_next, runR_stop, stepS, runOp, toSR, sop, rOf, ev, OutOK_stop, List.size_toArray, List.length_cons, List.length_nil, List.range, List.range.loop, List.getElem?_toArray, List.getElem?_cons_succ, List.getElem?_cons_zero, ↓reduceIte, Nat.reduceAdd, Nat.reduceLT, Nat.zero_add]
      refine Sat.less (Sat.loop (γ := Nat) (fun j => ([(7, I j), (5, Bo ((l.take j).any fun x => waitB x && hasB x.m (k : Int))), (6, Bo ((l.take j).any fun x => decide (x.c = (k : Int)))), (4, I k), (3, .sl 1 1 0 S.length cap), (1, .ptr 0 0 0 0)], [(1, .row 1 cap 3 (S.map (eI .i64))), (0, .own [I t, Xs l] 24)], 2)) (fun j => l.length - j) (fun j => j ≤ l.length) ?round2 0 (Nat.zero_le _)) (by repeat' (first | exact EnvSub.nil _ | exact HeapSub.nil _ | refine EnvSub.cons rfl ?_ | refine HeapSub.cons rfl ?_ | (refine EnvSub.cons (by simp [Env.get]; done) ?_) | (refine HeapSub.cons (by simp [Heap.get]; done) ?_))) (by repeat' (first | exact EnvSub.nil _ | exact HeapSub.nil _ | refine EnvSub.cons rfl ?_ | refine HeapSub.cons rfl ?_ | (refine EnvSub.cons (by simp [Env.get]; done) ?_) | (refine HeapSub.cons (by simp [Heap.get]; done) ?_)))
      case round2 =>
        intro j hj2 ih2
        dsimp only at ih2 ⊢
        refine hκ.run 300 ?_
        simp (disch := omega) only [sBuiltin, exec_succ, runR_next, stepS, runOp, condS, toSR, sop, rOf, sLoadIn, sLoad, sInt, sBin, sFieldAddr, sLen, ev, Env.get, Heap.get, takeN, cut, aggOf, List.size_toArray, List.length_cons, List.length_nil, List.length_map, List.range, List.range.loop, List.getElem?_toArray, List.getElem?_cons_succ, List.getElem?_cons_zero, ↓reduceIte, Nat.reduceAdd, Nat.reduceLT, Nat.reduceEqDiff, Nat.zero_add, Nat.add_one_ne_zero, gl0, Tryd.underlying22, Tryd.sz22, Tryd.ag22, Tryd.fd24f1]
        refine OutOK_fork (fun h => ?_) (fun h => ?_) <;> try simp only [Bool.not_true, Bool.not_false, decide_eq_true_eq, decide_eq_false_iff_not, Bool.not_eq_true', Bool.not_eq_false', Bool.and_eq_true, Bool.or_eq_false_iff, Bool.or_eq_true, Bool.and_eq_false_iff] at h
        · have hym := getD_mem (show j < l.length by omega)
          have hyb := hm2 _ hym
          have hys := (seenB_iff _).1 (hsee _ hym)
          have hz2 := ih2 (j + 1) (by omega) (by omega)
          rw [take_getD (by omega), List.any_append, List.any_append, List.any_cons, List.any_cons, List.any_nil, List.any_nil, Bool.or_false, Bool.or_false] at hz2
          generalize ((l.take j).any fun x => waitB x && hasB x.m (k : Int)) = A at hz2 ⊢
          generalize ((l.take j).any fun x => decide (x.c = (k : Int))) = B at hz2 ⊢
          have c2 := rwaits_ok (l.getD j default) (by omega)
          have c3 := rhas_ok (l.getD j default).m (k : Int)
          have gk : (List.map eX l).getD j [] = eX (l.getD j default) := getD_map _ _ _ (by omega)
          simp (disch := omega) only [exec_succ, runR_next, runR_need, stepS, runOp, condS, toSR, sop, rOf, sLoadIn, sLoad, sInt, sBin, sFieldAddr, sIndexAddr, elemT, obind, ev, Env.get, Heap.get, takeN, cut, aggOf, OutOK_need, List.size_toArray, List.length_cons, List.length_nil, List.length_map, List.range, List.range.loop, List.getElem?_toArray, List.getElem?_cons_succ, List.getElem?_cons_zero, ↓reduceIte, Nat.reduceAdd, Nat.reduceLT, Nat.reduceEqDiff, Nat.zero_add, Nat.add_one_ne_zero, Int.toNat_natCast, Tryd.sz3, Tryd.ag3, Tryd.underlying22, Tryd.sz22, Tryd.ag22, Tryd.fd24f1, Tryd.sz33, Tryd.fd33f4, eX, gk]
          (repeat (refine ⟨by first | omega | (refine ⟨?_, ?_⟩ <;> omega) | trivial | (simp; done) | decide +kernel, fun _ => ?_⟩))
          have ec : ∀ b : Bool, SV.closed (.v (.bool b)) := fun b => trivial
          by_cases e1 : (l.getD j default).c = (k : Int)
          · rw [decide_eq_true e1, Bool.or_true] at hz2
            have e1t : ((l.getD j default).c = (k : Int)) = True := by first | (simp only [eq_iff_iff, iff_true]; first | assumption | omega) | (simp; omega)
            simp (disch := omega) only [exec_succ, runR_next, runR_need, runR_fork_true, runR_call, stepS, runOp, toSR, sop, rOf, sLoadIn, sLoad, sFieldAddr, sIndexAddr, elemT, obind, ev, evs, Env.get, Heap.get, takeN, cut, aggOf, OutOK_need, OutOK_call, List.size_toArray, List.length_cons, List.length_nil, List.length_map, List.range, List.range.loop, List.getElem?_toArray, List.getElem?_cons_succ, List.getElem?_cons_zero, ↓reduceIte, Nat.reduceAdd, Nat.reduceLT, Nat.reduceEqDiff, Nat.zero_add, Nat.add_one_ne_zero, Int.toNat_natCast, decide_true, Tryd.underlying22, Tryd.sz22, Tryd.ag22, Tryd.fd24f1, Tryd.sz33, Tryd.ag33, e1t, eX, gk]
            (try (repeat (refine ⟨by first | omega | (refine ⟨?_, ?_⟩ <;> omega) | trivial | (simp; done) | decide +kernel, fun _ => ?_⟩)))
            refine Does.ret hκ.hP hκ.hgl c2 ⟨trivial, by simp [SV.bnd, SV.bndL, eX], trivial⟩ ?_
            cases hw : waitB (l.getD j default)
            · rw [hw, Bool.false_and, Bool.or_false] at hz2
              refine hκ.run 300 ?_
              simp (disch := omega) only [exec_succ, runR_next, runR_fork_false, runR_guard_ft, runR_stop, stepS, runOp, guardS, condS, toSR, sop, rOf, sPick, sLoad, sInt, sBin, sFieldAddr, sIndexAddr, ev, evs, Env.get, setO, OutOK_stop, undefS, undef, List.size_toArray, List.length_cons, List.length_nil, List.range, List.range.loop, List.getElem?_toArray, List.getElem?_cons_succ, List.getElem?_cons_zero, Option.bind_some, ↓reduceIte, Nat.reduceAdd, Nat.reduceLT, Nat.reduceEqDiff, Nat.zero_add, Nat.add_one_ne_zero, Bool.not_true, and_self, wrap_i64, gl0, Tryd.fd24f1]
              refine Sat.via (fun i => i) (hz2) (by intro i j; (repeat (first | omega | split))) (by repeat' (first | exact EnvVia.nil | refine EnvVia.cons (by first | trivial | decide | (simp [SV.bnd, SV.bndL]; done)) rfl ?_)) (by repeat' (first | exact HeapVia.nil | refine HeapVia.cons (by decide) (by first | trivial | (simp [Blk.bnd, SV.bnd, SV.bndL]; done) | exact bndL_mapV _ _ _ | exact LR.bnd (by rw [l2]; simp [bndE, SV.bnd, SV.bndL]) (by rw [l6]; decide)) (by first | rfl | (simp only [Blk.ren, renL_mapV]; rfl) | (rw [LR.ren (by rw [l2] <;> rfl) (by rw [l6] <;> rfl)]; rfl)) ?_)) ⟨by have := hκ.hm; (try dsimp only at this); (first | done | omega), fun i hi => by have := hκ.hm; (try dsimp only at this); (first | omega | (dsimp only; omega) | (rw [if_neg (by omega)]))⟩ ⟨by simp, rfl⟩
            · rw [hw, Bool.true_and] at hz2
              refine hκ.run 300 ?_
              simp (disch := omega) only [exec_succ, runR_next, runR_need, runR_guard_tt, runR_call, stepS, runOp, guardS, toSR, sop, rOf, sLoadIn, sLoad, sFieldAddr, sIndexAddr, elemT, obind, ev, evs, Env.get, Heap.get, takeN, cut, aggOf, setO, OutOK_need, OutOK_call, undefS, undef, List.length_map, List.getElem?_toArray, List.getElem?_cons_succ, List.getElem?_cons_zero, Option.bind_some, ↓reduceIte, Nat.reduceLT, Nat.reduceEqDiff, Nat.zero_add, Nat.add_one_ne_zero, Int.toNat_natCast, Bool.not_true, and_self, gl0, Tryd.underlying22, Tryd.sz22, Tryd.ag22, Tryd.fd24f1, Tryd.sz31, Tryd.ag31, Tryd.sz33, Tryd.fd33f7, eX, gk]
              (try (repeat (refine ⟨by first | omega | (refine ⟨?_, ?_⟩ <;> omega) | trivial | (simp; done) | decide +kernel, fun _ => ?_⟩)))
              refine Does.ret hκ.hP hκ.hgl (c3) ⟨trivial, by simp [SV.bnd, SV.bndL], by first | (simp [SV.bnd, SV.bndL]; done) | assumption⟩ ?_
              cases hh : hasB (l.getD j default).m (k : Int)
              · rw [hh, Bool.or_false] at hz2
                refine hκ.run 300 ?_
                simp (disch := omega) only [exec_succ, runR_next, runR_fork_false, runR_stop, stepS, runOp, condS, toSR, sop, rOf, sPick, sInt, sBin, ev, Env.get, setO, OutOK_stop, List.size_toArray, List.length_cons, List.length_nil, List.range, List.range.loop, List.getElem?_toArray, List.getElem?_cons_succ, List.getElem?_cons_zero, ↓reduceIte, Nat.reduceAdd, Nat.reduceLT, Nat.reduceEqDiff, Nat.zero_add, wrap_i64, gl0]
                refine Sat.via (fun i => i) (hz2) (by intro i j; (repeat (first | omega | split))) (by repeat' (first | exact EnvVia.nil | refine EnvVia.cons (by first | trivial | decide | (simp [SV.bnd, SV.bndL]; done)) rfl ?_)) (by repeat' (first | exact HeapVia.nil | refine HeapVia.cons (by decide) (by first | trivial | (simp [Blk.bnd, SV.bnd, SV.bndL]; done) | exact bndL_mapV _ _ _ | exact LR.bnd (by rw [l2]; simp [bndE, SV.bnd, SV.bndL]) (by rw [l6]; decide)) (by first | rfl | (simp only [Blk.ren, renL_mapV]; rfl) | (rw [LR.ren (by rw [l2] <;> rfl) (by rw [l6] <;> rfl)]; rfl)) ?_)) ⟨by have := hκ.hm; (try dsimp only at this); (first | done | omega), fun i hi => by have := hκ.hm; (try dsimp only at this); (first | omega | (dsimp only; omega) | (rw [if_neg (by omega)]))⟩ ⟨by simp, rfl⟩
              · rw [hh, Bool.or_true] at hz2
                refine hκ.run 300 ?_
                simp (disch := omega) only [exec_succ, runR_next, runR_fork_true, runR_stop, stepS, runOp, condS, toSR, sop, rOf, sPick, sInt, sBin, ev, Env.get, setO, OutOK_stop, List.size_toArray, List.length_cons, List.length_nil, List.range, List.range.loop, List.getElem?_toArray, List.getElem?_cons_succ, List.getElem?_cons_zero, ↓reduceIte, Nat.reduceAdd, Nat.reduceLT, Nat.reduceEqDiff, Nat.zero_add, wrap_i64, gl0]
                refine Sat.via (fun i => i) (hz2) (by intro i j; (repeat (first | omega | split))) (by repeat' (first | exact EnvVia.nil | refine EnvVia.cons (by first | trivial | decide | (simp [SV.bnd, SV.bndL]; done)) rfl ?_)) (by repeat' (first | exact HeapVia.nil | refine HeapVia.cons (by decide) (by first | trivial | (simp [Blk.bnd, SV.bnd, SV.bndL]; done) | exact bndL_mapV _ _ _ | exact LR.bnd (by rw [l2]; simp [bndE, SV.bnd, SV.bndL]) (by rw [l6]; decide)) (by first | rfl | (simp only [Blk.ren, renL_mapV]; rfl) | (rw [LR.ren (by rw [l2] <;> rfl) (by rw [l6] <;> rfl)]; rfl)) ?_)) ⟨by have := hκ.hm; (try dsimp only at this); (first | done | omega), fun i hi => by have := hκ.hm; (try dsimp only at this); (first | omega | (dsimp only; omega) | (rw [if_neg (by omega)]))⟩ ⟨by simp, rfl⟩
          · rw [decide_eq_false e1, Bool.or_false] at hz2
            simp (disch := omega) only [exec_succ, runR_next, runR_need, runR_fork_false, runR_call, stepS, runOp, toSR, sop, rOf, sLoadIn, sLoad, sFieldAddr, sIndexAddr, elemT, obind, ev, evs, Env.get, Heap.get, takeN, cut, aggOf, OutOK_need, OutOK_call, List.size_toArray, List.length_cons, List.length_nil, List.length_map, List.range, List.range.loop, List.getElem?_toArray, List.getElem?_cons_succ, List.getElem?_cons_zero, ↓reduceIte, Nat.reduceAdd, Nat.reduceLT, Nat.reduceEqDiff, Nat.zero_add, Nat.add_one_ne_zero, Int.toNat_natCast, decide_false, Tryd.underlying22, Tryd.sz22, Tryd.ag22, Tryd.fd24f1, Tryd.sz33, Tryd.ag33, e1, eX, gk]
            (try (repeat (refine ⟨by first | omega | (refine ⟨?_, ?_⟩ <;> omega) | trivial | (simp; done) | decide +kernel, fun _ => ?_⟩)))
            refine Does.ret hκ.hP hκ.hgl c2 ⟨trivial, by simp [SV.bnd, SV.bndL, eX], trivial⟩ ?_
            cases hw : waitB (l.getD j default)
            · rw [hw, Bool.false_and, Bool.or_false] at hz2
              refine hκ.run 300 ?_
              simp (disch := omega) only [exec_succ, runR_next, runR_fork_false, runR_guard_ft, runR_stop, stepS, runOp, guardS, condS, toSR, sop, rOf, sPick, sLoad, sInt, sBin, sFieldAddr, sIndexAddr, ev, evs, Env.get, setO, OutOK_stop, undefS, undef, List.size_toArray, List.length_cons, List.length_nil, List.range, List.range.loop, List.getElem?_toArray, List.getElem?_cons_succ, List.getElem?_cons_zero, Option.bind_some, ↓reduceIte, Nat.reduceAdd, Nat.reduceLT, Nat.reduceEqDiff, Nat.zero_add, Nat.add_one_ne_zero, Bool.not_true, and_self, wrap_i64, gl0, Tryd.fd24f1]
              refine Sat.via (fun i => i) (hz2) (by intro i j; (repeat (first | omega | split))) (by repeat' (first | exact EnvVia.nil | refine EnvVia.cons (by first | trivial | decide | (simp [SV.bnd, SV.bndL]; done)) rfl ?_)) (by repeat' (first | exact HeapVia.nil | refine HeapVia.cons (by decide) (by first | trivial | (simp [Blk.bnd, SV.bnd, SV.bndL]; done) | exact bndL_mapV _ _ _ | exact LR.bnd (by rw [l2]; simp [bndE, SV.bnd, SV.bndL]) (by rw [l6]; decide)) (by first | rfl | (simp only [Blk.ren, renL_mapV]; rfl) | (rw [LR.ren (by rw [l2] <;> rfl) (by rw [l6] <;> rfl)]; rfl)) ?_)) ⟨by have := hκ.hm; (try dsimp only at this); (first | done | omega), fun i hi => by have := hκ.hm; (try dsimp only at this); (first | omega | (dsimp only; omega) | (rw [if_neg (by omega)]))⟩ ⟨by simp, rfl⟩
            · rw [hw, Bool.true_and] at hz2
              refine hκ.run 300 ?_
              simp (disch := omega) only [exec_succ, runR_next, runR_need, runR_guard_tt, runR_call, stepS, runOp, guardS, toSR, sop, rOf, sLoadIn, sLoad, sFieldAddr, sIndexAddr, elemT, obind, ev, evs, Env.get, Heap.get, takeN, cut, aggOf, setO, OutOK_need, OutOK_call, undefS, undef, List.length_map, List.getElem?_toArray, List.getElem?_cons_succ, List.getElem?_cons_zero, Option.bind_some, ↓reduceIte, Nat.reduceLT, Nat.reduceEqDiff, Nat.zero_add, Nat.add_one_ne_zero, Int.toNat_natCast, Bool.not_true, and_self, gl0, Tryd.underlying22, Tryd.sz22, Tryd.ag22, Tryd.fd24f1, Tryd.sz31, Tryd.ag31, Tryd.sz33, Tryd.fd33f7, eX, gk]
              (try (repeat (refine ⟨by first | omega | (refine ⟨?_, ?_⟩ <;> omega) | trivial | (simp; done) | decide +kernel, fun _ => ?_⟩)))
              refine Does.ret hκ.hP hκ.hgl (c3) ⟨trivial, by simp [SV.bnd, SV.bndL], by first | (simp [SV.bnd, SV.bndL]; done) | assumption⟩ ?_
              cases hh : hasB (l.getD j default).m (k : Int)
              · rw [hh, Bool.or_false] at hz2
                refine hκ.run 300 ?_
                simp (disch := omega) only [exec_succ, runR_next, runR_fork_false, runR_stop, stepS, runOp, condS, toSR, sop, rOf, sPick, sInt, sBin, ev, Env.get, setO, OutOK_stop, List.size_toArray, List.length_cons, List.length_nil, List.range, List.range.loop, List.getElem?_toArray, List.getElem?_cons_succ, List.getElem?_cons_zero, ↓reduceIte, Nat.reduceAdd, Nat.reduceLT, Nat.reduceEqDiff, Nat.zero_add, wrap_i64, gl0]
                refine Sat.via (fun i => i) (hz2) (by intro i j; (repeat (first | omega | split))) (by repeat' (first | exact EnvVia.nil | refine EnvVia.cons (by first | trivial | decide | (simp [SV.bnd, SV.bndL]; done)) rfl ?_)) (by repeat' (first | exact HeapVia.nil | refine HeapVia.cons (by decide) (by first | trivial | (simp [Blk.bnd, SV.bnd, SV.bndL]; done) | exact bndL_mapV _ _ _ | exact LR.bnd (by rw [l2]; simp [bndE, SV.bnd, SV.bndL]) (by rw [l6]; decide)) (by first | rfl | (simp only [Blk.ren, renL_mapV]; rfl) | (rw [LR.ren (by rw [l2] <;> rfl) (by rw [l6] <;> rfl)]; rfl)) ?_)) ⟨by have := hκ.hm; (try dsimp only at this); (first | done | omega), fun i hi => by have := hκ.hm; (try dsimp only at this); (first | omega | (dsimp only; omega) | (rw [if_neg (by omega)]))⟩ ⟨by simp, rfl⟩
              · rw [hh, Bool.or_true] at hz2
                refine hκ.run 300 ?_
                simp (disch := omega) only [exec_succ, runR_next, runR_fork_true, runR_stop, stepS, runOp, condS, toSR, sop, rOf, sPick, sInt, sBin, ev, Env.get, setO, OutOK_stop, List.size_toArray, List.length_cons, List.length_nil, List.range, List.range.loop, List.getElem?_toArray, List.getElem?_cons_succ, List.getElem?_cons_zero, ↓reduceIte, Nat.reduceAdd, Nat.reduceLT, Nat.reduceEqDiff, Nat.zero_add, wrap_i64, gl0]
                refine Sat.via (fun i => i) (hz2) (by intro i j; (repeat (first | omega | split))) (by repeat' (first | exact EnvVia.nil | refine EnvVia.cons (by first | trivial | decide | (simp [SV.bnd, SV.bndL]; done)) rfl ?_)) (by repeat' (first | exact HeapVia.nil | refine HeapVia.cons (by decide) (by first | trivial | (simp [Blk.bnd, SV.bnd, SV.bndL]; done) | exact bndL_mapV _ _ _ | exact LR.bnd (by rw [l2]; simp [bndE, SV.bnd, SV.bndL]) (by rw [l6]; decide)) (by first | rfl | (simp only [Blk.ren, renL_mapV]; rfl) | (rw [LR.ren (by rw [l2] <;> rfl) (by rw [l6] <;> rfl)]; rfl)) ?_)) ⟨by have := hκ.hm; (try dsimp only at this); (first | done | omega), fun i hi => by have := hκ.hm; (try dsimp only at this); (first | omega | (dsimp only; omega) | (rw [if_neg (by omega)]))⟩ ⟨by simp, rfl⟩
        · obtain rfl : j = l.length := by omega
          rw [List.take_length]
          cases hA : l.any fun x => waitB x && hasB x.m (k : Int)
          · rw [hA, Bool.false_and, if_neg (by decide), List.append_nil] at hz
            have hy := hz cap
            simp (disch := omega) only [exec_succ, runR_next, runR_fork_false, runR_guard_ft, runR_stop, stepS, runOp, guardS, condS, goS, toSR, sop, rOf, sPick, sInt, sBin, sUn, ev, Env.get, exitTo, OutOK_stop, undefS, undef, List.size_toArray, List.length_cons, List.length_nil, List.range, List.range.loop, List.getElem?_toArray, List.getElem?_cons_succ, List.getElem?_cons_zero, Option.bind_some, ↓reduceIte, Nat.reduceAdd, Nat.reduceLT, Nat.reduceEqDiff, Nat.zero_add, Bool.not_true, beq_self_eq_true, and_self, wrap_i64]
            refine Sat.via (fun i => i) (hy) (by intro i j; (repeat (first | omega | split))) (by repeat' (first | exact EnvVia.nil | refine EnvVia.cons (by first | trivial | decide | (simp [SV.bnd, SV.bndL]; done)) rfl ?_)) (by repeat' (first | exact HeapVia.nil | refine HeapVia.cons (by decide) (by first | trivial | (simp [Blk.bnd, SV.bnd, SV.bndL]; done) | exact bndL_mapV _ _ _ | exact LR.bnd (by rw [l2]; simp [bndE, SV.bnd, SV.bndL]) (by rw [l6]; decide)) (by first | rfl | (simp only [Blk.ren, renL_mapV]; rfl) | (rw [LR.ren (by rw [l2] <;> rfl) (by rw [l6] <;> rfl)]; rfl)) ?_)) ⟨by have := hκ.hm; (try dsimp only at this); (first | done | omega), fun i hi => by have := hκ.hm; (try dsimp only at this); (first | omega | (dsimp only; omega) | (rw [if_neg (by omega)]))⟩ ⟨by simp, rfl⟩
          cases hB : l.any fun x => decide (x.c = (k : Int))
          case true =>
            rw [hA, hB, Bool.not_true, Bool.and_false, if_neg (by decide), List.append_nil] at hz
            have hy := hz cap
            simp (disch := omega) only [exec_succ, runR_next, runR_fork_false, runR_guard_tt, runR_stop, stepS, runOp, guardS, condS, goS, toSR, sop, rOf, sPick, sInt, sBin, sUn, ev, Env.get, exitTo, OutOK_stop, undefS, undef, List.size_toArray, List.length_cons, List.length_nil, List.range, List.range.loop, List.getElem?_toArray, List.getElem?_cons_succ, List.getElem?_cons_zero, Option.bind_some, ↓reduceIte, Nat.reduceAdd, Nat.reduceLT, Nat.reduceEqDiff, Nat.zero_add, Bool.not_true, beq_self_eq_true, and_self, wrap_i64]
            refine Sat.via (fun i => i) (hy) (by intro i j; (repeat (first | omega | split))) (by repeat' (first | exact EnvVia.nil | refine EnvVia.cons (by first | trivial | decide | (simp [SV.bnd, SV.bndL]; done)) rfl ?_)) (by repeat' (first | exact HeapVia.nil | refine HeapVia.cons (by decide) (by first | trivial | (simp [Blk.bnd, SV.bnd, SV.bndL]; done) | exact bndL_mapV _ _ _ | exact LR.bnd (by rw [l2]; simp [bndE, SV.bnd, SV.bndL]) (by rw [l6]; decide)) (by first | rfl | (simp only [Blk.ren, renL_mapV]; rfl) | (rw [LR.ren (by rw [l2] <;> rfl) (by rw [l6] <;> rfl)]; rfl)) ?_)) ⟨by have := hκ.hm; (try dsimp only at this); (first | done | omega), fun i hi => by have := hκ.hm; (try dsimp only at this); (first | omega | (dsimp only; omega) | (rw [if_neg (by omega)]))⟩ ⟨by simp, rfl⟩
          rw [hA, hB, Bool.not_false, Bool.and_true, if_pos rfl] at hz
          simp (disch := omega) only [sBuiltin, srcS, appArgS, sAppendTo, sAppend, exec_succ, runR_next, runR_need, runR_all, runR_fork_true, runR_guard_tt, runR_stop, stepS, runOp, guardS, condS, goS, toSR, sop, rOf, rNew, sPick, isArr, sInt, sBin, sUn, sliceT, obind, fillS, evps, repeatL, sBuildSlice, chunk, ev, svs, Env.get, Heap.get, Heap.drop, over, paste, cellsS, one, ones, idFree, idFrees, exitTo, Value.cells, Value.oneCell', OutOK_need, OutOK_all, OutOK_stop, undefS, undef, Bool.and_true, List.drop_zero, List.take_succ_cons, List.take_nil, List.size_toArray, List.length_cons, List.length_nil, List.length_map, List.range, List.range.loop, List.getElem?_toArray, List.getElem?_cons_succ, List.getElem?_cons_zero, List.map_cons, List.map_nil, List.append_nil, Option.bind_some, List.toList_toArray, ↓reduceIte, Nat.reduceAdd, Nat.reduceLT, Nat.reduceLeDiff, Nat.reduceEqDiff, Nat.zero_add, Nat.mul_one, Nat.add_one_ne_zero, Bool.not_true, Bool.not_false, beq_self_eq_true, ne_eq, not_false_eq_true, true_and, and_self, forall_const, reduceCtorEq, wrap_i64, Tryd.sz3, Tryd.ze3, Tryd.by3, Tryd.underlying27]
          (repeat (refine ⟨by first | omega | (refine ⟨?_, ?_⟩ <;> omega) | trivial | (simp; done) | decide +kernel, fun _ => ?_⟩))
          intro c
          have hy := hz (S.length + 1 + c)
          simp only [List.length_append, List.length_cons, List.length_nil, List.length_singleton, List.length_map, List.length_set, List.length_replicate, Nat.zero_add, Nat.add_zero, Int.natCast_add, Int.natCast_one, Int.ofNat_eq_natCast, List.map_append, List.map_cons, List.map_nil, List.take_length, eI, eB] at hy ⊢
          rw [et]
          refine Sat.via (fun i => if i = 1 then 3 else i) (hy) (by intro i j; (repeat (first | omega | split))) (by repeat' (first | exact EnvVia.nil | refine EnvVia.cons (by first | trivial | decide | (simp [SV.bnd, SV.bndL]; done)) rfl ?_)) (by repeat' (first | exact HeapVia.nil | refine HeapVia.cons (by decide) (by first | trivial | (simp [Blk.bnd, SV.bnd, SV.bndL]; done) | exact bndL_mapV _ _ _ | exact LR.bnd (by rw [l2]; simp [bndE, SV.bnd, SV.bndL]) (by rw [l6]; decide)) (by first | rfl | (simp only [Blk.ren, renL_mapV]; rfl) | (rw [LR.ren (by rw [l2] <;> rfl) (by rw [l6] <;> rfl)]; rfl)) ?_)) ⟨by have := hκ.hm; (try dsimp only at this); (first | done | omega), fun i hi => by have := hκ.hm; (try dsimp only at this); (first | omega | (dsimp only; omega) | (rw [if_neg (by omega)]))⟩ ⟨by simp, rfl⟩
    · simp (disch := omega) only [exec_succ, runR_next, runR_stop, stepS, runOp, goS, toSR, sop, rOf, ev, Env.get, exitTo, OutOK_stop, List.size_toArray, List.length_cons, List.length_nil, List.range, List.range.loop, List.getElem?_toArray, List.getElem?_cons_succ, List.getElem?_cons_zero, ↓reduceIte, Nat.reduceAdd, Nat.reduceLT, Nat.reduceEqDiff, Nat.zero_add, beq_self_eq_true]
      obtain rfl : k = 8 := by omega
      refine hκ.run 300 ?_
      simp (disch := omega) only [exec_succ, runR_stop, stepS, OutOK_stop, Int.cast_ofNat_Int, Int.reduceLT, decide_false, gl0]
      refine hκ.ret _ _ _ _ _ _ trivial rfl ?_
      exact Post.row rfl (by simp)
end Go.Proofs.YtbjhphjpdeblnaaDoor

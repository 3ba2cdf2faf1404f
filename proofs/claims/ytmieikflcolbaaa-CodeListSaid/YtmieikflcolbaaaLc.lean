/- CodeList: the walk of the law. No condition. -/
import Derived.Test.YtmieikflcolbaaaVj
namespace Go.Proofs.Ytmieikflcolbaaa
open Go Go.Sy
set_option maxRecDepth 100000
set_option linter.unusedSimpArgs false
set_option linter.unusedVariables false
set_option maxHeartbeats 4000000
theorem list_law (l : List Evt) (b0 : List Int) (hl : ∀ a ∈ l, wf0 a) (hn : l.length < 2 ^ 46) (hb0 : isY b0) (hl0 : b0.length < 2 ^ 47) : Law Try.prog gl0 8 [Es l, By b0] := by
  have hmin : (min (b0.length : Int) 1200).toNat = min 1200 b0.length := by omega
  have hmt : List.take (min 1200 b0.length) (List.map (eI .u8) b0) = (b0.take 1200).map (eI .u8) := by
    rw [List.map_take]
    rcases Nat.le_total b0.length 1200 with h | h
    · rw [Nat.min_eq_right h, List.take_of_length_le (by simp), List.take_of_length_le (by simpa using h)]
    · rw [Nat.min_eq_left h]
  have hb : isY (b0.take 1200) := fun y hy => hb0 y (List.mem_of_mem_take hy)
  have hbl : (b0.take 1200).length ≤ 1200 := by rw [List.length_take]; omega
  generalize b0.take 1200 = b at *
  have cev := events_ok b hb (by omega)
  refine Law.of (nt := 163) (res := [.tmp 4]) Try.mixed Try.func8 rfl rfl rfl rfl fun κ xc hκ => hκ.run 300 ?_
  simp (disch := omega) only [exec_succ, runR_next, runR_call, stepS, runOp, toSR, sop, rOf, ev, evs, envOf, OutOK_call, List.size_toArray, List.length_cons, List.length_nil, List.range, List.range.loop, List.getElem?_toArray, List.getElem?_cons_zero, ↓reduceIte, Nat.reduceAdd, Nat.reduceLT, Nat.zero_add, gl0]
  refine Does.ret hκ.hP hκ.hgl wakes_ok ⟨trivial, by first | (simp [SV.bnd, SV.bndL]; done) | (simp [SV.bnd, SV.bndL, ec_bnd]; done), by first | (simp [SV.bnd, SV.bndL]; done) | (simp [SV.bnd, SV.bndL, ec_bnd]; done) | assumption⟩ ?_
  refine hκ.runA 6 300 ?_
  simp (disch := omega) only [sBuiltin, runR_next, runR_need, runR_fork_false, runR_stop, stepS, runOp, condS, toSR, sop, rOf, rNew, sUn, sLen, sliceT, obind, fillS, evps, repeatL, sBuildSlice, chunk, ev, svs, Env.get, ones, idFrees, setO, OutOK_need, OutOK_stop, halt, isAt, atC, execA_succ, List.size_toArray, List.length_cons, List.length_nil, List.length_map, List.range, List.range.loop, List.getElem?_toArray, List.getElem?_cons_succ, List.getElem?_cons_zero, List.map_nil, ↓reduceIte, Nat.reduceAdd, Nat.reduceLT, Nat.reduceLeDiff, Nat.zero_add, Nat.mul_one, Nat.add_one_ne_zero, Nat.reduceBEq, Bool.not_true, true_and, and_self, forall_const, gl0, Try.sz5, Try.ze5, Try.underlying24, Try.underlying47]
  refine Sat.nilRow 5 29 37 rfl ?_
  apply Sat.join (α := List Evt × Nat × Nat) (nx := 2) (dfs := []) (fun g => (∀ a ∈ g.1, okE a) ∧ g.1.length ≤ 30 ∧ g.1.length ≤ g.2.1 ∧ (g.1.flatMap encB).length ≤ g.2.2)
    (fun g => ([(5, .sl 1 29 0 g.1.length g.2.1), (6, .sl 0 1 0 (g.1.flatMap encB).length g.2.2), (1, By b0)], [(1, .row 29 g.2.1 37 (g.1.map ec)), (0, .row 1 g.2.2 5 ((g.1.flatMap encB).map (eI .u8)))]))
  · intro hj
    refine Sat.less (Sat.loop (γ := Nat × List Evt × Nat × Nat) (fun g => ([(22, I g.1), (21, I l.length), (20, Es l), (5, .sl 1 29 0 g.2.1.length g.2.2.1), (6, .sl 0 1 0 (g.2.1.flatMap encB).length g.2.2.2), (1, By b0)], [(1, .row 29 g.2.2.1 37 (g.2.1.map ec)), (0, .row 1 g.2.2.2 5 ((g.2.1.flatMap encB).map (eI .u8)))], 2))
      (fun g => l.length - g.1) (fun g => g.1 ≤ l.length ∧ g.1 ≤ 30 ∧ (∀ a ∈ g.2.1, okE a) ∧ g.2.1.length ≤ g.1 ∧ g.2.1.length ≤ g.2.2.1 ∧ (g.2.1.flatMap encB).length ≤ g.2.2.2) ?round (0, [], 0, 0) ⟨Nat.zero_le _, by decide, (fun a ha => nomatch ha), Nat.le_refl _, Nat.le_refl _, Nat.le_refl _⟩) (by repeat' (first | exact EnvSub.nil _ | exact HeapSub.nil _ | refine EnvSub.cons rfl ?_ | refine HeapSub.cons rfl ?_ | (refine EnvSub.cons (by simp [Env.get]; done) ?_) | (refine HeapSub.cons (by simp [Heap.get]; done) ?_))) (by repeat' (first | exact EnvSub.nil _ | exact HeapSub.nil _ | refine EnvSub.cons rfl ?_ | refine HeapSub.cons rfl ?_ | (refine EnvSub.cons (by simp [Env.get]; done) ?_) | (refine HeapSub.cons (by simp [Heap.get]; done) ?_)))
    case round =>
      rintro ⟨k, pre, c1, c2⟩ ⟨hk, hk30, hok, hpk, h1, h2⟩ ih
      dsimp only at hk hk30 hok hpk h1 h2 ih ⊢
      have hy := hj (pre, c1, c2) ⟨hok, by dsimp only; omega, h1, h2⟩
      dsimp only at hy
      by_cases hkl : k < l.length
      · have q1 : ((k : Int) < l.length) = True := by first | (simp only [eq_iff_iff, iff_true]; first | assumption | omega) | (simp; omega)
        have gk : (List.map ec l).getD k [] = ec (l.getD k default) := getD_map _ _ _ hkl
        have hm : l.getD k default ∈ l := by
          rw [List.getD, List.getElem?_eq_getElem hkl]; exact List.getElem_mem _
        have hw := hl _ hm
        generalize l.getD k default = x at *
        by_cases h30 : k = 30
        · have q2 : ((k : Int) = 30) = True := by first | (simp only [eq_iff_iff, iff_true]; first | assumption | omega) | (simp; omega)
          refine hκ.runA 14 300 ?_
          simp (disch := omega) only [runR_next, runR_need, runR_fork_true, stepS, runOp, condS, goS, toSR, sop, rOf, rNew, sAlloc, sAlloc0, sLoad, sStoreIn, sStore, sInt, sBin, sIndexAddr, elemT, obind, ev, svs, Env.get, Heap.get, Heap.set, cut, paste, aggOf, cellsS, exitTo, OutOK_need, OutOK_stop, undefS, undef, halt, isAt, atC, execA_succ, Bool.false_eq_true, List.size_toArray, List.length_cons, List.length_nil, List.length_map, List.range, List.range.loop, List.getElem?_toArray, List.getElem?_cons_succ, List.getElem?_cons_zero, List.map_cons, List.map_nil, ↓reduceIte, Nat.reduceAdd, Nat.reduceLT, Nat.reduceEqDiff, Nat.zero_add, Nat.reduceBEq, Int.toNat_natCast, decide_true, beq_self_eq_true, and_true, true_and, forall_const, gl0, Try.sz37, Try.ag37, Try.ze37, Try.ar37, Try.underlying47, q1, gk, q2, tec, lec, oec, ones_ec]
          (repeat (refine ⟨by first | omega | (refine ⟨?_, ?_⟩ <;> omega) | trivial | (simp; done) | decide +kernel, fun _ => ?_⟩))
          refine Sat.via (fun i => i) (hy) (by intro i j; (repeat (first | omega | split))) (by repeat' (first | exact EnvVia.nil | refine EnvVia.cons (by first | trivial | decide | (simp [SV.bnd, SV.bndL]; done)) rfl ?_)) (by repeat' (first | exact HeapVia.nil | refine HeapVia.cons (by decide) (by first | trivial | exact Blk.bnd_own0 (by assumption) | (simp [Blk.bnd, SV.bnd, SV.bndL]; done) | exact bndL_mapV _ _ _ | exact LR.bnd (by rw [l2]; simp [bndE, SV.bnd, SV.bndL]) (by rw [l6]; decide)) (by first | (rw [Blk.ren_own0 (by assumption)]; rfl) | rfl | (simp only [Blk.ren, renL_mapV]; rfl) | (rw [LR.ren (by rw [l2] <;> rfl) (by rw [l6] <;> rfl)]; rfl)) ?_)) ⟨by have := hκ.hm; (try dsimp only at this); (first | done | omega), fun i hi => by have := hκ.hm; (try dsimp only at this); (first | omega | (dsimp only; omega) | (rw [if_neg (by omega)]))⟩ ⟨by simp, rfl⟩
        · have q2 : ((k : Int) = 30) = False := by first | (simp only [eq_iff_iff, iff_false]; first | assumption | omega) | (simp; omega)
          refine hκ.runA 14 300 ?_
          simp (disch := omega) only [runR_next, runR_need, runR_fork_true, runR_fork_false, runR_call, stepS, runOp, condS, toSR, sop, rOf, rNew, sAlloc, sAlloc0, sLoadIn, sLoad, sStoreIn, sStore, sInt, sBin, sIndexAddr, elemT, obind, ev, evs, svs, Env.get, Heap.get, Heap.set, cut, paste, aggOf, cellsS, OutOK_need, OutOK_call, undefS, undef, halt, isAt, atC, execA_succ, List.size_toArray, List.length_cons, List.length_nil, List.length_map, List.range, List.range.loop, List.getElem?_toArray, List.getElem?_cons_succ, List.getElem?_cons_zero, List.map_cons, List.map_nil, ↓reduceIte, Nat.reduceAdd, Nat.reduceLT, Nat.reduceEqDiff, Nat.zero_add, Nat.add_zero, Nat.mul_zero, Nat.reduceBEq, Int.toNat_natCast, decide_true, decide_false, and_true, true_and, forall_const, gl0, Try.sz37, Try.ag37, Try.ze37, Try.ar37, Try.underlying47, q1, gk, q2, tec, lec, oec, ones_ec]
          (repeat (refine ⟨by first | omega | (refine ⟨?_, ?_⟩ <;> omega) | trivial | (simp; done) | decide +kernel, fun _ => ?_⟩))
          have f1 := few_okw x hw
          have wa := wf_few hw
          generalize few x = a at *
          have e1 := encode_ok a wa
          have hla := encB_len a wa
          have te : List.take 29 (ec a) = ec a := rfl
          have tf : idFrees (ec a) = true := rfl
          have hfl := flatE_len pre fun x hx => (hok x hx).1
          refine Does.ret hκ.hP hκ.hgl f1 ⟨trivial, by first | (simp [SV.bnd, SV.bndL]; done) | (simp [SV.bnd, SV.bndL, ec_bnd]; done), by first | (simp [SV.bnd, SV.bndL]; done) | (simp [SV.bnd, SV.bndL, ec_bnd]; done) | assumption⟩ ?_
          refine hκ.runA 14 300 ?_
          simp (disch := omega) only [runR_call, stepS, runOp, ev, evs, Env.get, setO, OutOK_call, halt, isAt, execA_succ, List.getElem?_toArray, List.getElem?_cons_succ, List.getElem?_cons_zero, ↓reduceIte, Nat.reduceLT, gl0]
          rcases encE_or wa with h0 | h0
          · rw [h0] at e1
            have hz := fun d1 d2 g1 g2 => ih (k + 1, pre ++ [a], d1, d2) ⟨by dsimp only; omega, by dsimp only; omega, by
              intro y hy
              rcases List.mem_append.1 hy with hy | hy
              · exact hok y hy
              · rw [List.mem_singleton.1 hy]; exact ⟨wa, h0⟩, by simp; omega, g1, g2⟩ (by dsimp only; omega)
            dsimp only at hz
            rw [List.flatMap_append, List.flatMap_cons, List.flatMap_nil, List.append_nil] at hz
            clear ih hy
            generalize pre.flatMap encB = fl at *
            generalize encB a = ys at *
            refine Does.ret hκ.hP hκ.hgl e1 ⟨trivial, by first | (simp [SV.bnd, SV.bndL]; done) | (simp [SV.bnd, SV.bndL, ec_bnd]; done), by first | (simp [SV.bnd, SV.bndL]; done) | (simp [SV.bnd, SV.bndL, ec_bnd]; done) | assumption⟩ ?_
            refine hκ.runA 14 300 ?_
            simp (disch := omega) only [runR_next, runR_fork_true, runR_call, stepS, runOp, condS, toSR, sop, rOf, sLoadIn, sLoad, sInt, sBin, sExtract, ev, evs, Env.get, Heap.get, cut, aggOf, setO, OutOK_call, halt, isAt, atC, execA_succ, List.size_toArray, List.length_cons, List.length_nil, List.range, List.range.loop, List.getElem?_toArray, List.getElem?_cons_succ, List.getElem?_cons_zero, ↓reduceIte, Nat.reduceAdd, Nat.reduceLT, Nat.reduceEqDiff, Nat.zero_add, Nat.add_zero, Nat.mul_zero, Nat.reduceBEq, decide_true, gl0, Try.sz37, Try.ag37, tec]
            refine Does.ret hκ.hP hκ.hgl f1 ⟨trivial, by first | (simp [SV.bnd, SV.bndL]; done) | (simp [SV.bnd, SV.bndL, ec_bnd]; done), by first | (simp [SV.bnd, SV.bndL]; done) | (simp [SV.bnd, SV.bndL, ec_bnd]; done) | assumption⟩ ?_
            refine hκ.runA 14 300 ?_
            simp (disch := omega) only [sBuiltin, srcS, appArgS, sAppendTo, sAppend, runR_next, runR_need, runR_all, runR_stop, stepS, runOp, toSR, sop, rOf, rNew, isArr, sInt, sBin, sliceT, obind, fillS, evps, repeatL, sBuildSlice, chunk, ev, svs, Env.get, Heap.get, Heap.drop, paste, cellsS, setO, OutOK_need, OutOK_all, OutOK_stop, halt, isAt, atC, execA_succ, List.drop_zero, List.take_succ_cons, List.take_nil, List.size_toArray, List.length_cons, List.length_nil, List.length_map, List.range, List.range.loop, List.getElem?_toArray, List.getElem?_cons_succ, List.getElem?_cons_zero, List.map_cons, List.map_nil, List.append_nil, ↓reduceIte, Nat.reduceAdd, Nat.reduceLT, Nat.reduceLeDiff, Nat.reduceEqDiff, Nat.zero_add, Nat.zero_mul, Nat.mul_one, Nat.one_mul, Nat.add_one_ne_zero, Nat.reduceBEq, ne_eq, not_false_eq_true, true_and, and_self, forall_const, reduceCtorEq, wrap_i64, gl0, Try.sz5, Try.ze5, Try.by5, Try.underlying24, Try.sz37, Try.ze37, Try.by37, Try.underlying47, te, tf, lec, oec, ones_ec]
            (repeat (refine ⟨by first | omega | (refine ⟨?_, ?_⟩ <;> omega) | trivial | (simp; done) | decide +kernel, fun _ => ?_⟩))
            intro d1
            (repeat (refine ⟨by first | omega | (refine ⟨?_, ?_⟩ <;> omega) | trivial | (simp; done) | decide +kernel, fun _ => ?_⟩))
            intro d2
            have et1 : List.take pre.length (List.map ec pre) = List.map ec pre := List.take_of_length_le (by simp)
            have et2 : List.take fl.length (List.map (eI .u8) fl) = List.map (eI .u8) fl := List.take_of_length_le (by simp)
            rw [et1, et2]
            have hy := hz (pre.length + 1 + d1) (fl.length + ys.length + d2) (by simp) (by simp)
            simp only [List.length_append, List.length_cons, List.length_nil, List.length_singleton, List.length_map, List.length_set, List.length_replicate, Nat.zero_add, Nat.add_zero, Int.natCast_add, Int.natCast_one, Int.ofNat_eq_natCast, List.map_append, List.map_cons, List.map_nil, List.take_length, eI, eB] at hy ⊢
            refine Sat.via (fun i => if i = 1 then 4 else if i = 0 then 5 else i) (hy) (by intro i j; (repeat (first | omega | split))) (by repeat' (first | exact EnvVia.nil | refine EnvVia.cons (by first | trivial | decide | (simp [SV.bnd, SV.bndL]; done)) rfl ?_)) (by repeat' (first | exact HeapVia.nil | refine HeapVia.cons (by decide) (by first | trivial | exact Blk.bnd_own0 (by assumption) | (simp [Blk.bnd, SV.bnd, SV.bndL]; done) | exact bndL_mapV _ _ _ | exact LR.bnd (by rw [l2]; simp [bndE, SV.bnd, SV.bndL]) (by rw [l6]; decide)) (by first | (rw [Blk.ren_own0 (by assumption)]; rfl) | rfl | (simp only [Blk.ren, renL_mapV]; rfl) | (rw [LR.ren (by rw [l2] <;> rfl) (by rw [l6] <;> rfl)]; rfl)) ?_)) ⟨by have := hκ.hm; (try dsimp only at this); (first | done | omega), fun i hi => by have := hκ.hm; (try dsimp only at this); (first | omega | (dsimp only; omega) | (rw [if_neg (by omega)]))⟩ ⟨by simp, rfl⟩
          · rw [h0] at e1
            have hz := ih (k + 1, pre, c1, c2) ⟨by dsimp only; omega, by dsimp only; omega, hok, by dsimp only; omega, h1, h2⟩ (by dsimp only; omega)
            dsimp only at hz
            refine Does.ret hκ.hP hκ.hgl e1 ⟨trivial, by first | (simp [SV.bnd, SV.bndL]; done) | (simp [SV.bnd, SV.bndL, ec_bnd]; done), by first | (simp [SV.bnd, SV.bndL]; done) | (simp [SV.bnd, SV.bndL, ec_bnd]; done) | assumption⟩ ?_
            refine hκ.runA 14 300 ?_
            simp (disch := omega) only [runR_next, runR_fork_false, runR_stop, stepS, runOp, condS, toSR, sop, rOf, sInt, sBin, sExtract, ev, Env.get, setO, OutOK_stop, halt, isAt, atC, execA_succ, List.size_toArray, List.length_cons, List.length_nil, List.range, List.range.loop, List.getElem?_toArray, List.getElem?_cons_succ, List.getElem?_cons_zero, ↓reduceIte, Nat.reduceAdd, Nat.reduceLT, Nat.reduceEqDiff, Nat.zero_add, Nat.reduceBEq, Int.reduceEq, decide_false, wrap_i64, gl0]
            simp only [List.length_append, List.length_cons, List.length_nil, List.length_singleton, List.length_map, List.length_set, List.length_replicate, Nat.zero_add, Nat.add_zero, Int.natCast_add, Int.natCast_one, Int.ofNat_eq_natCast, List.map_append, List.map_cons, List.map_nil, List.take_length, eI, eB] at hz ⊢
            refine Sat.via (fun i => i) (hz) (by intro i j; (repeat (first | omega | split))) (by repeat' (first | exact EnvVia.nil | refine EnvVia.cons (by first | trivial | decide | (simp [SV.bnd, SV.bndL]; done)) rfl ?_)) (by repeat' (first | exact HeapVia.nil | refine HeapVia.cons (by decide) (by first | trivial | exact Blk.bnd_own0 (by assumption) | (simp [Blk.bnd, SV.bnd, SV.bndL]; done) | exact bndL_mapV _ _ _ | exact LR.bnd (by rw [l2]; simp [bndE, SV.bnd, SV.bndL]) (by rw [l6]; decide)) (by first | (rw [Blk.ren_own0 (by assumption)]; rfl) | rfl | (simp only [Blk.ren, renL_mapV]; rfl) | (rw [LR.ren (by rw [l2] <;> rfl) (by rw [l6] <;> rfl)]; rfl)) ?_)) ⟨by have := hκ.hm; (try dsimp only at this); (first | done | omega), fun i hi => by have := hκ.hm; (try dsimp only at this); (first | omega | (dsimp only; omega) | (rw [if_neg (by omega)]))⟩ ⟨by simp, rfl⟩
      · have q1 : ((k : Int) < l.length) = False := by first | (simp only [eq_iff_iff, iff_false]; first | assumption | omega) | (simp; omega)
        refine hκ.runA 14 300 ?_
        simp (disch := omega) only [runR_next, runR_fork_false, stepS, runOp, condS, goS, toSR, sop, sInt, sBin, ev, Env.get, exitTo, OutOK_stop, halt, isAt, atC, execA_succ, List.size_toArray, List.length_cons, List.length_nil, List.range, List.range.loop, List.getElem?_toArray, List.getElem?_cons_zero, ↓reduceIte, Nat.reduceLT, Nat.reduceEqDiff, Nat.zero_add, Nat.reduceBEq, decide_false, beq_self_eq_true, gl0, q1]
        exact hy.less (by repeat' (first | exact EnvSub.nil _ | exact HeapSub.nil _ | refine EnvSub.cons rfl ?_ | refine HeapSub.cons rfl ?_ | (refine EnvSub.cons (by simp [Env.get]; done) ?_) | (refine HeapSub.cons (by simp [Heap.get]; done) ?_))) (by repeat' (first | exact EnvSub.nil _ | exact HeapSub.nil _ | refine EnvSub.cons rfl ?_ | refine HeapSub.cons rfl ?_ | (refine EnvSub.cons (by simp [Env.get]; done) ?_) | (refine HeapSub.cons (by simp [Heap.get]; done) ?_)))
  · rintro ⟨pre, c1, c2⟩ ⟨hok, h30, h1, h2⟩
    dsimp only at hok h30 h1 h2 ⊢
    have et1 : List.take pre.length (List.map ec pre) = List.map ec pre := List.take_of_length_le (by simp)
    have et2 : List.take (pre.flatMap encB).length (List.map (eI .u8) (pre.flatMap encB)) = List.map (eI .u8) (pre.flatMap encB) := List.take_of_length_le (by simp)
    refine Sat.frz [1] 5 _ rfl (by first | (simp [lendPL, lendP, lendSlP, Heap.get]; done) | (simp only [lendPL, lendP, lendSlP, Heap.get, List.mem_singleton, List.mem_cons, List.not_mem_nil, or_false, or_true, true_or, Nat.reduceEqDiff, Nat.one_ne_zero, Nat.zero_ne_one, ↓reduceIte, and_true, true_and, List.length_map, List.length_append, List.length_cons, List.length_nil, List.length_replicate]; omega)) ?_
    simp only [lendL, lendS, lendSl, Heap.get, without, List.mem_singleton, List.mem_cons, List.not_mem_nil, or_false, or_true, true_or, List.drop_zero, List.take_length, List.take_succ_cons, List.take_zero, Nat.reduceAdd, Nat.reduceEqDiff, Nat.one_ne_zero, Nat.zero_ne_one, ↓reduceIte]
    refine Sat.frz [0] 6 _ rfl (by first | (simp [lendPL, lendP, lendSlP, Heap.get]; done) | (simp only [lendPL, lendP, lendSlP, Heap.get, List.mem_singleton, List.mem_cons, List.not_mem_nil, or_false, or_true, true_or, Nat.reduceEqDiff, Nat.one_ne_zero, Nat.zero_ne_one, ↓reduceIte, and_true, true_and, List.length_map, List.length_append, List.length_cons, List.length_nil, List.length_replicate]; omega)) ?_
    simp only [lendL, lendS, lendSl, Heap.get, without, List.mem_singleton, List.mem_cons, List.not_mem_nil, or_false, or_true, true_or, List.drop_zero, List.take_length, List.take_succ_cons, List.take_zero, Nat.reduceAdd, Nat.reduceEqDiff, Nat.one_ne_zero, Nat.zero_ne_one, ↓reduceIte]
    rw [et1, et2]
    have cr := row_ok pre (fun a ha => (hok a ha).1) (by omega)
    obtain ⟨r1, r2, r3⟩ := row_all hok (by omega)
    obtain ⟨v1, v2, v3, v4⟩ := events_of hok (by omega)
    have hfl := flatE_len pre fun x hx => (hok x hx).1
    have hrl : (rowB pre).length = 2 + (pre.flatMap encB).length := by rw [r3, List.length_append, bytesF_length]
    have ce := events_ok (rowB pre) v4 (by rw [hrl]; omega)
    rw [r1, r2] at cr
    rw [v1, v2, v3] at ce
    have r4 : rowB pre = 0 :: (pre.length : Int) :: pre.flatMap encB := by
      rw [r3, bytesF2, show (pre.length : Int) / 256 % 256 = 0 by omega, show (pre.length : Int) % 256 % 256 = pre.length by omega]
      rfl
    rw [r4] at cr ce
    have hY := flat_Y pre
    clear r1 r2 r3 r4 v1 v2 v3 v4 hrl
    have cb := bequal_ok (pre.flatMap encB) (pre.flatMap encB) (isB_Y hY) (isB_Y hY)
    rw [decide_eq_true rfl] at cb
    generalize pre.flatMap encB = fl at *
    refine hκ.runD 300 ?_
    simp (disch := omega) only [runR_next, runR_call, stepS, runOp, toSR, sop, rOf, ev, evs, Env.get, OutOK_call, halt, isDraw, drawC, execD_succ, List.size_toArray, List.length_cons, List.length_nil, List.range, List.range.loop, List.getElem?_toArray, List.getElem?_cons_succ, List.getElem?_cons_zero, ↓reduceIte, Nat.reduceAdd, Nat.reduceLT, Nat.reduceEqDiff, Nat.zero_add, gl0]
    refine Does.ret hκ.hP hκ.hgl cr ⟨trivial, by first | (simp [SV.bnd, SV.bndL]; done) | (simp [SV.bnd, SV.bndL, ec_bnd]; done), by first | (simp [SV.bnd, SV.bndL]; done) | (simp [SV.bnd, SV.bndL, ec_bnd]; done) | assumption⟩ ?_
    refine hκ.runD 300 ?_
    simp (disch := omega) only [runR_next, stepS, runOp, toSR, sop, rOf, sExtract, ev, Env.get, setO, OutOK_stop, halt, isDraw, drawC, execD_succ, List.getElem?_toArray, List.getElem?_cons_succ, List.getElem?_cons_zero, ↓reduceIte, Nat.reduceLT, Nat.reduceEqDiff, gl0]
    have e64 : ((fl.length : Int) + 1 + 1 = 2 + fl.length) = True := by first | (simp only [eq_iff_iff, iff_true]; first | assumption | omega) | (simp; omega)
    refine hκ.draw (.q 0 (.q 1 (.q 2 (.q 3 (.q 4 (.q 5 (.q 6 (.q 7 (.q 8 (.q 9 (.q 10 (.q 11 (.q 12 (.q 13 (.q 14 (.q 15 (.q 16 (.q 17 (.l 18 [] (.q 19 (.q 20 (.q 21 (.q 22 (.q 23 (.q 24 (.q 25 (.q 26 (.q 27 (.q 28 (.q 29 (.q 30 (.q 31 (.q 32 (.q 33 (.q 34 (.q 35 (.fin))))))))))))))))))))))))))))))))))))) [0, 1, 2, 3, 4, 5, 6, 7, 8, 9, 10, 11, 12, 13, 14, 15, 16, 17, 19, 20, 21, 22, 23, 24, 25, 26, 27, 28, 29, 30, 31, 32, 33, 34, 35] (by kernel_rfl) (by kernel_rfl) rfl ?_
    simp (disch := omega) only [sBuiltin, sop, rOf, sPick, sInt, sBin, sLen, optI, sSlice, cutL, elemT, obind, ev, evs, Env.get, setO, drawP_q, drawP_l, dq, dqn, dl, GF.ff, guardP, R1Q, dstOK, loudP, Int.cast_ofNat_Int, Int.natCast_add, List.drop_zero, List.drop_succ_cons, List.length_cons, List.length_map, List.getElem?_toArray, List.getElem?_cons_succ, List.getElem?_cons_zero, List.map_cons, Option.bind_some, Option.map_some, Option.map_none, Option.getD_some, Option.getD_none, ↓reduceIte, Nat.reduceLT, Nat.reduceEqDiff, Int.reduceToNat, Int.reduceLE, Bool.not_true, decide_true, true_and, eI, wrap_i64, gl0, Try.sz5, Try.underlying24, e64]
    (repeat (refine ⟨by first | omega | (refine ⟨?_, ?_⟩ <;> omega) | trivial | (simp; done) | decide +kernel, fun _ => ?_⟩))
    refine DCall.of (Does.ret hκ.hP hκ.hgl cb ⟨trivial, by first | (simp [SV.bnd, SV.bndL]; done) | (simp [SV.bnd, SV.bndL, ec_bnd]; done), by first | (simp [SV.bnd, SV.bndL]; done) | (simp [SV.bnd, SV.bndL, ec_bnd]; done) | assumption⟩ ?_)
    simp (disch := omega) only [sBuiltin, sop, rOf, sPick, sLoad, sInt, sBin, sUn, sConv, sIndexAddr, sLen, elemT, obind, ev, Env.get, takeN, cut, aggOf, setO, drawP_fin, drawP_q, dnext, dq, dqn, GF.ff, guardP, R1Q, dstOK, again, Int.zero_add, Int.cast_ofNat_Int, Int.natCast_add, List.length_cons, List.length_map, List.getElem?_toArray, List.getElem?_cons_succ, List.getElem?_cons_zero, List.getD_cons_zero, List.getD_cons_succ, List.map_cons, Option.bind_some, ↓reduceIte, Nat.reduceLT, Nat.reduceEqDiff, Int.reduceMul, Int.reduceToNat, Int.reduceLE, Bool.not_true, decide_true, true_and, forall_const, eI, shAmt_of, IntKind.bits, Int.reducePow, wrap_i64, Try.underlying3, Try.underlying5, Try.sz5, Try.ag5, Try.underlying24, Try.underlying47]
    (repeat (refine ⟨by first | omega | (refine ⟨?_, ?_⟩ <;> omega) | trivial | (simp; done) | decide +kernel, fun _ => ?_⟩))
    refine hκ.runD 300 ?_
    simp (disch := omega) only [runR_next, runR_fork_false, runR_call, stepS, runOp, condS, toSR, sop, rOf, ev, evs, Env.get, OutOK_call, halt, isDraw, drawC, execD_succ, List.size_toArray, List.length_cons, List.length_nil, List.range, List.range.loop, List.getElem?_toArray, List.getElem?_cons_succ, List.getElem?_cons_zero, ↓reduceIte, Nat.reduceAdd, Nat.reduceLT, Nat.reduceEqDiff, Nat.zero_add, gl0]
    refine Does.ret hκ.hP hκ.hgl ce ⟨trivial, by first | (simp [SV.bnd, SV.bndL]; done) | (simp [SV.bnd, SV.bndL, ec_bnd]; done), by first | (simp [SV.bnd, SV.bndL]; done) | (simp [SV.bnd, SV.bndL, ec_bnd]; done) | assumption⟩ ?_
    refine hκ.runD 300 ?_
    simp (disch := omega) only [sBuiltin, runR_next, runR_fork_false, runR_guard_ff, runR_stop, stepS, runOp, guardS, condS, toSR, sop, rOf, sPick, sInt, sBin, sExtract, sLen, ev, Env.get, setO, OutOK_stop, undefS, undef, halt, isDraw, drawC, execD_succ, List.size_toArray, List.length_cons, List.length_nil, List.length_map, List.range, List.range.loop, List.getElem?_toArray, List.getElem?_cons_succ, List.getElem?_cons_zero, Option.bind_some, ↓reduceIte, Nat.reduceAdd, Nat.reduceLT, Nat.reduceEqDiff, Nat.zero_add, Bool.not_true, Bool.not_false, decide_true, and_self, gl0, Try.underlying47]
    refine Sat.less (Sat.loop (γ := Nat) (fun k => ([(110, I k), (109, I pre.length), (14, Es pre), (5, Es pre), (1, By b0)], [], 2)) (fun k => pre.length - k) (fun k => k ≤ pre.length) ?round2 0 (Nat.zero_le _)) (by repeat' (first | exact EnvSub.nil _ | exact HeapSub.nil _ | refine EnvSub.cons rfl ?_ | refine HeapSub.cons rfl ?_ | (refine EnvSub.cons (by simp [Env.get]; done) ?_) | (refine HeapSub.cons (by simp [Heap.get]; done) ?_))) (by repeat' (first | exact EnvSub.nil _ | exact HeapSub.nil _ | refine EnvSub.cons rfl ?_ | refine HeapSub.cons rfl ?_ | (refine EnvSub.cons (by simp [Env.get]; done) ?_) | (refine HeapSub.cons (by simp [Heap.get]; done) ?_)))
    case round2 =>
      intro k hk ih
      dsimp only at hk ih ⊢
      by_cases hkl : k < pre.length
      · have hz := ih (k + 1) (by omega) (by omega)
        have q1 : ((k : Int) < pre.length) = True := by first | (simp only [eq_iff_iff, iff_true]; first | assumption | omega) | (simp; omega)
        have gk : (List.map ec pre).getD k [] = ec (pre.getD k default) := getD_map _ _ _ hkl
        have hm : pre.getD k default ∈ pre := by
          rw [List.getD, List.getElem?_eq_getElem hkl]; exact List.getElem_mem _
        have hw := (hok _ hm).1
        generalize pre.getD k default = a at *
        have cs := same_okw a a hw
        rw [(same_iff hw hw).2 rfl] at cs
        refine hκ.runD 300 ?_
        simp (disch := omega) only [runR_next, runR_fork_true, stepS, runOp, condS, toSR, sop, rOf, sInt, sBin, ev, Env.get, OutOK_stop, halt, isDraw, drawC, execD_succ, List.size_toArray, List.length_cons, List.length_nil, List.range, List.range.loop, List.getElem?_toArray, List.getElem?_cons_succ, List.getElem?_cons_zero, ↓reduceIte, Nat.reduceAdd, Nat.reduceLT, Nat.reduceEqDiff, Nat.zero_add, decide_true, gl0, q1]
        refine hκ.draw (.q 0 (.q 1 (.q 2 (.q 3 (.q 4 (.q 5 (.q 6 (.q 7 (.l 8 [] (.q 9 (.fin))))))))))) [0, 1, 2, 3, 4, 5, 6, 7, 9] (by kernel_rfl) (by kernel_rfl) rfl ?_
        simp (disch := omega) only [sop, rOf, sLoad, sIndexAddr, elemT, obind, ev, evs, Env.get, cut, aggOf, setO, drawP_q, drawP_l, dq, dqn, dl, guardP, R1Q, dstOK, loudP, List.length_map, List.getElem?_toArray, List.getElem?_cons_succ, List.getElem?_cons_zero, ↓reduceIte, Nat.reduceLT, Nat.reduceEqDiff, Int.toNat_natCast, and_true, true_and, gl0, Try.sz37, Try.ag37, Try.underlying47, q1, gk, tec]
        (repeat (refine ⟨by first | omega | (refine ⟨?_, ?_⟩ <;> omega) | trivial | (simp; done) | decide +kernel, fun _ => ?_⟩))
        refine DCall.of (Does.ret hκ.hP hκ.hgl cs ⟨trivial, by first | (simp [SV.bnd, SV.bndL]; done) | (simp [SV.bnd, SV.bndL, ec_bnd]; done), by first | (simp [SV.bnd, SV.bndL]; done) | (simp [SV.bnd, SV.bndL, ec_bnd]; done) | assumption⟩ ?_)
        simp (disch := omega) only [sop, sUn, ev, Env.get, setO, drawP_fin, drawP_q, dnext, dq, dqn, guardP, R1Q, dstOK, again, List.getElem?_toArray, List.getElem?_cons_succ, List.getElem?_cons_zero, ↓reduceIte, Nat.reduceLT, Bool.not_true, true_and]
        refine hκ.runD 300 ?_
        simp (disch := omega) only [runR_next, runR_fork_false, runR_stop, stepS, runOp, condS, toSR, sop, rOf, sInt, sBin, ev, Env.get, OutOK_stop, halt, isDraw, drawC, execD_succ, List.size_toArray, List.length_cons, List.length_nil, List.range, List.range.loop, List.getElem?_toArray, List.getElem?_cons_succ, List.getElem?_cons_zero, ↓reduceIte, Nat.reduceAdd, Nat.reduceLT, Nat.reduceEqDiff, Nat.zero_add, wrap_i64, gl0]
        simp only [List.length_append, List.length_cons, List.length_nil, List.length_singleton, List.length_map, List.length_set, List.length_replicate, Nat.zero_add, Nat.add_zero, Int.natCast_add, Int.natCast_one, Int.ofNat_eq_natCast, List.map_append, List.map_cons, List.map_nil, List.take_length, eI, eB] at hz ⊢
        exact hz.less (by repeat' (first | exact EnvSub.nil _ | exact HeapSub.nil _ | refine EnvSub.cons rfl ?_ | refine HeapSub.cons rfl ?_ | (refine EnvSub.cons (by simp [Env.get]; done) ?_) | (refine HeapSub.cons (by simp [Heap.get]; done) ?_))) (by repeat' (first | exact EnvSub.nil _ | exact HeapSub.nil _ | refine EnvSub.cons rfl ?_ | refine HeapSub.cons rfl ?_ | (refine EnvSub.cons (by simp [Env.get]; done) ?_) | (refine HeapSub.cons (by simp [Heap.get]; done) ?_)))
      · have q1 : ((k : Int) < pre.length) = False := by first | (simp only [eq_iff_iff, iff_false]; first | assumption | omega) | (simp; omega)
        refine hκ.runD 300 ?_
        simp (disch := omega) only [sBuiltin, sMinMax, runR_next, runR_need, runR_fork_false, runR_call, stepS, runOp, condS, goS, toSR, sop, rOf, sInt, sBin, sLen, optI, sSlice, cutL, elemT, obind, ev, evs, Env.get, exitTo, OutOK_need, OutOK_call, halt, isDraw, drawC, execD_succ, Bool.false_eq_true, List.size_toArray, List.length_cons, List.length_nil, List.length_map, List.range, List.range.loop, List.getElem?_toArray, List.getElem?_cons_succ, List.getElem?_cons_zero, List.map_cons, List.map_nil, Option.map_some, Option.map_none, Option.getD_some, Option.getD_none, ↓reduceIte, Nat.reduceAdd, Nat.reduceLT, Nat.reduceEqDiff, Nat.zero_add, Int.reduceLE, decide_false, beq_self_eq_true, true_and, gl0, Try.sz5, Try.underlying24, q1, hmin, hmt]
        (repeat (refine ⟨by first | omega | (refine ⟨?_, ?_⟩ <;> omega) | trivial | (simp; done) | decide +kernel, fun _ => ?_⟩))
        by_cases hev : evE b = 0
        · obtain ⟨o1, o2, o3, o4⟩ := of_events hb hev
          have cr2 := row_ok (evL b) (fun a ha => (o1 a ha).1) (by omega)
          obtain ⟨r1, r2, r3⟩ := row_all o1 o2
          rw [r1, r2, o4] at cr2
          rw [hev, o3] at cev
          have cb2 := bequal_ok b b (isB_Y hb) (isB_Y hb)
          rw [decide_eq_true rfl] at cb2
          refine Does.ret hκ.hP hκ.hgl cev ⟨trivial, by first | (simp [SV.bnd, SV.bndL]; done) | (simp [SV.bnd, SV.bndL, ec_bnd]; done), by first | (simp [SV.bnd, SV.bndL]; done) | (simp [SV.bnd, SV.bndL, ec_bnd]; done) | assumption⟩ ?_
          refine hκ.runD 300 ?_
          simp (disch := omega) only [runR_next, runR_fork_false, runR_call, stepS, runOp, condS, toSR, sop, rOf, sInt, sBin, sExtract, ev, evs, Env.get, setO, OutOK_call, halt, isDraw, drawC, execD_succ, List.size_toArray, List.length_cons, List.length_nil, List.range, List.range.loop, List.getElem?_toArray, List.getElem?_cons_succ, List.getElem?_cons_zero, ↓reduceIte, Nat.reduceAdd, Nat.reduceLT, Nat.reduceEqDiff, Nat.zero_add, Bool.not_true, decide_true, gl0]
          refine Does.ret hκ.hP hκ.hgl cr2 ⟨trivial, by first | (simp [SV.bnd, SV.bndL]; done) | (simp [SV.bnd, SV.bndL, ec_bnd]; done), by first | (simp [SV.bnd, SV.bndL]; done) | (simp [SV.bnd, SV.bndL, ec_bnd]; done) | assumption⟩ ?_
          refine hκ.runD 300 ?_
          simp (disch := omega) only [runR_next, runR_guard_tt, runR_call, stepS, runOp, guardS, toSR, sop, rOf, sInt, sBin, sExtract, ev, evs, Env.get, setO, OutOK_call, undefS, undef, halt, isDraw, drawC, execD_succ, List.size_toArray, List.length_cons, List.length_nil, List.range, List.range.loop, List.getElem?_toArray, List.getElem?_cons_succ, List.getElem?_cons_zero, Option.bind_some, ↓reduceIte, Nat.reduceAdd, Nat.reduceLT, Nat.reduceEqDiff, Nat.zero_add, Bool.not_true, decide_true, and_self, gl0]
          refine Does.ret hκ.hP hκ.hgl cb2 ⟨trivial, by first | (simp [SV.bnd, SV.bndL]; done) | (simp [SV.bnd, SV.bndL, ec_bnd]; done), by first | (simp [SV.bnd, SV.bndL]; done) | (simp [SV.bnd, SV.bndL, ec_bnd]; done) | assumption⟩ ?_
          refine hκ.runD 300 ?_
          simp (disch := omega) only [sBuiltin, runR_next, runR_guard_tt, runR_stop, stepS, runOp, guardS, toSR, sop, rOf, sPick, sInt, sBin, sLen, ev, Env.get, setO, OutOK_stop, undefS, undef, halt, isDraw, drawC, execD_succ, List.length_map, List.getElem?_toArray, List.getElem?_cons_succ, List.getElem?_cons_zero, Option.bind_some, ↓reduceIte, Nat.reduceLT, Nat.reduceEqDiff, Bool.not_true, decide_true, and_self, gl0, Try.underlying47]
          refine hκ.ret _ _ _ _ _ _ trivial rfl ?_
          rfl
        · have ek := evK_pos b
          rw [evL_no hev] at cev
          refine Does.ret hκ.hP hκ.hgl cev ⟨trivial, by first | (simp [SV.bnd, SV.bndL]; done) | (simp [SV.bnd, SV.bndL, ec_bnd]; done), by first | (simp [SV.bnd, SV.bndL]; done) | (simp [SV.bnd, SV.bndL, ec_bnd]; done) | assumption⟩ ?_
          have q2 : (evE b = 0) = False := by first | (simp only [eq_iff_iff, iff_false]; first | assumption | omega) | (simp; omega)
          have q3 : (0 ≤ evK b) = True := by first | (simp only [eq_iff_iff, iff_true]; first | assumption | omega) | (simp; omega)
          refine hκ.runD 300 ?_
          simp (disch := omega) only [sBuiltin, runR_next, runR_fork_true, runR_guard_tt, runR_stop, stepS, runOp, guardS, condS, toSR, sop, rOf, sPick, sInt, sBin, sExtract, sLen, ev, Env.get, setO, OutOK_stop, undefS, undef, halt, isDraw, drawC, execD_succ, Int.cast_ofNat_Int, List.size_toArray, List.length_cons, List.length_nil, List.range, List.range.loop, List.getElem?_toArray, List.getElem?_cons_succ, List.getElem?_cons_zero, List.map_nil, Option.bind_some, ↓reduceIte, Nat.reduceAdd, Nat.reduceLT, Nat.reduceEqDiff, Nat.zero_add, Bool.not_true, Bool.not_false, decide_true, decide_false, and_self, gl0, Try.underlying47, q2, q3]
          refine hκ.ret _ _ _ _ _ _ trivial rfl ?_
          rfl
end Go.Proofs.Ytmieikflcolbaaa

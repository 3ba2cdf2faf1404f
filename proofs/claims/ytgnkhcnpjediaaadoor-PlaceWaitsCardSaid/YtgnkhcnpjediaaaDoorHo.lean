/- place.Home: who was put where it was. No condition. -/
import Derived.Test.YtgnkhcnpjediaaaDoorPx
namespace Go.Proofs.YtgnkhcnpjediaaaDoor
open Go Go.Sy
set_option maxRecDepth 100000
set_option linter.unusedSimpArgs false
set_option linter.unusedVariables false

/-- Where a vCPU was last, by the wishes. -/
def atM (l : List Wi) (ns : List Int) : Option SV := l.foldl (fun r w => if ns = [w.v] then some (I w.a) else r) none
theorem atM_snoc (l : List Wi) (w : Wi) (ns : List Int) : atM (l ++ [w]) ns = if ns = [w.v] then some (I w.a) else atM l ns := by
  rw [atM, List.foldl_append]; rfl
theorem atM_val : ∀ (l : List Wi) (ns : List Int) (r : Option SV), (r = none ∨ ∃ a : Int, r = some (I a)) → (l.foldl (fun r w => if ns = [w.v] then some (I w.a) else r) r = none ∨ ∃ a : Int, l.foldl (fun r w => if ns = [w.v] then some (I w.a) else r) r = some (I a))
  | [], _, r, h => h
  | w :: l, ns, r, h => by
    rw [List.foldl_cons]
    refine atM_val l ns _ ?_
    split
    · exact Or.inr ⟨_, rfl⟩
    · exact h
def isHome (l : List Wi) (p : Int × Int) : Bool := match atM l [p.1] with
  | some (.v (.int .i64 a)) => decide (a = p.2) && decide (-1 < a)
  | _ => false
def homeN (l : List Wi) (ps : List (Int × Int)) : List Int := (ps.filter (isHome l)).map (·.1)
theorem home_ok (l : List Wi) (puts : List (Int × Int)) (hl : ∀ w ∈ l, inW w) (hp : ∀ p ∈ puts, (-9223372036854775808 ≤ p.1 ∧ p.1 ≤ 9223372036854775807) ∧ (-9223372036854775808 ≤ p.2 ∧ p.2 ≤ 9223372036854775807)) (hn : l.length < 2 ^ 40) (hn2 : puts.length < 2 ^ 40) :
    Con Tryd.prog gl0 (fnv 24) [Ws l, Ps puts] 0 [] (Ret (if okWs [] l = true then .tup [.rd 1 ((homeN l puts).map (eI .i64)), I 0] else .tup [.v (.slice none 0 0), I 230])) := by
  refine Con.of Tryd.ok24 (nt := 64) (res := [.tmp 4, .tmp 5]) Tryd.mixed Tryd.func24 rfl rfl rfl rfl fun κ xc hκ => hκ.run 300 ?_
  simp (disch := omega) only [exec_succ, runR_next, runR_call, stepS, runOp, toSR, sop, rOf, ev, evs, Env.get, envOf, OutOK_call, List.size_toArray, List.length_cons, List.length_nil, List.range, List.range.loop, List.getElem?_toArray, List.getElem?_cons_succ, List.getElem?_cons_zero, ↓reduceIte, Nat.reduceAdd, Nat.reduceLT, Nat.zero_add, Nat.add_one_ne_zero, Int.reduceNeg, gl0]
  refine Does.ret hκ.hP hκ.hgl (pcheck_ok l hl (by omega)) ⟨trivial, by simp [SV.bnd, SV.bndL], by first | (simp [SV.bnd, SV.bndL]; done) | assumption⟩ ?_
  by_cases hk : okWs [] l = true
  case neg =>
    rw [if_neg hk]
    rw [if_neg hk] at hκ
    refine hκ.run 300 ?_
    simp (disch := omega) only [exec_succ, runR_next, runR_fork_true, runR_stop, stepS, runOp, condS, toSR, sop, rOf, sInt, sBin, ev, Env.get, setO, OutOK_stop, List.size_toArray, List.length_cons, List.length_nil, List.range, List.range.loop, List.getElem?_toArray, List.getElem?_cons_succ, List.getElem?_cons_zero, ↓reduceIte, Nat.reduceAdd, Nat.reduceLT, Nat.reduceEqDiff, Nat.zero_add, Int.reduceEq, Int.reduceNeg, Bool.not_false, decide_false, gl0]
    refine hκ.ret _ _ _ _ _ _ trivial rfl ?_
    exact .ret (by simp [SV.bnd, SV.bndL])
  rw [if_pos hk]
  rw [if_pos hk] at hκ
  refine hκ.run 300 ?_
  simp (disch := omega) only [sBuiltin, sMakeMap, exec_succ, runR_next, runR_fork_false, runR_stop, stepS, runOp, condS, toSR, sop, rOf, rNew, sInt, sBin, sLen, ev, Env.get, setO, OutOK_stop, List.size_toArray, List.length_cons, List.length_nil, List.length_map, List.range, List.range.loop, List.getElem?_toArray, List.getElem?_cons_succ, List.getElem?_cons_zero, ↓reduceIte, Nat.reduceAdd, Nat.reduceLT, Nat.zero_add, Nat.add_one_ne_zero, Int.reduceNeg, Bool.not_true, decide_true, gl0, Tryd.underlying22, Tryd.mp52]
  rw [show (fun _ : List Int => (none : Option SV)) = atM (l.take 0) from rfl]
  refine Sat.less (Sat.loop (γ := Nat) (fun k => ([(23, I k), (22, I l.length), (21, Ws l), (7, .mp 0), (1, Ps puts)], [(0, .map false [.i64] (atM (l.take k)))], 1)) (fun k => l.length - k) (fun k => k ≤ l.length) ?round 0 (Nat.zero_le _)) (by repeat' (first | exact EnvSub.nil _ | exact HeapSub.nil _ | refine EnvSub.cons rfl ?_ | refine HeapSub.cons rfl ?_ | (refine EnvSub.cons (by simp [Env.get]; done) ?_) | (refine HeapSub.cons (by simp [Heap.get]; done) ?_))) (by repeat' (first | exact EnvSub.nil _ | exact HeapSub.nil _ | refine EnvSub.cons rfl ?_ | refine HeapSub.cons rfl ?_ | (refine EnvSub.cons (by simp [Env.get]; done) ?_) | (refine HeapSub.cons (by simp [Heap.get]; done) ?_)))
  case round =>
    intro k hk2 ih
    dsimp only at hk2 ih ⊢
    refine hκ.run 300 ?_
    simp (disch := omega) only [exec_succ, runR_next, stepS, runOp, condS, toSR, sop, sInt, sBin, ev, Env.get, List.size_toArray, List.length_cons, List.length_nil, List.range, List.range.loop, List.getElem?_toArray, List.getElem?_cons_zero, ↓reduceIte, Nat.reduceLT, Nat.reduceEqDiff, Nat.zero_add, Int.reduceNeg, gl0]
    refine OutOK_fork (fun h => ?_) (fun h => ?_) <;> try simp only [Bool.not_true, Bool.not_false, decide_eq_true_eq, decide_eq_false_iff_not, Bool.not_eq_true', Bool.not_eq_false', Bool.and_eq_true, Bool.or_eq_false_iff, Bool.or_eq_true, Bool.and_eq_false_iff] at h
    · have hm : l.getD k default ∈ l := by
        rw [List.getD, List.getElem?_eq_getElem (by omega)]; exact List.getElem_mem _
      have ht : l.take (k + 1) = l.take k ++ [l.getD k default] := by
        rw [List.take_succ_eq_append_getElem (by omega), List.getD, List.getElem?_eq_getElem (by omega)]; rfl
      have hz := ih (k + 1) (by omega) (by omega)
      have hs : atM (l.take (k + 1)) = fun ns => if ns = [(l.getD k default).v] then some (I (l.getD k default).a) else atM (l.take k) ns := by
        funext ns; rw [ht, atM_snoc]
      rw [hs] at hz
      obtain ⟨⟨v1, v2⟩, ⟨a1, a2⟩, m1⟩ := hl _ hm
      simp (disch := omega) only [sMapUp, sMapUpIn, keyS, exec_succ, runR_next, runR_need, runR_stop, stepS, runOp, toSR, sop, rOf, rNew, sAlloc, sAlloc0, sLoadIn, sLoad, sStoreIn, sStore, sInt, sBin, sFieldAddr, sIndexAddr, elemT, obind, ev, svs, Env.get, Heap.get, Heap.set, takeN, cut, over, paste, aggOf, cellsS, one, ones, idFree, idFree', Value.oneCell', OutOK_need, OutOK_stop, undefS, undef, List.size_toArray, List.length_cons, List.length_nil, List.length_map, List.range, List.range.loop, List.getElem?_toArray, List.getElem?_cons_succ, List.getElem?_cons_zero, List.map_cons, List.map_nil, ↓reduceIte, Nat.reduceAdd, Nat.reduceLT, Nat.reduceEqDiff, Nat.zero_add, Nat.add_zero, Nat.add_one_ne_zero, Int.reduceNeg, Int.toNat_natCast, true_and, and_self, forall_const, getD_map, wrap_i64, Tryd.sz3, Tryd.ag3, Tryd.underlying22, Tryd.sz36, Tryd.ag36, Tryd.ze36, Tryd.ar36, Tryd.fd36f0, Tryd.fd36f1, Tryd.mp52, eW]
      (repeat (refine ⟨by first | omega | (refine ⟨?_, ?_⟩ <;> omega) | trivial | (simp; done) | decide +kernel, fun _ => ?_⟩))
      generalize l.getD k default = w at v1 v2 a1 a2 m1 hz ⊢
      refine Sat.via (fun i => i) (hz) (by intro i j; (repeat (first | omega | split))) (by repeat' (first | exact EnvVia.nil | refine EnvVia.cons (by first | trivial | decide | (simp [SV.bnd, SV.bndL]; done)) rfl ?_)) (by repeat' (first | exact HeapVia.nil | refine HeapVia.cons (by decide) (by first | trivial | (simp [Blk.bnd, SV.bnd, SV.bndL]; done) | exact bndL_mapV _ _ _ | exact LR.bnd (by rw [l2]; simp [bndE, SV.bnd, SV.bndL]) (by rw [l6]; decide)) (by first | rfl | (simp only [Blk.ren, renL_mapV]; rfl) | (rw [LR.ren (by rw [l2] <;> rfl) (by rw [l6] <;> rfl)]; rfl)) ?_)) ⟨by have := hκ.hm; (try dsimp only at this); (first | done | omega), fun i hi => by have := hκ.hm; (try dsimp only at this); (first | omega | (dsimp only; omega) | (rw [if_neg (by omega)]))⟩ ⟨by simp, rfl⟩
    · simp (disch := omega) only [sBuiltin, exec_succ, runR_next, runR_stop, stepS, runOp, goS, toSR, sop, rOf, sLen, ev, Env.get, exitTo, OutOK_stop, List.size_toArray, List.length_cons, List.length_nil, List.length_map, List.range, List.range.loop, List.getElem?_toArray, List.getElem?_cons_succ, List.getElem?_cons_zero, ↓reduceIte, Nat.reduceAdd, Nat.reduceLT, Nat.reduceEqDiff, Nat.zero_add, Int.reduceNeg, beq_self_eq_true, Tryd.underlying26]
      obtain rfl : k = l.length := by omega
      rw [List.take_length]
      refine Sat.nilRow 10 1 3 rfl ?_
      refine Sat.less (Sat.loop (γ := Nat × List Int × Nat) (fun g => ([(35, I g.1), (34, I puts.length), (33, Ps puts), (10, .sl 1 1 0 g.2.1.length g.2.2), (7, .mp 0)], [(1, .row 1 g.2.2 3 (g.2.1.map (eI .i64))), (0, .map false [.i64] (atM l))], 2)) (fun g => puts.length - g.1) (fun g => g.1 ≤ puts.length ∧ g.2.1.length ≤ g.1 ∧ g.2.1 ++ homeN l (puts.drop g.1) = homeN l puts) ?round2 (0, [], 0) ⟨Nat.zero_le _, Nat.le_refl _, rfl⟩) (by repeat' (first | exact EnvSub.nil _ | exact HeapSub.nil _ | refine EnvSub.cons rfl ?_ | refine HeapSub.cons rfl ?_ | (refine EnvSub.cons (by simp [Env.get]; done) ?_) | (refine HeapSub.cons (by simp [Heap.get]; done) ?_))) (by repeat' (first | exact EnvSub.nil _ | exact HeapSub.nil _ | refine EnvSub.cons rfl ?_ | refine HeapSub.cons rfl ?_ | (refine EnvSub.cons (by simp [Env.get]; done) ?_) | (refine HeapSub.cons (by simp [Heap.get]; done) ?_)))
      case round2 =>
        rintro ⟨j, out, cap⟩ ⟨hj, hol, ho⟩ ih2
        dsimp only at hj hol ho ih2 ⊢
        refine Sat.room 1 rfl fun hroom => ?_
        rw [List.length_map] at hroom
        refine hκ.run 300 ?_
        simp (disch := omega) only [exec_succ, runR_next, stepS, runOp, condS, toSR, sop, sInt, sBin, ev, Env.get, List.size_toArray, List.length_cons, List.length_nil, List.range, List.range.loop, List.getElem?_toArray, List.getElem?_cons_zero, ↓reduceIte, Nat.reduceLT, Nat.reduceEqDiff, Nat.zero_add, Int.reduceNeg, gl0]
        refine OutOK_fork (fun h => ?_) (fun h => ?_) <;> try simp only [Bool.not_true, Bool.not_false, decide_eq_true_eq, decide_eq_false_iff_not, Bool.not_eq_true', Bool.not_eq_false', Bool.and_eq_true, Bool.or_eq_false_iff, Bool.or_eq_true, Bool.and_eq_false_iff] at h
        · have hm : puts.getD j default ∈ puts := by
            rw [List.getD, List.getElem?_eq_getElem (by omega)]; exact List.getElem_mem _
          have hd : puts.drop j = puts.getD j default :: puts.drop (j + 1) := by
            rw [List.drop_eq_getElem_cons (by omega), List.getD, List.getElem?_eq_getElem (by omega)]; rfl
          obtain ⟨⟨v1, v2⟩, a1, a2⟩ := hp _ hm
          rw [hd, homeN, List.filter_cons] at ho
          have hz := fun out cap h1 h2 => ih2 (j + 1, out, cap) ⟨by dsimp only; omega, h1, h2⟩ (by dsimp only; omega)
          dsimp only at hz
          simp (disch := omega) only [sLookup, sLookupIn, keyS, exec_succ, runR_next, runR_need, stepS, runOp, guardS, toSR, sop, rOf, rNew, sAlloc, sAlloc0, sLoadIn, sLoad, sStoreIn, sStore, sFieldAddr, sIndexAddr, sExtract, elemT, obind, ev, svs, Env.get, Heap.get, Heap.set, takeN, cut, over, paste, aggOf, cellsS, one, ones, Value.oneCell', OutOK_need, undefS, undef, List.size_toArray, List.length_cons, List.length_nil, List.length_map, List.range, List.range.loop, List.getElem?_toArray, List.getElem?_cons_succ, List.getElem?_cons_zero, List.map_cons, List.map_nil, Option.bind_some, ↓reduceIte, Nat.reduceAdd, Nat.reduceLT, Nat.reduceEqDiff, Nat.zero_add, Nat.add_zero, Nat.add_one_ne_zero, Int.reduceNeg, Int.toNat_natCast, Bool.not_true, true_and, and_self, forall_const, getD_map, Tryd.sz3, Tryd.ag3, Tryd.underlying26, Tryd.sz31, Tryd.ag31, Tryd.ze31, Tryd.ar31, Tryd.fd31f0, Tryd.mp52, eP]
          (repeat (refine ⟨by first | omega | (refine ⟨?_, ?_⟩ <;> omega) | trivial | (simp; done) | decide +kernel, fun _ => ?_⟩))
          generalize puts.getD j default = p at v1 v2 a1 a2 ho ⊢
          have hv : atM l [p.1] = none ∨ ∃ a : Int, atM l [p.1] = some (I a) := atM_val l [p.1] none (Or.inl rfl)
          rcases hv with hv | ⟨a, hv⟩
          · rw [if_neg (by simp [isHome, hv])] at ho
            have hy := hz out cap (by omega) ho
            simp (disch := omega) only [exec_succ, runR_next, runR_fork_false, runR_guard_ft, runR_stop, stepS, runOp, guardS, condS, toSR, sop, rOf, sPick, sLoad, sInt, sEq, sEqR, sBin, sFieldAddr, ev, Env.get, OutOK_stop, undefS, undef, List.size_toArray, List.length_cons, List.length_nil, List.range, List.range.loop, List.getElem?_toArray, List.getElem?_cons_succ, List.getElem?_cons_zero, Option.bind_some, Option.getD_none, Option.isSome_none, ↓reduceIte, Nat.reduceAdd, Nat.reduceLT, Nat.reduceEqDiff, Nat.zero_add, Nat.add_one_ne_zero, Int.reduceNeg, Bool.not_true, and_self, wrap_i64, Tryd.fd31f1, hv]
            refine Sat.via (fun i => i) (hy) (by intro i j; (repeat (first | omega | split))) (by repeat' (first | exact EnvVia.nil | refine EnvVia.cons (by first | trivial | decide | (simp [SV.bnd, SV.bndL]; done)) rfl ?_)) (by repeat' (first | exact HeapVia.nil | refine HeapVia.cons (by decide) (by first | trivial | (simp [Blk.bnd, SV.bnd, SV.bndL]; done) | exact bndL_mapV _ _ _ | exact LR.bnd (by rw [l2]; simp [bndE, SV.bnd, SV.bndL]) (by rw [l6]; decide)) (by first | rfl | (simp only [Blk.ren, renL_mapV]; rfl) | (rw [LR.ren (by rw [l2] <;> rfl) (by rw [l6] <;> rfl)]; rfl)) ?_)) ⟨by have := hκ.hm; (try dsimp only at this); (first | done | omega), fun i hi => by have := hκ.hm; (try dsimp only at this); (first | omega | (dsimp only; omega) | (rw [if_neg (by omega)]))⟩ ⟨by simp, rfl⟩
          · have hih : isHome l p = (decide (a = p.2) && decide (-1 < a)) := by rw [isHome, hv]
            by_cases e1 : a = p.2
            · by_cases e2 : -1 < a
              · have g1 : (a = p.2) = True := by simp [e1]
                have g2 : ((-1 : Int) < a) = True := by simp [e2]
                rw [if_pos (by rw [hih]; simp [e1]; omega)] at ho
                simp (disch := omega) only [sBuiltin, srcS, appArgS, sAppendTo, sAppend, exec_succ, runR_next, runR_need, runR_all, runR_fork_true, runR_guard_tt, runR_stop, stepS, runOp, guardS, condS, toSR, sop, rOf, rNew, sPick, isArr, sLoadIn, sLoad, sInt, sBin, sFieldAddr, sliceT, obind, fillS, evps, repeatL, sBuildSlice, chunk, ev, svs, Env.get, Heap.get, Heap.drop, takeN, cut, over, paste, aggOf, cellsS, one, ones, idFree, idFrees, Value.cells, Value.oneCell', OutOK_need, OutOK_all, OutOK_stop, undefS, undef, Bool.and_true, List.drop_zero, List.take_succ_cons, List.take_nil, List.size_toArray, List.length_cons, List.length_nil, List.length_map, List.range, List.range.loop, List.getElem?_toArray, List.getElem?_cons_succ, List.getElem?_cons_zero, List.map_cons, List.map_nil, List.append_nil, Option.bind_some, Option.getD_some, Option.isSome_some, List.toList_toArray, ↓reduceIte, Nat.reduceAdd, Nat.reduceLT, Nat.reduceLeDiff, Nat.reduceEqDiff, Nat.zero_add, Nat.add_zero, Nat.mul_one, Nat.add_one_ne_zero, Int.reduceNeg, Bool.not_true, decide_true, ne_eq, not_false_eq_true, true_and, and_self, forall_const, reduceCtorEq, wrap_i64, Tryd.sz3, Tryd.ag3, Tryd.ze3, Tryd.by3, Tryd.fd31f0, Tryd.fd31f1, Tryd.underlying39, hv, g1, g2]
                (repeat (refine ⟨by first | omega | (refine ⟨?_, ?_⟩ <;> omega) | trivial | (simp; done) | decide +kernel, fun _ => ?_⟩))
                intro cap2
                have hy := hz (out ++ [p.1]) (out.length + 1 + cap2) (by simp; omega) (by rw [← ho, List.map_cons, List.append_assoc]; rfl)
                have et : List.take out.length (List.map (eI .i64) out) = List.map (eI .i64) out := List.take_of_length_le (by simp)
                simp only [List.length_append, List.length_cons, List.length_nil, List.length_singleton, List.length_map, List.length_set, List.length_replicate, Nat.zero_add, Nat.add_zero, Int.natCast_add, Int.natCast_one, Int.ofNat_eq_natCast, List.map_append, List.map_cons, List.map_nil, List.take_length, eI, eB] at hy ⊢
                rw [et]
                refine Sat.via (fun i => if i = 1 then 4 else i) (hy) (by intro i j; (repeat (first | omega | split))) (by repeat' (first | exact EnvVia.nil | refine EnvVia.cons (by first | trivial | decide | (simp [SV.bnd, SV.bndL]; done)) rfl ?_)) (by repeat' (first | exact HeapVia.nil | refine HeapVia.cons (by decide) (by first | trivial | (simp [Blk.bnd, SV.bnd, SV.bndL]; done) | exact bndL_mapV _ _ _ | exact LR.bnd (by rw [l2]; simp [bndE, SV.bnd, SV.bndL]) (by rw [l6]; decide)) (by first | rfl | (simp only [Blk.ren, renL_mapV]; rfl) | (rw [LR.ren (by rw [l2] <;> rfl) (by rw [l6] <;> rfl)]; rfl)) ?_)) ⟨by have := hκ.hm; (try dsimp only at this); (first | done | omega), fun i hi => by have := hκ.hm; (try dsimp only at this); (first | omega | (dsimp only; omega) | (rw [if_neg (by omega)]))⟩ ⟨by simp, rfl⟩
              · have g1 : (a = p.2) = True := by simp [e1]
                have g2 : ((-1 : Int) < a) = False := by simp [e2]
                rw [if_neg (by rw [hih]; simp [e1]; omega)] at ho
                have hy := hz out cap (by omega) ho
                simp (disch := omega) only [exec_succ, runR_next, runR_fork_false, runR_guard_tt, runR_stop, stepS, runOp, guardS, condS, toSR, sop, rOf, sPick, sLoadIn, sLoad, sInt, sBin, sFieldAddr, ev, Env.get, Heap.get, takeN, cut, aggOf, OutOK_stop, undefS, undef, List.size_toArray, List.length_cons, List.length_nil, List.range, List.range.loop, List.getElem?_toArray, List.getElem?_cons_succ, List.getElem?_cons_zero, Option.bind_some, Option.getD_some, Option.isSome_some, ↓reduceIte, Nat.reduceAdd, Nat.reduceLT, Nat.reduceEqDiff, Nat.zero_add, Nat.add_one_ne_zero, Int.reduceNeg, Bool.not_true, decide_true, decide_false, and_self, wrap_i64, Tryd.sz3, Tryd.ag3, Tryd.fd31f1, hv, g1, g2]
                refine Sat.via (fun i => i) (hy) (by intro i j; (repeat (first | omega | split))) (by repeat' (first | exact EnvVia.nil | refine EnvVia.cons (by first | trivial | decide | (simp [SV.bnd, SV.bndL]; done)) rfl ?_)) (by repeat' (first | exact HeapVia.nil | refine HeapVia.cons (by decide) (by first | trivial | (simp [Blk.bnd, SV.bnd, SV.bndL]; done) | exact bndL_mapV _ _ _ | exact LR.bnd (by rw [l2]; simp [bndE, SV.bnd, SV.bndL]) (by rw [l6]; decide)) (by first | rfl | (simp only [Blk.ren, renL_mapV]; rfl) | (rw [LR.ren (by rw [l2] <;> rfl) (by rw [l6] <;> rfl)]; rfl)) ?_)) ⟨by have := hκ.hm; (try dsimp only at this); (first | done | omega), fun i hi => by have := hκ.hm; (try dsimp only at this); (first | omega | (dsimp only; omega) | (rw [if_neg (by omega)]))⟩ ⟨by simp, rfl⟩
            · have g1 : (a = p.2) = False := by simp [e1]
              rw [if_neg (by rw [hih]; simp [e1])] at ho
              have hy := hz out cap (by omega) ho
              simp (disch := omega) only [exec_succ, runR_next, runR_fork_false, runR_guard_tt, runR_guard_ft, runR_stop, stepS, runOp, guardS, condS, toSR, sop, rOf, sPick, sLoadIn, sLoad, sInt, sBin, sFieldAddr, ev, Env.get, Heap.get, takeN, cut, aggOf, OutOK_stop, undefS, undef, List.size_toArray, List.length_cons, List.length_nil, List.range, List.range.loop, List.getElem?_toArray, List.getElem?_cons_succ, List.getElem?_cons_zero, Option.bind_some, Option.getD_some, Option.isSome_some, ↓reduceIte, Nat.reduceAdd, Nat.reduceLT, Nat.reduceEqDiff, Nat.zero_add, Nat.add_one_ne_zero, Int.reduceNeg, Bool.not_true, decide_false, and_self, wrap_i64, Tryd.sz3, Tryd.ag3, Tryd.fd31f1, hv, g1]
              refine Sat.via (fun i => i) (hy) (by intro i j; (repeat (first | omega | split))) (by repeat' (first | exact EnvVia.nil | refine EnvVia.cons (by first | trivial | decide | (simp [SV.bnd, SV.bndL]; done)) rfl ?_)) (by repeat' (first | exact HeapVia.nil | refine HeapVia.cons (by decide) (by first | trivial | (simp [Blk.bnd, SV.bnd, SV.bndL]; done) | exact bndL_mapV _ _ _ | exact LR.bnd (by rw [l2]; simp [bndE, SV.bnd, SV.bndL]) (by rw [l6]; decide)) (by first | rfl | (simp only [Blk.ren, renL_mapV]; rfl) | (rw [LR.ren (by rw [l2] <;> rfl) (by rw [l6] <;> rfl)]; rfl)) ?_)) ⟨by have := hκ.hm; (try dsimp only at this); (first | done | omega), fun i hi => by have := hκ.hm; (try dsimp only at this); (first | omega | (dsimp only; omega) | (rw [if_neg (by omega)]))⟩ ⟨by simp, rfl⟩
        · simp (disch := omega) only [exec_succ, runR_next, runR_stop, stepS, runOp, goS, toSR, sop, rOf, ev, Env.get, exitTo, OutOK_stop, List.size_toArray, List.length_cons, List.length_nil, List.range, List.range.loop, List.getElem?_toArray, List.getElem?_cons_succ, List.getElem?_cons_zero, ↓reduceIte, Nat.reduceAdd, Nat.reduceLT, Nat.reduceEqDiff, Nat.zero_add, Int.reduceNeg, beq_self_eq_true]
          obtain rfl : j = puts.length := by omega
          rw [List.drop_length, homeN, List.filter_nil, List.map_nil, List.append_nil] at ho
          subst ho
          have et : List.take (homeN l puts).length (List.map (eI .i64) (homeN l puts)) = List.map (eI .i64) (homeN l puts) := List.take_of_length_le (by simp)
          refine hκ.ret _ _ _ _ _ _ trivial rfl ?_
          refine Post.frz [1] (by first | (simp [lendPL, lendP, lendSlP, dropL, Heap.get, Heap.drop, resV]; done) | (simp [lendPL, lendP, lendSlP, dropL, Heap.get, Heap.drop, resV]; omega)) ?_
          simp only [resV, lendL, lendS, lendSl, dropL, Heap.drop, Heap.get, List.mem_singleton, List.mem_cons, List.not_mem_nil, or_false, or_true, true_or, List.drop_zero, Nat.reduceEqDiff, Nat.one_ne_zero, Nat.zero_ne_one, ↓reduceIte, et]
          exact .ret (by simp [SV.bnd, SV.bndL])
end Go.Proofs.YtgnkhcnpjediaaaDoor

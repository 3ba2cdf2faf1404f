/- The wait; the spread. No condition. -/
import Derived.Test.YtomfpciigaopiaaAp
import Derived.Test.YtomfpciigaopiaaAn
namespace Go.Proofs.Ytomfpciigaopiaa
open Go Go.Sy
set_option maxRecDepth 100000
set_option linter.unusedSimpArgs false
set_option linter.unusedVariables false

/-- What a vCPU ahead costs. -/
def workV (p : Pt) : Int := (268435457 * p.1 + p.2 - 1) / p.2
def othV (p : Pt) (k : Nat) (i : Int) : Int := if (k : Int) = i then p.2 - 1 else p.2
def wtK (l : List Pt) (i gap : Int) : Nat → Int
  | 0 => 1000000 + 2 * gap
  | k + 1 => wtK l i gap k + othV (l.getD k default) k i * (workV (l.getD k default) + 1000000 + gap)
theorem workV_bd {p : Pt} (h : okP p = true) : 1 ≤ workV p ∧ workV p ≤ 17591917674502 := by
  obtain ⟨h1, h2⟩ := (okP_iff p).1 h
  rw [workV]
  refine ⟨Int.le_ediv_of_mul_le (by omega) (by omega), ?_⟩
  have := Int.ediv_le_self (a := 268435457 * p.1 + p.2 - 1) p.2 (by omega)
  omega
theorem ceil_eq {x c : Int} (hc : 0 < c) : (x + c - 1) / c = (if x / c * c < x then x / c + 1 else x / c) := by
  have h1 := Int.mul_ediv_add_emod x c
  have h2 := Int.emod_nonneg x (show c ≠ 0 by omega)
  have h3 := Int.emod_lt_of_pos x hc
  generalize x % c = r at *
  generalize x / c = q at *
  subst h1
  rw [show c * q + r + c - 1 = (r + c - 1) + c * q by omega, Int.add_mul_ediv_left _ _ (by omega), Int.mul_comm q c]
  split
  · rw [show r + c - 1 = (r - 1) + c * 1 by omega, Int.add_mul_ediv_left _ _ (by omega), Int.ediv_eq_zero_of_lt (by omega) (by omega)]; omega
  · rw [Int.ediv_eq_zero_of_lt (by omega) (by omega)]; omega
theorem work_eq {p : Pt} (h : okP p = true) : workV p = (if 268435457 * p.1 / p.2 * p.2 < 268435457 * p.1 then 268435457 * p.1 / p.2 + 1 else 268435457 * p.1 / p.2) := by
  obtain ⟨h1, h2⟩ := (okP_iff p).1 h
  exact ceil_eq (by omega)
theorem othV_bd {p : Pt} {k : Nat} {i : Int} (h : okP p = true) : 0 ≤ othV p k i ∧ othV p k i ≤ 8 := by
  obtain ⟨h1, h2⟩ := (okP_iff p).1 h
  rw [othV]; split <;> omega
theorem cost_bd {a X gap : Int} (h0 : 0 ≤ a) (h8 : a ≤ 8) (hg : 1 ≤ gap ∧ gap ≤ 10000000) (h : 1 ≤ X ∧ X ≤ 17591917674502) : 0 ≤ a * (X + 1000000 + gap) ∧ a * (X + 1000000 + gap) ≤ 140735429396016 := by
  have : a = 0 ∨ a = 1 ∨ a = 2 ∨ a = 3 ∨ a = 4 ∨ a = 5 ∨ a = 6 ∨ a = 7 ∨ a = 8 := by omega
  rcases this with rfl | rfl | rfl | rfl | rfl | rfl | rfl | rfl | rfl <;> omega
theorem wtK_bd {l : List Pt} {i gap : Int} (hall : ∀ p ∈ l, okP p = true) (hg : 1 ≤ gap ∧ gap ≤ 10000000) : ∀ k, k ≤ l.length → 1000000 + 2 * gap ≤ wtK l i gap k ∧ wtK l i gap k ≤ 21000000 + 140735429396016 * k
  | 0, _ => by rw [wtK]; omega
  | k + 1, h => by
    have h1 := wtK_bd hall hg (i := i) k (by omega)
    have hp := hall _ (getD_mem (show k < l.length by omega))
    have h3 := othV_bd (k := k) (i := i) hp
    have h2 := cost_bd h3.1 h3.2 hg (workV_bd hp)
    rw [wtK]
    generalize othV (l.getD k default) k i * (workV (l.getD k default) + 1000000 + gap) = x at *
    omega
theorem Wait_no (l : List Pt) (i gap : Int) (hl : ∀ p ∈ l, inP p) (hn : l.length < 2 ^ 40) (h : askE l (inI i 0 (l.length - 1) && inI gap 1 10000000) ≠ 0) : Con Try.prog gl0 (fnv 20) [Ps l, I i, I gap] 0 [] (Ret (.tup [I 0, I (askE l (inI i 0 (l.length - 1) && inI gap 1 10000000))])) := by
  have c1 := asked_ok l (inI i 0 (l.length - 1) && inI gap 1 10000000) hl hn
  have c2 := within_ok gap 1 10000000
  refine Con.of Try.ok20 (nt := 68) (res := [.tmp 6, .tmp 7]) Try.mixed Try.func20 rfl rfl rfl rfl fun κ xc hκ => hκ.run 300 ?_
  simp (disch := omega) only [exec_succ, runR_next, stepS, runOp, guardS, toSR, sop, rOf, sInt, sBin, ev, Env.get, envOf, undefS, undef, List.size_toArray, List.length_cons, List.length_nil, List.range, List.range.loop, List.getElem?_toArray, List.getElem?_cons_succ, List.getElem?_cons_zero, Option.bind_some, ↓reduceIte, Nat.reduceAdd, Nat.reduceLT, Nat.reduceEqDiff, Nat.zero_add, Nat.add_one_ne_zero, Bool.not_true, and_self, reduceCtorEq, gl0]
  by_cases h0 : 0 ≤ i
  · by_cases h1 : i < l.length
    · rw [(inI_iff _ _ _).2 (by omega), Bool.true_and] at hκ c1 h
      simp (disch := omega) only [sBuiltin, exec_succ, runR_next, runR_guard_tt, runR_call, stepS, runOp, guardS, toSR, sop, rOf, sPick, sInt, sBin, sLen, ev, evs, Env.get, OutOK_call, undefS, undef, List.length_map, List.getElem?_toArray, List.getElem?_cons_succ, List.getElem?_cons_zero, Option.bind_some, ↓reduceIte, Nat.reduceLT, Nat.reduceEqDiff, Nat.add_one_ne_zero, Bool.not_true, decide_true, and_self, reduceCtorEq, Try.underlying22, h0, h1]
      refine Does.ret hκ.hP hκ.hgl (c2) ⟨trivial, by simp [SV.bnd, SV.bndL], by first | (simp [SV.bnd, SV.bndL]; done) | assumption⟩ ?_
      refine hκ.run 300 ?_
      simp (disch := omega) only [exec_succ, runR_next, runR_call, stepS, runOp, toSR, sop, rOf, sPick, ev, evs, Env.get, setO, OutOK_call, List.getElem?_toArray, List.getElem?_cons_succ, List.getElem?_cons_zero, ↓reduceIte, Nat.reduceLT, Nat.reduceEqDiff, gl0]
      refine Does.ret hκ.hP hκ.hgl (c1) ⟨trivial, by simp [SV.bnd, SV.bndL], by first | (simp [SV.bnd, SV.bndL]; done) | assumption⟩ ?_
      refine hκ.run 300 ?_
      simp (disch := omega) only [exec_succ, runR_next, runR_fork_true, runR_stop, stepS, runOp, condS, toSR, sop, rOf, sInt, sBin, ev, Env.get, setO, OutOK_stop, List.size_toArray, List.length_cons, List.length_nil, List.range, List.range.loop, List.getElem?_toArray, List.getElem?_cons_succ, List.getElem?_cons_zero, ↓reduceIte, Nat.reduceAdd, Nat.reduceLT, Nat.reduceEqDiff, Nat.zero_add, Bool.not_false, decide_false, gl0, h]
      refine hκ.ret _ _ _ _ _ _ trivial rfl ?_
      exact .ret (by simp [SV.bnd, SV.bndL])
    · rw [inI_no (by omega), Bool.false_and] at hκ c1 h
      simp (disch := omega) only [sBuiltin, exec_succ, runR_next, runR_guard_tt, runR_guard_ft, runR_call, stepS, runOp, guardS, toSR, sop, rOf, sPick, sInt, sBin, sLen, ev, evs, Env.get, OutOK_call, undefS, undef, List.length_map, List.getElem?_toArray, List.getElem?_cons_succ, List.getElem?_cons_zero, Option.bind_some, ↓reduceIte, Nat.reduceLT, Nat.reduceEqDiff, Nat.add_one_ne_zero, Bool.not_true, decide_true, decide_false, and_self, reduceCtorEq, Try.underlying22, h0, h1]
      refine Does.ret hκ.hP hκ.hgl (c1) ⟨trivial, by simp [SV.bnd, SV.bndL], by first | (simp [SV.bnd, SV.bndL]; done) | assumption⟩ ?_
      refine hκ.run 300 ?_
      simp (disch := omega) only [exec_succ, runR_next, runR_fork_true, runR_stop, stepS, runOp, condS, toSR, sop, rOf, sInt, sBin, ev, Env.get, setO, OutOK_stop, List.size_toArray, List.length_cons, List.length_nil, List.range, List.range.loop, List.getElem?_toArray, List.getElem?_cons_succ, List.getElem?_cons_zero, ↓reduceIte, Nat.reduceAdd, Nat.reduceLT, Nat.reduceEqDiff, Nat.zero_add, Bool.not_false, decide_false, gl0, h]
      refine hκ.ret _ _ _ _ _ _ trivial rfl ?_
      exact .ret (by simp [SV.bnd, SV.bndL])
  · rw [inI_no (by omega), Bool.false_and] at hκ c1 h
    simp (disch := omega) only [sBuiltin, exec_succ, runR_next, runR_guard_ft, runR_call, stepS, runOp, guardS, toSR, sop, rOf, sPick, sBin, sLen, ev, evs, Env.get, OutOK_call, undefS, undef, List.getElem?_toArray, List.getElem?_cons_succ, List.getElem?_cons_zero, Option.bind_some, ↓reduceIte, Nat.reduceLT, Nat.reduceEqDiff, Nat.add_one_ne_zero, Bool.not_true, decide_false, and_self, reduceCtorEq, h0]
    refine Does.ret hκ.hP hκ.hgl (c1) ⟨trivial, by simp [SV.bnd, SV.bndL], by first | (simp [SV.bnd, SV.bndL]; done) | assumption⟩ ?_
    refine hκ.run 300 ?_
    simp (disch := omega) only [exec_succ, runR_next, runR_fork_true, runR_stop, stepS, runOp, condS, toSR, sop, rOf, sInt, sBin, ev, Env.get, setO, OutOK_stop, List.size_toArray, List.length_cons, List.length_nil, List.range, List.range.loop, List.getElem?_toArray, List.getElem?_cons_succ, List.getElem?_cons_zero, ↓reduceIte, Nat.reduceAdd, Nat.reduceLT, Nat.reduceEqDiff, Nat.zero_add, Bool.not_false, decide_false, gl0, h]
    refine hκ.ret _ _ _ _ _ _ trivial rfl ?_
    exact .ret (by simp [SV.bnd, SV.bndL])
theorem Wait_yes (l : List Pt) (i : Nat) (gap : Int) (hl : ∀ p ∈ l, inP p) (hr : rightP l = true) (hi : i < l.length) (hg : 1 ≤ gap ∧ gap ≤ 10000000) : Con Try.prog gl0 (fnv 20) [Ps l, I i, I gap] 0 [] (Ret (.tup [I (wtK l i gap l.length), I 0])) := by
  obtain ⟨hn, hall, -⟩ := (rightP_iff l).1 hr
  have c1 := asked_ok l true hl (by omega)
  rw [askE, if_pos hr, if_pos rfl] at c1
  have c2 := within_ok gap 1 10000000
  rw [(inI_iff _ _ _).2 hg] at c2
  have h0 : (0 : Int) ≤ i := by omega
  have h1 : (i : Int) < l.length := by omega
  refine Con.of Try.ok20 (nt := 68) (res := [.tmp 6, .tmp 7]) Try.mixed Try.func20 rfl rfl rfl rfl fun κ xc hκ => hκ.run 300 ?_
  simp (disch := omega) only [exec_succ, runR_next, stepS, runOp, guardS, toSR, sop, rOf, sInt, sBin, ev, Env.get, envOf, undefS, undef, List.size_toArray, List.length_cons, List.length_nil, List.range, List.range.loop, List.getElem?_toArray, List.getElem?_cons_succ, List.getElem?_cons_zero, Option.bind_some, ↓reduceIte, Nat.reduceAdd, Nat.reduceLT, Nat.reduceEqDiff, Nat.zero_add, Nat.add_one_ne_zero, Bool.not_true, and_self, reduceCtorEq, gl0]
  simp (disch := omega) only [sBuiltin, exec_succ, runR_next, runR_guard_tt, runR_call, stepS, runOp, guardS, toSR, sop, rOf, sPick, sInt, sBin, sLen, ev, evs, Env.get, OutOK_call, undefS, undef, List.length_map, List.getElem?_toArray, List.getElem?_cons_succ, List.getElem?_cons_zero, Option.bind_some, ↓reduceIte, Nat.reduceLT, Nat.reduceEqDiff, Nat.add_one_ne_zero, Bool.not_true, decide_true, and_self, reduceCtorEq, Try.underlying22, h0, h1]
  refine Does.ret hκ.hP hκ.hgl (c2) ⟨trivial, by simp [SV.bnd, SV.bndL], by first | (simp [SV.bnd, SV.bndL]; done) | assumption⟩ ?_
  refine hκ.run 300 ?_
  simp (disch := omega) only [exec_succ, runR_next, runR_call, stepS, runOp, toSR, sop, rOf, sPick, ev, evs, Env.get, setO, OutOK_call, List.getElem?_toArray, List.getElem?_cons_succ, List.getElem?_cons_zero, ↓reduceIte, Nat.reduceLT, Nat.reduceEqDiff, gl0]
  refine Does.ret hκ.hP hκ.hgl (c1) ⟨trivial, by simp [SV.bnd, SV.bndL], by first | (simp [SV.bnd, SV.bndL]; done) | assumption⟩ ?_
  refine hκ.run 300 ?_
  simp (disch := omega) only [sBuiltin, exec_succ, runR_next, runR_fork_false, runR_stop, stepS, runOp, condS, toSR, sop, rOf, sInt, sBin, sLen, ev, Env.get, setO, OutOK_stop, List.size_toArray, List.length_cons, List.length_nil, List.length_map, List.range, List.range.loop, List.getElem?_toArray, List.getElem?_cons_succ, List.getElem?_cons_zero, ↓reduceIte, Nat.reduceAdd, Nat.reduceLT, Nat.reduceEqDiff, Nat.zero_add, Nat.add_one_ne_zero, Bool.not_true, decide_true, reduceCtorEq, wrap_i64, gl0, Try.underlying22]
  refine Sat.less (Sat.loop (γ := Nat) (fun k => ([(36, I k), (35, I l.length), (34, Ps l), (9, I (wtK l i gap k)), (1, I i), (2, I gap)], [], 0)) (fun k => l.length - k) (fun k => k ≤ l.length) ?round 0 (Nat.zero_le _)) (by repeat' (first | exact EnvSub.nil _ | exact HeapSub.nil _ | refine EnvSub.cons rfl ?_ | refine HeapSub.cons rfl ?_ | (refine EnvSub.cons (by simp [Env.get]; done) ?_) | (refine HeapSub.cons (by simp [Heap.get]; done) ?_))) (by repeat' (first | exact EnvSub.nil _ | exact HeapSub.nil _ | refine EnvSub.cons rfl ?_ | refine HeapSub.cons rfl ?_ | (refine EnvSub.cons (by simp [Env.get]; done) ?_) | (refine HeapSub.cons (by simp [Heap.get]; done) ?_)))
  case round =>
    intro k hk ih
    dsimp only at ih ⊢
    have hb := wtK_bd (i := i) hall hg k hk
    refine hκ.run 300 ?_
    simp (disch := omega) only [exec_succ, runR_next, stepS, runOp, condS, toSR, sop, sInt, sBin, ev, Env.get, List.size_toArray, List.length_cons, List.length_nil, List.range, List.range.loop, List.getElem?_toArray, List.getElem?_cons_zero, ↓reduceIte, Nat.reduceLT, Nat.reduceEqDiff, Nat.zero_add, gl0]
    refine OutOK_fork (fun h => ?_) (fun h => ?_) <;> try simp only [Bool.not_true, Bool.not_false, decide_eq_true_eq, decide_eq_false_iff_not, Bool.not_eq_true', Bool.not_eq_false', Bool.and_eq_true, Bool.or_eq_false_iff, Bool.or_eq_true, Bool.and_eq_false_iff] at h
    · have hz := ih (k + 1) (by omega) (by omega)
      rw [wtK, othV] at hz
      have hp := hall _ (getD_mem (show k < l.length by omega))
      have hp2 := (okP_iff _).1 hp
      have g1 : (List.map eP l).getD k [] = eP (l.getD k default) := getD_map _ _ _ (by omega)
      have h2 := workV_bd hp
      generalize wtK l i gap k = n at *
      generalize l.getD k default = p at *
      have hd : (p.2 = 0) = False := by simp only [eq_iff_iff, iff_false]; omega
      have ht : (268435457 * p.1 + p.2 - 1) / p.2 = workV p := rfl
      by_cases hki : (k : Int) = i
      · rw [if_pos hki] at hz
        have h3 := cost_bd (a := p.2 - 1) (by omega) (by omega) hg h2
        generalize workV p = x at *
        have e1 : ((k : Int) = (i : Int)) = True := eq_true hki
        simp (disch := omega) only [exec_succ, runR_next, runR_need, runR_fork_true, runR_stop, stepS, runOp, condS, toSR, sop, rOf, rNew, sAlloc, sAlloc0, sLoadIn, sLoad, sStoreIn, sStore, sInt, sBin, sFieldAddr, sIndexAddr, elemT, obind, ev, svs, Env.get, Heap.get, Heap.set, takeN, cut, over, paste, aggOf, cellsS, one, ones, Value.oneCell', OutOK_need, OutOK_stop, undefS, undef, List.size_toArray, List.length_cons, List.length_nil, List.length_map, List.range, List.range.loop, List.getElem?_toArray, List.getElem?_cons_succ, List.getElem?_cons_zero, List.map_cons, List.map_nil, ↓reduceIte, Nat.reduceAdd, Nat.reduceLT, Nat.reduceEqDiff, Nat.zero_add, Nat.add_zero, Nat.add_one_ne_zero, Int.toNat_natCast, decide_true, ne_eq, not_false_eq_true, true_and, and_self, forall_const, Int.tdiv_eq_ediv_of_nonneg, wrap_i64, Try.sz3, Try.ag3, Try.underlying22, Try.sz54, Try.ag54, Try.ze54, Try.ar54, Try.fd54f0, Try.fd54f1, g1, eP, hd, ht, e1]
        (repeat (refine ⟨by first | omega | (refine ⟨?_, ?_⟩ <;> omega) | trivial | (simp; done) | decide +kernel, fun _ => ?_⟩))
        refine Sat.via (fun i => i) (hz) (by intro i j; (repeat (first | omega | split))) (by repeat' (first | exact EnvVia.nil | refine EnvVia.cons (by first | trivial | decide | (simp [SV.bnd, SV.bndL]; done)) rfl ?_)) (by repeat' (first | exact HeapVia.nil | refine HeapVia.cons (by decide) (by first | trivial | (simp [Blk.bnd, SV.bnd, SV.bndL]; done) | exact bndL_mapV _ _ _ | exact LR.bnd (by rw [l2]; simp [bndE, SV.bnd, SV.bndL]) (by rw [l6]; decide)) (by first | rfl | (simp only [Blk.ren, renL_mapV]; rfl) | (rw [LR.ren (by rw [l2] <;> rfl) (by rw [l6] <;> rfl)]; rfl)) ?_)) ⟨by have := hκ.hm; (try dsimp only at this); (first | done | omega), fun i hi => by have := hκ.hm; (try dsimp only at this); (first | omega | (dsimp only; omega) | (rw [if_neg (by omega)]))⟩ ⟨by simp, rfl⟩
      · rw [if_neg hki] at hz
        have h3 := cost_bd (a := p.2) (by omega) (by omega) hg h2
        generalize workV p = x at *
        have e1 : ((k : Int) = (i : Int)) = False := eq_false hki
        simp (disch := omega) only [exec_succ, runR_next, runR_need, runR_fork_false, runR_stop, stepS, runOp, condS, toSR, sop, rOf, rNew, sAlloc, sAlloc0, sLoadIn, sLoad, sStoreIn, sStore, sInt, sBin, sFieldAddr, sIndexAddr, elemT, obind, ev, svs, Env.get, Heap.get, Heap.set, takeN, cut, over, paste, aggOf, cellsS, one, ones, Value.oneCell', OutOK_need, OutOK_stop, undefS, undef, List.size_toArray, List.length_cons, List.length_nil, List.length_map, List.range, List.range.loop, List.getElem?_toArray, List.getElem?_cons_succ, List.getElem?_cons_zero, List.map_cons, List.map_nil, ↓reduceIte, Nat.reduceAdd, Nat.reduceLT, Nat.reduceEqDiff, Nat.zero_add, Nat.add_zero, Nat.add_one_ne_zero, Int.toNat_natCast, decide_false, ne_eq, not_false_eq_true, true_and, and_self, forall_const, Int.tdiv_eq_ediv_of_nonneg, wrap_i64, Try.sz3, Try.ag3, Try.underlying22, Try.sz54, Try.ag54, Try.ze54, Try.ar54, Try.fd54f0, Try.fd54f1, g1, eP, hd, ht, e1]
        (repeat (refine ⟨by first | omega | (refine ⟨?_, ?_⟩ <;> omega) | trivial | (simp; done) | decide +kernel, fun _ => ?_⟩))
        refine Sat.via (fun i => i) (hz) (by intro i j; (repeat (first | omega | split))) (by repeat' (first | exact EnvVia.nil | refine EnvVia.cons (by first | trivial | decide | (simp [SV.bnd, SV.bndL]; done)) rfl ?_)) (by repeat' (first | exact HeapVia.nil | refine HeapVia.cons (by decide) (by first | trivial | (simp [Blk.bnd, SV.bnd, SV.bndL]; done) | exact bndL_mapV _ _ _ | exact LR.bnd (by rw [l2]; simp [bndE, SV.bnd, SV.bndL]) (by rw [l6]; decide)) (by first | rfl | (simp only [Blk.ren, renL_mapV]; rfl) | (rw [LR.ren (by rw [l2] <;> rfl) (by rw [l6] <;> rfl)]; rfl)) ?_)) ⟨by have := hκ.hm; (try dsimp only at this); (first | done | omega), fun i hi => by have := hκ.hm; (try dsimp only at this); (first | omega | (dsimp only; omega) | (rw [if_neg (by omega)]))⟩ ⟨by simp, rfl⟩
    · simp (disch := omega) only [exec_succ, runR_next, runR_stop, stepS, runOp, goS, toSR, sop, rOf, ev, Env.get, exitTo, OutOK_stop, List.size_toArray, List.length_cons, List.length_nil, List.range, List.range.loop, List.getElem?_toArray, List.getElem?_cons_succ, List.getElem?_cons_zero, ↓reduceIte, Nat.reduceAdd, Nat.reduceLT, Nat.reduceEqDiff, Nat.zero_add, beq_self_eq_true]
      obtain rfl : k = l.length := by omega
      refine hκ.ret _ _ _ _ _ _ trivial rfl ?_
      exact .ret (by simp [SV.bnd, SV.bndL])
/-- How many are ahead of a place among a party's own. -/
def cntV (k : Nat) (i : Int) (v : Nat) : Int := if (k : Int) = i ∧ 0 < v then (v : Int) - 1 else v
theorem rwait_ok (l : List Pt) (i : Nat) (gap : Int) (hr : rightP l = true) (hi : i < l.length) (hg : 1 ≤ gap ∧ gap ≤ 10000000) : Con Try.prog gl0 (fnv 23) [Ps l, I i, I gap] 0 [] (Ret (I (wtK l i gap l.length))) := by
  obtain ⟨hn, hall, -⟩ := (rightP_iff l).1 hr
  refine Con.of Try.ok23 (nt := 68) (res := [.tmp 6]) Try.mixed Try.func23 rfl rfl rfl rfl fun κ xc hκ => hκ.run 300 ?_
  simp (disch := omega) only [exec_succ, runR_next, runR_stop, stepS, runOp, toSR, sop, rOf, sInt, sBin, ev, Env.get, envOf, OutOK_stop, List.size_toArray, List.length_cons, List.length_nil, List.range, List.range.loop, List.getElem?_toArray, List.getElem?_cons_succ, List.getElem?_cons_zero, ↓reduceIte, Nat.reduceAdd, Nat.reduceLT, Nat.reduceEqDiff, Nat.zero_add, reduceCtorEq, wrap_i64, gl0]
  refine Sat.less (Sat.loop (γ := Nat) (fun k => ([(8, I k), (7, I (wtK l i gap k)), (0, Ps l), (1, I i), (2, I gap)], [], 0)) (fun k => l.length - k) (fun k => k ≤ l.length) ?round 0 (Nat.zero_le _)) (by repeat' (first | exact EnvSub.nil _ | exact HeapSub.nil _ | refine EnvSub.cons rfl ?_ | refine HeapSub.cons rfl ?_ | (refine EnvSub.cons (by simp [Env.get]; done) ?_) | (refine HeapSub.cons (by simp [Heap.get]; done) ?_))) (by repeat' (first | exact EnvSub.nil _ | exact HeapSub.nil _ | refine EnvSub.cons rfl ?_ | refine HeapSub.cons rfl ?_ | (refine EnvSub.cons (by simp [Env.get]; done) ?_) | (refine HeapSub.cons (by simp [Heap.get]; done) ?_)))
  case round =>
    intro k hk ih
    dsimp only at ih ⊢
    have hb := wtK_bd (i := i) hall hg k hk
    refine hκ.run 300 ?_
    simp (disch := omega) only [sBuiltin, exec_succ, runR_next, stepS, runOp, condS, toSR, sop, rOf, sInt, sBin, sLen, ev, Env.get, List.size_toArray, List.length_cons, List.length_nil, List.length_map, List.range, List.range.loop, List.getElem?_toArray, List.getElem?_cons_succ, List.getElem?_cons_zero, ↓reduceIte, Nat.reduceAdd, Nat.reduceLT, Nat.reduceEqDiff, Nat.zero_add, Nat.add_one_ne_zero, gl0, Try.underlying22]
    refine OutOK_fork (fun h => ?_) (fun h => ?_) <;> try simp only [Bool.not_true, Bool.not_false, decide_eq_true_eq, decide_eq_false_iff_not, Bool.not_eq_true', Bool.not_eq_false', Bool.and_eq_true, Bool.or_eq_false_iff, Bool.or_eq_true, Bool.and_eq_false_iff] at h
    · have hz := ih (k + 1) (by omega) (by omega)
      rw [wtK] at hz
      have hp := hall _ (getD_mem (show k < l.length by omega))
      have hp2 := (okP_iff _).1 hp
      have g1 : (List.map eP l).getD k [] = eP (l.getD k default) := getD_map _ _ _ (by omega)
      have h2 := workV_bd hp
      have hwe := work_eq hp
      generalize wtK l i gap k = n at *
      generalize l.getD k default = p at *
      have hd : (p.2 = 0) = False := by simp only [eq_iff_iff, iff_false]; omega
      have hq0 : 0 ≤ 268435457 * p.1 / p.2 := Int.ediv_nonneg (by omega) (by omega)
      have hq1 : 268435457 * p.1 / p.2 ≤ workV p := by rw [hwe]; split <;> omega
      have hq2 : 268435457 * p.1 / p.2 * p.2 ≤ 268435457 * p.1 := Int.ediv_mul_le _ (by omega)
      have hq3 : 0 ≤ 268435457 * p.1 / p.2 * p.2 := Int.mul_nonneg hq0 (by omega)
      have ht : 268435457 * p.1 / p.2 = 268435457 * p.1 / p.2 := rfl
      generalize hqq : 268435457 * p.1 / p.2 = q at *
      simp (disch := omega) only [exec_succ, runR_next, runR_stop, stepS, runOp, toSR, sop, rOf, ev, OutOK_stop, List.size_toArray, List.length_cons, List.length_nil, List.range, List.range.loop, List.getElem?_toArray, List.getElem?_cons_zero, ↓reduceIte, Nat.reduceLT, Nat.zero_add]
      refine Sat.less (Sat.loop (γ := Nat) (fun v => ([(9, I v), (8, I k), (7, I (n + cntV k i v * (workV p + 1000000 + gap))), (0, Ps l), (1, I i), (2, I gap)], [], 0)) (fun v => p.2.toNat - v) (fun v => v ≤ p.2.toNat) ?round2 0 (Nat.zero_le _)) (by rw [show cntV k i 0 = 0 by rw [cntV, if_neg (by omega)]; rfl, Int.zero_mul, Int.add_zero]; exact (by repeat' (first | exact EnvSub.nil _ | exact HeapSub.nil _ | refine EnvSub.cons rfl ?_ | refine HeapSub.cons rfl ?_ | (refine EnvSub.cons (by simp [Env.get]; done) ?_) | (refine HeapSub.cons (by simp [Heap.get]; done) ?_)))) (by repeat' (first | exact EnvSub.nil _ | exact HeapSub.nil _ | refine EnvSub.cons rfl ?_ | refine HeapSub.cons rfl ?_ | (refine EnvSub.cons (by simp [Env.get]; done) ?_) | (refine HeapSub.cons (by simp [Heap.get]; done) ?_)))
      case round2 =>
        intro v hv ih2
        dsimp only at ih2 ⊢
        refine hκ.run 300 ?_
        simp (disch := omega) only [exec_succ, runR_next, runR_need, stepS, runOp, condS, toSR, sop, rOf, sLoad, sInt, sBin, sFieldAddr, sIndexAddr, elemT, obind, ev, Env.get, takeN, cut, aggOf, OutOK_need, List.size_toArray, List.length_cons, List.length_nil, List.length_map, List.range, List.range.loop, List.getElem?_toArray, List.getElem?_cons_succ, List.getElem?_cons_zero, ↓reduceIte, Nat.reduceAdd, Nat.reduceLT, Nat.reduceEqDiff, Nat.zero_add, Nat.add_one_ne_zero, Int.toNat_natCast, gl0, Try.sz3, Try.ag3, Try.underlying22, Try.sz54, Try.fd54f1, g1, eP]
        (repeat (refine ⟨by first | omega | (refine ⟨?_, ?_⟩ <;> omega) | trivial | (simp; done) | decide +kernel, fun _ => ?_⟩))
        refine OutOK_fork (fun h => ?_) (fun h => ?_) <;> try simp only [Bool.not_true, Bool.not_false, decide_eq_true_eq, decide_eq_false_iff_not, Bool.not_eq_true', Bool.not_eq_false', Bool.and_eq_true, Bool.or_eq_false_iff, Bool.or_eq_true, Bool.and_eq_false_iff] at h
        · have hz2 := ih2 (v + 1) (by omega) (by omega)
          have hcv : 0 ≤ cntV k i v ∧ cntV k i v ≤ 8 := by rw [cntV]; split <;> omega
          have h3 := cost_bd hcv.1 hcv.2 hg h2
          by_cases hs : (k : Int) = i ∧ v = 0
          · obtain ⟨e1, rfl⟩ := hs
            rw [show cntV k i (0 + 1) = cntV k i 0 by rw [cntV, cntV, if_pos ⟨e1, by omega⟩, if_neg (by omega)]; rfl] at hz2
            have e1 : ((k : Int) = (i : Int)) = True := eq_true e1
            simp (disch := omega) only [exec_succ, runR_next, runR_fork_true, runR_guard_tt, runR_stop, stepS, runOp, guardS, condS, goS, toSR, sop, rOf, sPick, sInt, sBin, ev, Env.get, exitTo, OutOK_stop, undefS, undef, Int.zero_add, Int.cast_ofNat_Int, List.size_toArray, List.length_cons, List.length_nil, List.range, List.range.loop, List.getElem?_toArray, List.getElem?_cons_succ, List.getElem?_cons_zero, Option.bind_some, ↓reduceIte, Nat.reduceAdd, Nat.reduceLT, Nat.reduceEqDiff, Nat.zero_add, Bool.not_true, decide_true, beq_self_eq_true, and_self, reduceCtorEq, wrap_i64, e1]
            (repeat (refine ⟨by first | omega | (refine ⟨?_, ?_⟩ <;> omega) | trivial | (simp; done) | decide +kernel, fun _ => ?_⟩))
            refine Sat.via (fun i => i) (hz2) (by intro i j; (repeat (first | omega | split))) (by repeat' (first | exact EnvVia.nil | refine EnvVia.cons (by first | trivial | decide | (simp [SV.bnd, SV.bndL]; done)) rfl ?_)) (by repeat' (first | exact HeapVia.nil | refine HeapVia.cons (by decide) (by first | trivial | (simp [Blk.bnd, SV.bnd, SV.bndL]; done) | exact bndL_mapV _ _ _ | exact LR.bnd (by rw [l2]; simp [bndE, SV.bnd, SV.bndL]) (by rw [l6]; decide)) (by first | rfl | (simp only [Blk.ren, renL_mapV]; rfl) | (rw [LR.ren (by rw [l2] <;> rfl) (by rw [l6] <;> rfl)]; rfl)) ?_)) ⟨by have := hκ.hm; (try dsimp only at this); (first | done | omega), fun i hi => by have := hκ.hm; (try dsimp only at this); (first | omega | (dsimp only; omega) | (rw [if_neg (by omega)]))⟩ ⟨by simp, rfl⟩
          · rw [show cntV k i (v + 1) = cntV k i v + 1 by
              rw [cntV, cntV]
              by_cases e : (k : Int) = i
              · have : 0 < v := Nat.pos_of_ne_zero fun e2 => hs ⟨e, e2⟩
                rw [if_pos ⟨e, by omega⟩, if_pos ⟨e, this⟩]; omega
              · rw [if_neg (fun h => e h.1), if_neg (fun h => e h.1)]; omega, Int.add_mul, Int.one_mul] at hz2
            generalize cntV k i v * (workV p + 1000000 + gap) = y at *
            have e2 : (v : Int) = 0 → ¬ (k : Int) = (i : Int) := fun h1 h2 => hs ⟨h2, by omega⟩
            by_cases hc : q * p.2 < 268435457 * p.1
            · rw [if_pos hc] at hwe
              rw [hwe, show n + (y + (q + 1 + 1000000 + gap)) = n + y + (q + 1) + 1000000 + gap by omega] at hz2
              by_cases e1 : (k : Int) = (i : Int)
              · have e3 : ((v : Int) = 0) = False := by simp only [eq_iff_iff, iff_false]; exact fun h => e2 h e1
                have e1 : ((k : Int) = (i : Int)) = True := eq_true e1
                simp (disch := omega) only [exec_succ, runR_next, runR_need, runR_fork_true, runR_fork_false, runR_guard_tt, runR_stop, stepS, runOp, guardS, condS, toSR, sop, rOf, sPick, sLoad, sInt, sBin, sFieldAddr, sIndexAddr, elemT, obind, ev, Env.get, takeN, cut, aggOf, OutOK_need, OutOK_stop, undefS, undef, List.size_toArray, List.length_cons, List.length_nil, List.length_map, List.range, List.range.loop, List.getElem?_toArray, List.getElem?_cons_succ, List.getElem?_cons_zero, Option.bind_some, ↓reduceIte, Nat.reduceAdd, Nat.reduceLT, Nat.reduceEqDiff, Nat.zero_add, Nat.add_zero, Nat.add_one_ne_zero, Int.toNat_natCast, Bool.not_true, decide_true, decide_false, ne_eq, not_false_eq_true, true_and, and_self, forall_const, reduceCtorEq, Int.tdiv_eq_ediv_of_nonneg, wrap_i64, Try.sz3, Try.ag3, Try.underlying22, Try.sz54, Try.fd54f0, Try.fd54f1, g1, eP, hd, hqq, e1, e3, hc]
                (repeat (refine ⟨by first | omega | (refine ⟨?_, ?_⟩ <;> omega) | trivial | (simp; done) | decide +kernel, fun _ => ?_⟩))
                refine Sat.via (fun i => i) (hz2) (by intro i j; (repeat (first | omega | split))) (by repeat' (first | exact EnvVia.nil | refine EnvVia.cons (by first | trivial | decide | (simp [SV.bnd, SV.bndL]; done)) rfl ?_)) (by repeat' (first | exact HeapVia.nil | refine HeapVia.cons (by decide) (by first | trivial | (simp [Blk.bnd, SV.bnd, SV.bndL]; done) | exact bndL_mapV _ _ _ | exact LR.bnd (by rw [l2]; simp [bndE, SV.bnd, SV.bndL]) (by rw [l6]; decide)) (by first | rfl | (simp only [Blk.ren, renL_mapV]; rfl) | (rw [LR.ren (by rw [l2] <;> rfl) (by rw [l6] <;> rfl)]; rfl)) ?_)) ⟨by have := hκ.hm; (try dsimp only at this); (first | done | omega), fun i hi => by have := hκ.hm; (try dsimp only at this); (first | omega | (dsimp only; omega) | (rw [if_neg (by omega)]))⟩ ⟨by simp, rfl⟩
              · have e1 : ((k : Int) = (i : Int)) = False := eq_false e1
                simp (disch := omega) only [exec_succ, runR_next, runR_need, runR_fork_true, runR_fork_false, runR_guard_ft, runR_stop, stepS, runOp, guardS, condS, toSR, sop, rOf, sPick, sLoad, sInt, sEq, sEqR, sBin, sFieldAddr, sIndexAddr, elemT, obind, ev, Env.get, takeN, cut, aggOf, OutOK_need, OutOK_stop, undefS, undef, List.size_toArray, List.length_cons, List.length_nil, List.length_map, List.range, List.range.loop, List.getElem?_toArray, List.getElem?_cons_succ, List.getElem?_cons_zero, Option.bind_some, ↓reduceIte, Nat.reduceAdd, Nat.reduceLT, Nat.reduceEqDiff, Nat.zero_add, Nat.add_zero, Nat.add_one_ne_zero, Int.toNat_natCast, Bool.not_true, decide_true, decide_false, ne_eq, not_false_eq_true, true_and, and_self, forall_const, reduceCtorEq, Int.tdiv_eq_ediv_of_nonneg, wrap_i64, Try.sz3, Try.ag3, Try.underlying22, Try.sz54, Try.fd54f0, Try.fd54f1, g1, eP, hd, hqq, e1, hc]
                (repeat (refine ⟨by first | omega | (refine ⟨?_, ?_⟩ <;> omega) | trivial | (simp; done) | decide +kernel, fun _ => ?_⟩))
                refine Sat.via (fun i => i) (hz2) (by intro i j; (repeat (first | omega | split))) (by repeat' (first | exact EnvVia.nil | refine EnvVia.cons (by first | trivial | decide | (simp [SV.bnd, SV.bndL]; done)) rfl ?_)) (by repeat' (first | exact HeapVia.nil | refine HeapVia.cons (by decide) (by first | trivial | (simp [Blk.bnd, SV.bnd, SV.bndL]; done) | exact bndL_mapV _ _ _ | exact LR.bnd (by rw [l2]; simp [bndE, SV.bnd, SV.bndL]) (by rw [l6]; decide)) (by first | rfl | (simp only [Blk.ren, renL_mapV]; rfl) | (rw [LR.ren (by rw [l2] <;> rfl) (by rw [l6] <;> rfl)]; rfl)) ?_)) ⟨by have := hκ.hm; (try dsimp only at this); (first | done | omega), fun i hi => by have := hκ.hm; (try dsimp only at this); (first | omega | (dsimp only; omega) | (rw [if_neg (by omega)]))⟩ ⟨by simp, rfl⟩
            · rw [if_neg hc] at hwe
              rw [hwe, show n + (y + (q + 1000000 + gap)) = n + y + q + 1000000 + gap by omega] at hz2
              by_cases e1 : (k : Int) = (i : Int)
              · have e3 : ((v : Int) = 0) = False := by simp only [eq_iff_iff, iff_false]; exact fun h => e2 h e1
                have e1 : ((k : Int) = (i : Int)) = True := eq_true e1
                simp (disch := omega) only [exec_succ, runR_next, runR_need, runR_fork_false, runR_guard_tt, runR_stop, stepS, runOp, guardS, condS, toSR, sop, rOf, sPick, sLoad, sInt, sBin, sFieldAddr, sIndexAddr, elemT, obind, ev, Env.get, takeN, cut, aggOf, OutOK_need, OutOK_stop, undefS, undef, List.size_toArray, List.length_cons, List.length_nil, List.length_map, List.range, List.range.loop, List.getElem?_toArray, List.getElem?_cons_succ, List.getElem?_cons_zero, Option.bind_some, ↓reduceIte, Nat.reduceAdd, Nat.reduceLT, Nat.reduceEqDiff, Nat.zero_add, Nat.add_zero, Nat.add_one_ne_zero, Int.toNat_natCast, Bool.not_true, decide_true, decide_false, ne_eq, not_false_eq_true, true_and, and_self, forall_const, reduceCtorEq, Int.tdiv_eq_ediv_of_nonneg, wrap_i64, Try.sz3, Try.ag3, Try.underlying22, Try.sz54, Try.fd54f0, Try.fd54f1, g1, eP, hd, hqq, e1, e3, hc]
                (repeat (refine ⟨by first | omega | (refine ⟨?_, ?_⟩ <;> omega) | trivial | (simp; done) | decide +kernel, fun _ => ?_⟩))
                refine Sat.via (fun i => i) (hz2) (by intro i j; (repeat (first | omega | split))) (by repeat' (first | exact EnvVia.nil | refine EnvVia.cons (by first | trivial | decide | (simp [SV.bnd, SV.bndL]; done)) rfl ?_)) (by repeat' (first | exact HeapVia.nil | refine HeapVia.cons (by decide) (by first | trivial | (simp [Blk.bnd, SV.bnd, SV.bndL]; done) | exact bndL_mapV _ _ _ | exact LR.bnd (by rw [l2]; simp [bndE, SV.bnd, SV.bndL]) (by rw [l6]; decide)) (by first | rfl | (simp only [Blk.ren, renL_mapV]; rfl) | (rw [LR.ren (by rw [l2] <;> rfl) (by rw [l6] <;> rfl)]; rfl)) ?_)) ⟨by have := hκ.hm; (try dsimp only at this); (first | done | omega), fun i hi => by have := hκ.hm; (try dsimp only at this); (first | omega | (dsimp only; omega) | (rw [if_neg (by omega)]))⟩ ⟨by simp, rfl⟩
              · have e1 : ((k : Int) = (i : Int)) = False := eq_false e1
                simp (disch := omega) only [exec_succ, runR_next, runR_need, runR_fork_false, runR_guard_ft, runR_stop, stepS, runOp, guardS, condS, toSR, sop, rOf, sPick, sLoad, sInt, sEq, sEqR, sBin, sFieldAddr, sIndexAddr, elemT, obind, ev, Env.get, takeN, cut, aggOf, OutOK_need, OutOK_stop, undefS, undef, List.size_toArray, List.length_cons, List.length_nil, List.length_map, List.range, List.range.loop, List.getElem?_toArray, List.getElem?_cons_succ, List.getElem?_cons_zero, Option.bind_some, ↓reduceIte, Nat.reduceAdd, Nat.reduceLT, Nat.reduceEqDiff, Nat.zero_add, Nat.add_zero, Nat.add_one_ne_zero, Int.toNat_natCast, Bool.not_true, decide_false, ne_eq, not_false_eq_true, true_and, and_self, forall_const, reduceCtorEq, Int.tdiv_eq_ediv_of_nonneg, wrap_i64, Try.sz3, Try.ag3, Try.underlying22, Try.sz54, Try.fd54f0, Try.fd54f1, g1, eP, hd, hqq, e1, hc]
                (repeat (refine ⟨by first | omega | (refine ⟨?_, ?_⟩ <;> omega) | trivial | (simp; done) | decide +kernel, fun _ => ?_⟩))
                refine Sat.via (fun i => i) (hz2) (by intro i j; (repeat (first | omega | split))) (by repeat' (first | exact EnvVia.nil | refine EnvVia.cons (by first | trivial | decide | (simp [SV.bnd, SV.bndL]; done)) rfl ?_)) (by repeat' (first | exact HeapVia.nil | refine HeapVia.cons (by decide) (by first | trivial | (simp [Blk.bnd, SV.bnd, SV.bndL]; done) | exact bndL_mapV _ _ _ | exact LR.bnd (by rw [l2]; simp [bndE, SV.bnd, SV.bndL]) (by rw [l6]; decide)) (by first | rfl | (simp only [Blk.ren, renL_mapV]; rfl) | (rw [LR.ren (by rw [l2] <;> rfl) (by rw [l6] <;> rfl)]; rfl)) ?_)) ⟨by have := hκ.hm; (try dsimp only at this); (first | done | omega), fun i hi => by have := hκ.hm; (try dsimp only at this); (first | omega | (dsimp only; omega) | (rw [if_neg (by omega)]))⟩ ⟨by simp, rfl⟩
        · have hv2 : v = p.2.toNat := by omega
          have e : cntV k i v = othV p k i := by
            rw [cntV, othV]
            by_cases e : (k : Int) = i
            · rw [if_pos ⟨e, by omega⟩, if_pos e]; omega
            · rw [if_neg (fun h => e h.1), if_neg e]; omega
          rw [e]
          simp (disch := omega) only [exec_succ, runR_next, runR_stop, stepS, runOp, goS, toSR, sop, rOf, sInt, sBin, ev, Env.get, exitTo, OutOK_stop, List.size_toArray, List.length_cons, List.length_nil, List.range, List.range.loop, List.getElem?_toArray, List.getElem?_cons_succ, List.getElem?_cons_zero, ↓reduceIte, Nat.reduceAdd, Nat.reduceLT, Nat.reduceEqDiff, Nat.zero_add, beq_self_eq_true, wrap_i64]
          refine Sat.via (fun i => i) (hz) (by intro i j; (repeat (first | omega | split))) (by repeat' (first | exact EnvVia.nil | refine EnvVia.cons (by first | trivial | decide | (simp [SV.bnd, SV.bndL]; done)) rfl ?_)) (by repeat' (first | exact HeapVia.nil | refine HeapVia.cons (by decide) (by first | trivial | (simp [Blk.bnd, SV.bnd, SV.bndL]; done) | exact bndL_mapV _ _ _ | exact LR.bnd (by rw [l2]; simp [bndE, SV.bnd, SV.bndL]) (by rw [l6]; decide)) (by first | rfl | (simp only [Blk.ren, renL_mapV]; rfl) | (rw [LR.ren (by rw [l2] <;> rfl) (by rw [l6] <;> rfl)]; rfl)) ?_)) ⟨by have := hκ.hm; (try dsimp only at this); (first | done | omega), fun i hi => by have := hκ.hm; (try dsimp only at this); (first | omega | (dsimp only; omega) | (rw [if_neg (by omega)]))⟩ ⟨by simp, rfl⟩
    · simp (disch := omega) only [exec_succ, runR_next, runR_stop, stepS, runOp, goS, toSR, sop, rOf, ev, Env.get, exitTo, OutOK_stop, List.size_toArray, List.length_cons, List.length_nil, List.range, List.range.loop, List.getElem?_toArray, List.getElem?_cons_succ, List.getElem?_cons_zero, ↓reduceIte, Nat.reduceAdd, Nat.reduceLT, Nat.reduceEqDiff, Nat.zero_add, beq_self_eq_true]
      obtain rfl : k = l.length := by omega
      refine hκ.ret _ _ _ _ _ _ trivial rfl ?_
      exact .ret (by simp [SV.bnd, SV.bndL])
end Go.Proofs.Ytomfpciigaopiaa

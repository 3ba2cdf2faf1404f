/- The walk of the law ShareGrows. No condition. -/
import Derived.Test.YtomfpciigaopiaaLz
import Derived.Test.YtomfpciigaopiaaLw
import Derived.Test.YtomfpciigaopiaaAt
import Derived.Test.YtomfpciigaopiaaAv
namespace Go.Proofs.Ytomfpciigaopiaa
open Go Go.Sy
set_option maxRecDepth 100000
set_option linter.unusedSimpArgs false
set_option linter.unusedVariables false

theorem ceilN_mono {a b d : Nat} (hd : 0 < d) (h : a ≤ b) : ceilN a d ≤ ceilN b d := (ceilN_le hd).2 (Nat.le_trans h ((ceilN_le hd).1 (Nat.le_refl _)))
theorem spV_mono {l : List Pt} {a b : Nat} (hall : ∀ p ∈ l, okP p = true) (h : a ≤ b) : spV a l ≤ spV b l := by
  rw [spV, spV]
  split
  · rename_i hn
    have hok := leOK_of (l := l) fun p hp => okP_pos (hall p hp)
    obtain ⟨o1, -⟩ := hok.one (by omega)
    obtain ⟨-, -, t3, -⟩ := hok.two hn
    have hmem : ∀ x ∈ allP l, okP x = true := fun x hx => by
      obtain ⟨k, hk, rfl⟩ := mem_allP hx
      exact hall _ (getD_mem hk)
    have hp := (posP_mul (okP_pos (hmem _ o1)) (okP_pos (hmem _ t3))).1
    exact ceilN_mono (by omega) (Nat.mul_le_mul_right _ h)
  · exact Nat.le_refl _
theorem spC_mono {l : List Pt} {m a b : Int} (hr : rightP l = true) (hm : 1 ≤ m ∧ m ≤ 8) (ha : 1 ≤ a ∧ a ≤ 10000000) (hb : 1 ≤ b ∧ b ≤ 10000000) (h : a ≤ b) : spC l m a ≤ spC l m b := by
  have hW := sumW_bd hr
  have e1 := (spC_bd hr hm ha).2.1
  have e2 := (spC_bd hr hm hb).2.1
  have h1 : 2 * m * (1000000 + 2 * a) ≤ 2 * m * (1000000 + 2 * b) := Int.mul_le_mul_of_nonneg_left (by omega) (by omega)
  have h2 := Int.mul_le_mul_of_nonneg_right h1 hW.1
  omega
theorem wtK_mono {l : List Pt} {i a b : Int} (hall : ∀ p ∈ l, okP p = true) (h : a ≤ b) : ∀ k, k ≤ l.length → wtK l i a k ≤ wtK l i b k
  | 0, _ => by rw [wtK, wtK]; omega
  | k + 1, hk => by
    have h1 := wtK_mono hall h (i := i) k (by omega)
    have h3 := (othV_bd (k := k) (i := i) (hall _ (getD_mem (show k < l.length by omega)))).1
    rw [wtK, wtK]
    have h2 : othV (l.getD k default) k i * (workV (l.getD k default) + 1000000 + a) ≤ othV (l.getD k default) k i * (workV (l.getD k default) + 1000000 + b) := Int.mul_le_mul_of_nonneg_left (by omega) h3
    omega
def evenT (l : List Pt) : List Int := l.map fun p => p.1 * 1000
theorem evenT_get {l : List Pt} {k : Nat} (h : k < l.length) : (evenT l).getD k default = (l.getD k default).1 * 1000 := by
  rw [evenT, List.getD, List.getElem?_map, List.getD, List.getElem?_eq_getElem h]; rfl
theorem even_apart {l : List Pt} (hall : ∀ p ∈ l, okP p = true) : apartB l (evenT l) 0 = false := ap_no fun i hi k hk => by
  have h1 := (okP_iff _).1 (hall _ (getD_mem hi))
  have h2 := (okP_iff _).1 (hall _ (getD_mem hk))
  rw [apP, evenT_get hi, evenT_get hk, decide_eq_false_iff_not]
  generalize l.getD i default = p at *
  generalize l.getD k default = q at *
  have e1 : (q.1 * 1000).toNat = q.1.toNat * 1000 := by omega
  have e2 : (p.1 * 1000).toNat = p.1.toNat * 1000 := by omega
  rw [e1, e2]
  have e3 : q.1.toNat * 1000 * p.1.toNat = p.1.toNat * 1000 * q.1.toNat := by grind
  omega
theorem even_ok {l : List Pt} (hall : ∀ p ∈ l, okP p = true) : okT l (evenT l) (evenT l).length = true := by
  rw [okT_iff]
  refine ⟨by rw [evenT, List.length_map], fun t ht => ?_⟩
  rw [evenT, List.mem_map] at ht
  obtain ⟨p, hp, rfl⟩ := ht
  have := (okP_iff _).1 (hall p hp)
  omega
set_option maxHeartbeats 2000000 in
theorem grows_law (l : List Pt) (m i g m2 i2 g2 : Int) (hl : ∀ p ∈ l, inP p) (hn0 : l.length < 2 ^ 46) : Law Try.prog gl0 8 [Ps l, .agg [I m, I i, I g], .agg [I m2, I i2, I g2]] := by
  refine Law.of (nt := 125) (res := [.tmp 6]) Try.mixed Try.func8 rfl rfl rfl rfl fun κ xc hκ => hκ.run 300 ?_
  simp (disch := omega) only [exec_succ, runR_next, runR_call, stepS, runOp, toSR, sop, rOf, rNew, sBox, isArr, ev, evs, Env.get, cellsS, envOf, OutOK_call, Bool.false_eq_true, List.size_toArray, List.length_cons, List.length_nil, List.range, List.range.loop, List.getElem?_toArray, List.getElem?_cons_succ, List.getElem?_cons_zero, ↓reduceIte, Nat.reduceAdd, Nat.reduceLT, Nat.reduceEqDiff, Nat.zero_add, reduceCtorEq, gl0]
  refine Does.ret hκ.hP hκ.hgl (wakes_ok) ⟨trivial, by simp [SV.bnd, SV.bndL], by first | (simp [SV.bnd, SV.bndL]; done) | assumption⟩ ?_
  apply Sat.join (α := Int × Int × Int × Int) (nx := 2) (dfs := []) (fun x => x.2.2.1 ≤ x.2.2.2) (fun x => ([(5, .ptr 1 0 0 0), (4, .ptr 0 0 0 0), (0, Ps l)], [(1, .own [I x.1, I x.2.1, I x.2.2.2] 42), (0, .own [I x.1, I x.2.1, I x.2.2.1] 42)]))
  · intro hj
    by_cases hg : g2 < g
    · have hj := hj (m2, i2, g2, g) (Int.le_of_lt hg)
      refine hκ.runD 300 ?_
      simp (disch := omega) only [runR_next, runR_need, runR_fork_true, runR_fork_false, stepS, runOp, condS, toSR, sop, rOf, sLoadIn, sLoad, sStoreIn, sStore, sInt, sBin, sUn, sFieldAddr, ev, Env.get, Heap.get, Heap.set, takeN, cut, over, paste, aggOf, cellsS, one, ones, setO, Value.oneCell', OutOK_need, OutOK_stop, undefS, undef, halt, isDraw, drawC, execD_succ, List.size_toArray, List.length_cons, List.length_nil, List.range, List.range.loop, List.getElem?_toArray, List.getElem?_cons_succ, List.getElem?_cons_zero, ↓reduceIte, Nat.reduceAdd, Nat.reduceLT, Nat.reduceEqDiff, Nat.zero_add, Nat.add_one_ne_zero, Bool.not_true, decide_true, true_and, and_self, forall_const, gl0, Try.sz2, Try.ag2, Try.sz42, Try.ag42, Try.fd42f2, hg]
      refine hκ.draw (.q 0 (.q 1 (.q 2 (.q 3 (.q 4 (.l 5 [3] (.q 6 (.l 7 [] (.fin))))))))) [0, 1, 2, 3, 4, 6] (by kernel_rfl) (by kernel_rfl) rfl ?_
      simp (disch := omega) only [sop, rOf, sLoadIn, sLoad, sStoreIn, sStore, sFieldAddr, ev, svs, Env.get, Heap.get, Heap.set, takeN, cut, over, paste, aggOf, cellsS, one, ones, setO, Value.cells, Value.oneCell', drawP_fin, drawP_q, drawP_l, dnext, dq, dqn, dl, slotR, ag, guardP, R1Q, dstOK, loudP, again, again1, slotIs, R1OK, undefS, undef, List.length_cons, List.length_nil, List.getElem?_toArray, List.getElem?_cons_succ, List.getElem?_cons_zero, List.map_cons, List.map_nil, List.toList_toArray, ↓reduceIte, Nat.reduceLT, Nat.reduceEqDiff, Nat.zero_add, Nat.add_zero, Nat.add_one_ne_zero, true_and, and_self, forall_const, gl0, Try.sz3, Try.ag3, Try.fd42f0, Try.fd42f1]
      exact hj.less (by repeat' (first | exact EnvSub.nil _ | exact HeapSub.nil _ | refine EnvSub.cons rfl ?_ | refine HeapSub.cons rfl ?_ | (refine EnvSub.cons (by simp [Env.get]; done) ?_) | (refine HeapSub.cons (by simp [Heap.get]; done) ?_))) (by repeat' (first | exact EnvSub.nil _ | exact HeapSub.nil _ | refine EnvSub.cons rfl ?_ | refine HeapSub.cons rfl ?_ | (refine EnvSub.cons (by simp [Env.get]; done) ?_) | (refine HeapSub.cons (by simp [Heap.get]; done) ?_)))
    · have hj := hj (m, i, g, g2) (by dsimp only; omega)
      refine hκ.runD 300 ?_
      simp (disch := omega) only [runR_next, runR_fork_false, stepS, runOp, condS, toSR, sop, rOf, sLoadIn, sLoad, sInt, sBin, sUn, sFieldAddr, ev, Env.get, Heap.get, takeN, cut, aggOf, setO, OutOK_stop, halt, isDraw, drawC, execD_succ, List.size_toArray, List.length_cons, List.length_nil, List.range, List.range.loop, List.getElem?_toArray, List.getElem?_cons_succ, List.getElem?_cons_zero, ↓reduceIte, Nat.reduceAdd, Nat.reduceLT, Nat.reduceEqDiff, Nat.zero_add, Nat.add_one_ne_zero, Bool.not_true, decide_false, gl0, Try.sz2, Try.ag2, Try.fd42f2, hg]
      refine hκ.draw (.q 0 (.q 1 (.q 2 (.q 3 (.q 4 (.l 5 [3] (.q 6 (.l 7 [] (.fin))))))))) [0, 1, 2, 3, 4, 6] (by kernel_rfl) (by kernel_rfl) rfl ?_
      simp (disch := omega) only [sop, rOf, sLoadIn, sLoad, sStoreIn, sStore, sFieldAddr, ev, svs, Env.get, Heap.get, Heap.set, takeN, cut, over, paste, aggOf, cellsS, one, ones, setO, Value.cells, Value.oneCell', drawP_fin, drawP_q, drawP_l, dnext, dq, dqn, dl, slotR, ag, guardP, R1Q, dstOK, loudP, again, again1, slotIs, R1OK, undefS, undef, List.length_cons, List.length_nil, List.getElem?_toArray, List.getElem?_cons_succ, List.getElem?_cons_zero, List.map_cons, List.map_nil, List.toList_toArray, ↓reduceIte, Nat.reduceLT, Nat.reduceEqDiff, Nat.zero_add, Nat.add_zero, Nat.add_one_ne_zero, true_and, and_self, forall_const, gl0, Try.sz3, Try.ag3, Try.fd42f0, Try.fd42f1]
      exact hj.less (by repeat' (first | exact EnvSub.nil _ | exact HeapSub.nil _ | refine EnvSub.cons rfl ?_ | refine HeapSub.cons rfl ?_ | (refine EnvSub.cons (by simp [Env.get]; done) ?_) | (refine HeapSub.cons (by simp [Heap.get]; done) ?_))) (by repeat' (first | exact EnvSub.nil _ | exact HeapSub.nil _ | refine EnvSub.cons rfl ?_ | refine HeapSub.cons rfl ?_ | (refine EnvSub.cons (by simp [Env.get]; done) ?_) | (refine HeapSub.cons (by simp [Heap.get]; done) ?_)))
  rintro ⟨m, i, a, b⟩ hab
  dsimp only at hab ⊢
  by_cases hbig : 2 ^ 40 ≤ l.length
  · refine hκ.run 300 ?_
    simp (disch := omega) only [exec_succ, runR_next, runR_call, stepS, runOp, toSR, sop, rOf, sLoadIn, sLoad, sFieldAddr, ev, evs, Env.get, Heap.get, takeN, cut, aggOf, OutOK_call, List.size_toArray, List.length_cons, List.length_nil, List.range, List.range.loop, List.getElem?_toArray, List.getElem?_cons_succ, List.getElem?_cons_zero, ↓reduceIte, Nat.reduceAdd, Nat.reduceLT, Nat.reduceEqDiff, Nat.zero_add, Nat.add_zero, Nat.add_one_ne_zero, gl0, Try.sz2, Try.ag2, Try.sz3, Try.ag3, Try.fd42f0, Try.fd42f2]
    refine Does.ret hκ.hP hκ.hgl (Spread_big l m a hbig hn0) ⟨trivial, by simp [SV.bnd, SV.bndL], by first | (simp [SV.bnd, SV.bndL]; done) | assumption⟩ ?_
    refine hκ.run 300 ?_
    simp (disch := omega) only [exec_succ, runR_next, runR_need, runR_call, stepS, runOp, toSR, sop, rOf, rNew, sAlloc, sAlloc0, sLoadIn, sLoad, sStoreIn, sStore, sFieldAddr, sExtract, ev, evs, svs, Env.get, Heap.get, Heap.set, takeN, cut, over, paste, aggOf, cellsS, one, ones, setO, Value.oneCell', OutOK_need, OutOK_call, undefS, undef, List.size_toArray, List.length_cons, List.length_nil, List.range, List.range.loop, List.getElem?_toArray, List.getElem?_cons_succ, List.getElem?_cons_zero, List.map_cons, List.map_nil, ↓reduceIte, Nat.reduceAdd, Nat.reduceLT, Nat.reduceEqDiff, Nat.zero_add, Nat.add_zero, Nat.add_one_ne_zero, true_and, and_self, forall_const, gl0, Try.sz2, Try.ag2, Try.sz3, Try.ag3, Try.fd42f0, Try.fd42f2, Try.sz44, Try.ze44, Try.ar44]
    refine Does.ret hκ.hP hκ.hgl (Spread_big l m b hbig hn0) ⟨trivial, by simp [SV.bnd, SV.bndL], by first | (simp [SV.bnd, SV.bndL]; done) | assumption⟩ ?_
    refine hκ.run 300 ?_
    simp (disch := omega) only [exec_succ, runR_next, runR_need, runR_fork_false, runR_guard_ft, runR_call, stepS, runOp, guardS, condS, toSR, sop, rOf, rNew, sPick, sAlloc, sAlloc0, sLoadIn, sLoad, sStoreIn, sStore, sInt, sEq, sEqR, sBin, sFieldAddr, sExtract, ev, evs, svs, Env.get, Heap.get, Heap.set, takeN, cut, over, paste, aggOf, cellsS, one, ones, setO, Value.oneCell', OutOK_need, OutOK_call, undefS, undef, List.size_toArray, List.length_cons, List.length_nil, List.range, List.range.loop, List.getElem?_toArray, List.getElem?_cons_succ, List.getElem?_cons_zero, List.map_cons, List.map_nil, Option.bind_some, ↓reduceIte, Nat.reduceAdd, Nat.reduceLT, Nat.reduceEqDiff, Nat.zero_add, Nat.add_one_ne_zero, Int.reduceEq, Bool.not_true, decide_false, true_and, and_self, forall_const, gl0, Try.sz2, Try.ag2, Try.sz3, Try.ag3, Try.fd42f1, Try.fd42f2, Try.sz44, Try.ag44, Try.ze44, Try.ar44]
    refine Does.ret hκ.hP hκ.hgl (Wait_big l i a hbig hn0) ⟨trivial, by simp [SV.bnd, SV.bndL], by first | (simp [SV.bnd, SV.bndL]; done) | assumption⟩ ?_
    refine hκ.run 300 ?_
    simp (disch := omega) only [exec_succ, runR_next, runR_call, stepS, runOp, toSR, sop, rOf, sLoadIn, sLoad, sFieldAddr, sExtract, ev, evs, Env.get, Heap.get, takeN, cut, aggOf, setO, OutOK_call, List.size_toArray, List.length_cons, List.length_nil, List.range, List.range.loop, List.getElem?_toArray, List.getElem?_cons_succ, List.getElem?_cons_zero, ↓reduceIte, Nat.reduceAdd, Nat.reduceLT, Nat.reduceEqDiff, Nat.zero_add, Nat.add_one_ne_zero, gl0, Try.sz2, Try.ag2, Try.sz3, Try.ag3, Try.fd42f1, Try.fd42f2]
    refine Does.ret hκ.hP hκ.hgl (Wait_big l i b hbig hn0) ⟨trivial, by simp [SV.bnd, SV.bndL], by first | (simp [SV.bnd, SV.bndL]; done) | assumption⟩ ?_
    refine hκ.run 300 ?_
    simp (disch := omega) only [exec_succ, runR_next, runR_fork_true, runR_fork_false, runR_guard_tf, runR_guard_ft, runR_stop, stepS, runOp, guardS, condS, toSR, sop, rOf, sPick, sInt, sEq, sEqR, sBin, sExtract, ev, Env.get, setO, OutOK_stop, undefS, undef, List.size_toArray, List.length_cons, List.length_nil, List.range, List.range.loop, List.getElem?_toArray, List.getElem?_cons_succ, List.getElem?_cons_zero, Option.bind_some, ↓reduceIte, Nat.reduceAdd, Nat.reduceLT, Nat.reduceEqDiff, Nat.zero_add, Int.reduceEq, Bool.not_true, Bool.not_false, decide_false, and_self, gl0]
    refine hκ.ret _ _ _ _ _ _ trivial rfl ?_
    rfl
  have c1 := Spread_ok l m a hl (by omega)
  have c2 := Spread_ok l m b hl (by omega)
  have c3 := Wait_ok l i a hl (by omega)
  have c4 := Wait_ok l i b hl (by omega)
  have hs : (spR l m a).2 = 0 → (spR l m b).2 = 0 → (spR l m a).1 ≤ (spR l m b).1 ∧ rightP l = true := by
    rw [spR, spR]
    intro h1 h2
    by_cases e1 : askE l (inI m 1 8 && inI a 1 10000000) = 0
    case neg => rw [if_pos e1] at h1; exact absurd h1 e1
    by_cases e2 : askE l (inI m 1 8 && inI b 1 10000000) = 0
    case neg => rw [if_pos e2] at h2; exact absurd h2 e2
    rw [if_neg (show ¬ askE l (inI m 1 8 && inI a 1 10000000) ≠ 0 from fun h => h e1)] at h1 ⊢
    rw [if_neg (show ¬ askE l (inI m 1 8 && inI b 1 10000000) ≠ 0 from fun h => h e2)] at h2 ⊢
    obtain ⟨hr, h3⟩ := askE_ok e1
    obtain ⟨-, h4⟩ := askE_ok e2
    rw [Bool.and_eq_true, inI_iff, inI_iff] at h3 h4
    refine ⟨?_, hr⟩
    cases hf : feasB l m
    · rw [hf, if_neg (by decide)] at h1; exact absurd h1 (by decide)
    · rw [if_pos rfl, if_pos rfl]
      exact spV_mono ((rightP_iff l).1 hr).2.1 (spC_mono hr h3.1 h3.2 h4.2 hab)
  have hw : (wtR l i a).2 = 0 → (wtR l i b).2 = 0 → (wtR l i a).1 ≤ (wtR l i b).1 := by
    rw [wtR, wtR]
    intro h1 h2
    by_cases e1 : askE l (inI i 0 (l.length - 1) && inI a 1 10000000) = 0
    case neg => rw [if_pos e1] at h1; exact absurd h1 e1
    by_cases e2 : askE l (inI i 0 (l.length - 1) && inI b 1 10000000) = 0
    case neg => rw [if_pos e2] at h2; exact absurd h2 e2
    rw [if_neg (show ¬ askE l (inI i 0 (l.length - 1) && inI a 1 10000000) ≠ 0 from fun h => h e1), if_neg (show ¬ askE l (inI i 0 (l.length - 1) && inI b 1 10000000) ≠ 0 from fun h => h e2)]
    obtain ⟨hr, h3⟩ := askE_ok e1
    exact wtK_mono ((rightP_iff l).1 hr).2.1 hab _ (Nat.le_refl _)
  generalize spR l m a = s at *
  generalize spR l m b = t at *
  generalize wtR l i a = u at *
  generalize wtR l i b = v at *
  obtain ⟨s, e⟩ := s
  obtain ⟨t, f⟩ := t
  obtain ⟨u, x⟩ := u
  obtain ⟨v, y⟩ := v
  dsimp only at *
  apply Sat.join (α := Unit) (nx := 4) (dfs := []) (fun _ => True) (fun _ => ([(10, I f), (8, I e), (5, .ptr 1 0 0 0), (4, .ptr 0 0 0 0), (0, Ps l)], [(1, .own [I m, I i, I b] 42), (0, .own [I m, I i, I a] 42)]))
  · intro hj
    have hj := hj () trivial
    refine hκ.run 300 ?_
    simp (disch := omega) only [exec_succ, runR_next, runR_call, stepS, runOp, toSR, sop, rOf, sLoadIn, sLoad, sFieldAddr, ev, evs, Env.get, Heap.get, takeN, cut, aggOf, OutOK_call, List.size_toArray, List.length_cons, List.length_nil, List.range, List.range.loop, List.getElem?_toArray, List.getElem?_cons_succ, List.getElem?_cons_zero, ↓reduceIte, Nat.reduceAdd, Nat.reduceLT, Nat.reduceEqDiff, Nat.zero_add, Nat.add_zero, Nat.add_one_ne_zero, gl0, Try.sz2, Try.ag2, Try.sz3, Try.ag3, Try.fd42f0, Try.fd42f2]
    refine Does.ret hκ.hP hκ.hgl (c1) ⟨trivial, by simp [SV.bnd, SV.bndL], by first | (simp [SV.bnd, SV.bndL]; done) | assumption⟩ ?_
    refine hκ.run 300 ?_
    simp (disch := omega) only [exec_succ, runR_next, runR_need, runR_call, stepS, runOp, toSR, sop, rOf, rNew, sAlloc, sAlloc0, sLoadIn, sLoad, sStoreIn, sStore, sFieldAddr, sExtract, ev, evs, svs, Env.get, Heap.get, Heap.set, takeN, cut, over, paste, aggOf, cellsS, one, ones, setO, Value.oneCell', OutOK_need, OutOK_call, undefS, undef, List.size_toArray, List.length_cons, List.length_nil, List.range, List.range.loop, List.getElem?_toArray, List.getElem?_cons_succ, List.getElem?_cons_zero, List.map_cons, List.map_nil, ↓reduceIte, Nat.reduceAdd, Nat.reduceLT, Nat.reduceEqDiff, Nat.zero_add, Nat.add_zero, Nat.add_one_ne_zero, true_and, and_self, forall_const, gl0, Try.sz2, Try.ag2, Try.sz3, Try.ag3, Try.fd42f0, Try.fd42f2, Try.sz44, Try.ze44, Try.ar44]
    refine Does.ret hκ.hP hκ.hgl (c2) ⟨trivial, by simp [SV.bnd, SV.bndL], by first | (simp [SV.bnd, SV.bndL]; done) | assumption⟩ ?_
    by_cases he : e = 0
    · subst he
      by_cases hf : f = 0
      · subst hf
        have e9 : (0 < cmpN s t) = False := by
          have := (hs rfl rfl).1
          rw [cmpN_gt]
          exact eq_false (by omega)
        refine hκ.run 300 ?_
        simp (disch := omega) only [exec_succ, runR_next, runR_need, runR_guard_tt, runR_call, stepS, runOp, guardS, toSR, sop, rOf, rNew, sPick, sAlloc, sAlloc0, sLoadIn, sLoad, sStoreIn, sStore, sInt, sBin, sExtract, ev, evs, svs, Env.get, Heap.get, Heap.set, takeN, cut, over, paste, aggOf, cellsS, one, ones, setO, Value.oneCell', OutOK_need, OutOK_call, undefS, undef, List.size_toArray, List.length_cons, List.length_nil, List.range, List.range.loop, List.getElem?_toArray, List.getElem?_cons_succ, List.getElem?_cons_zero, List.map_cons, List.map_nil, Option.bind_some, ↓reduceIte, Nat.reduceAdd, Nat.reduceLT, Nat.reduceEqDiff, Nat.zero_add, Bool.not_true, decide_true, true_and, and_self, forall_const, gl0, Try.sz44, Try.ag44, Try.ze44, Try.ar44]
        refine Does.ret hκ.hP hκ.hgl (wcmp_ok s t) ⟨trivial, by simp [SV.bnd, SV.bndL], by first | (simp [SV.bnd, SV.bndL]; done) | assumption⟩ ?_
        refine hκ.runA 10 300 ?_
        simp (disch := omega) only [runR_next, runR_fork_false, runR_guard_tt, stepS, runOp, guardS, condS, toSR, sop, rOf, sPick, sInt, sBin, ev, Env.get, setO, OutOK_stop, undefS, undef, halt, isAt, atC, execA_succ, List.getElem?_toArray, List.getElem?_cons_succ, List.getElem?_cons_zero, Option.bind_some, ↓reduceIte, Nat.reduceLT, Nat.reduceEqDiff, Bool.not_true, decide_false, beq_self_eq_true, and_self, gl0, e9]
        exact hj.less (by repeat' (first | exact EnvSub.nil _ | exact HeapSub.nil _ | refine EnvSub.cons rfl ?_ | refine HeapSub.cons rfl ?_ | (refine EnvSub.cons (by simp [Env.get]; done) ?_) | (refine HeapSub.cons (by simp [Heap.get]; done) ?_))) (by repeat' (first | exact EnvSub.nil _ | exact HeapSub.nil _ | refine EnvSub.cons rfl ?_ | refine HeapSub.cons rfl ?_ | (refine EnvSub.cons (by simp [Env.get]; done) ?_) | (refine HeapSub.cons (by simp [Heap.get]; done) ?_)))
      · refine hκ.runA 10 300 ?_
        simp (disch := omega) only [runR_next, runR_need, runR_fork_false, runR_guard_tt, runR_guard_ft, stepS, runOp, guardS, condS, toSR, sop, rOf, rNew, sPick, sAlloc, sAlloc0, sLoadIn, sLoad, sStoreIn, sStore, sInt, sBin, sExtract, ev, evs, svs, Env.get, Heap.get, Heap.set, takeN, cut, over, paste, aggOf, cellsS, one, ones, setO, Value.oneCell', OutOK_need, OutOK_stop, undefS, undef, halt, isAt, atC, execA_succ, List.size_toArray, List.length_cons, List.length_nil, List.range, List.range.loop, List.getElem?_toArray, List.getElem?_cons_succ, List.getElem?_cons_zero, List.map_cons, List.map_nil, Option.bind_some, ↓reduceIte, Nat.reduceAdd, Nat.reduceLT, Nat.reduceEqDiff, Nat.zero_add, Nat.reduceBEq, Bool.not_true, decide_true, decide_false, beq_self_eq_true, true_and, and_self, forall_const, gl0, Try.sz44, Try.ag44, Try.ze44, Try.ar44, hf]
        exact hj.less (by repeat' (first | exact EnvSub.nil _ | exact HeapSub.nil _ | refine EnvSub.cons rfl ?_ | refine HeapSub.cons rfl ?_ | (refine EnvSub.cons (by simp [Env.get]; done) ?_) | (refine HeapSub.cons (by simp [Heap.get]; done) ?_))) (by repeat' (first | exact EnvSub.nil _ | exact HeapSub.nil _ | refine EnvSub.cons rfl ?_ | refine HeapSub.cons rfl ?_ | (refine EnvSub.cons (by simp [Env.get]; done) ?_) | (refine HeapSub.cons (by simp [Heap.get]; done) ?_)))
    · refine hκ.runA 10 300 ?_
      simp (disch := omega) only [runR_next, runR_need, runR_fork_false, runR_guard_ft, stepS, runOp, guardS, condS, toSR, sop, rOf, rNew, sPick, sAlloc, sAlloc0, sLoadIn, sLoad, sStoreIn, sStore, sInt, sEq, sEqR, sBin, sExtract, ev, evs, svs, Env.get, Heap.get, Heap.set, takeN, cut, over, paste, aggOf, cellsS, one, ones, setO, Value.oneCell', OutOK_need, OutOK_stop, undefS, undef, halt, isAt, atC, execA_succ, List.size_toArray, List.length_cons, List.length_nil, List.range, List.range.loop, List.getElem?_toArray, List.getElem?_cons_succ, List.getElem?_cons_zero, List.map_cons, List.map_nil, Option.bind_some, ↓reduceIte, Nat.reduceAdd, Nat.reduceLT, Nat.reduceEqDiff, Nat.zero_add, Nat.reduceBEq, Bool.not_true, decide_false, beq_self_eq_true, true_and, and_self, forall_const, gl0, Try.sz44, Try.ag44, Try.ze44, Try.ar44, he]
      exact hj.less (by repeat' (first | exact EnvSub.nil _ | exact HeapSub.nil _ | refine EnvSub.cons rfl ?_ | refine HeapSub.cons rfl ?_ | (refine EnvSub.cons (by simp [Env.get]; done) ?_) | (refine HeapSub.cons (by simp [Heap.get]; done) ?_))) (by repeat' (first | exact EnvSub.nil _ | exact HeapSub.nil _ | refine EnvSub.cons rfl ?_ | refine HeapSub.cons rfl ?_ | (refine EnvSub.cons (by simp [Env.get]; done) ?_) | (refine HeapSub.cons (by simp [Heap.get]; done) ?_)))
  intro _ _
  apply Sat.join (α := Unit) (nx := 4) (dfs := []) (fun _ => True) (fun _ => ([(10, I f), (8, I e), (0, Ps l)], []))
  · intro hj
    have hj := hj () trivial
    refine hκ.run 300 ?_
    simp (disch := omega) only [exec_succ, runR_next, runR_call, stepS, runOp, toSR, sop, rOf, sLoadIn, sLoad, sFieldAddr, ev, evs, Env.get, Heap.get, takeN, cut, aggOf, OutOK_call, List.size_toArray, List.length_cons, List.length_nil, List.range, List.range.loop, List.getElem?_toArray, List.getElem?_cons_succ, List.getElem?_cons_zero, ↓reduceIte, Nat.reduceAdd, Nat.reduceLT, Nat.reduceEqDiff, Nat.zero_add, Nat.add_one_ne_zero, gl0, Try.sz2, Try.ag2, Try.sz3, Try.ag3, Try.fd42f1, Try.fd42f2]
    refine Does.ret hκ.hP hκ.hgl (c3) ⟨trivial, by simp [SV.bnd, SV.bndL], by first | (simp [SV.bnd, SV.bndL]; done) | assumption⟩ ?_
    refine hκ.run 300 ?_
    simp (disch := omega) only [exec_succ, runR_next, runR_call, stepS, runOp, toSR, sop, rOf, sLoadIn, sLoad, sFieldAddr, sExtract, ev, evs, Env.get, Heap.get, takeN, cut, aggOf, setO, OutOK_call, List.size_toArray, List.length_cons, List.length_nil, List.range, List.range.loop, List.getElem?_toArray, List.getElem?_cons_succ, List.getElem?_cons_zero, ↓reduceIte, Nat.reduceAdd, Nat.reduceLT, Nat.reduceEqDiff, Nat.zero_add, Nat.add_one_ne_zero, gl0, Try.sz2, Try.ag2, Try.sz3, Try.ag3, Try.fd42f1, Try.fd42f2]
    refine Does.ret hκ.hP hκ.hgl (c4) ⟨trivial, by simp [SV.bnd, SV.bndL], by first | (simp [SV.bnd, SV.bndL]; done) | assumption⟩ ?_
    by_cases hx : x = 0
    · subst hx
      by_cases hy : y = 0
      · subst hy
        have e9 : ¬ v < u := by have := hw rfl rfl; omega
        refine hκ.runA 14 300 ?_
        simp (disch := omega) only [runR_next, runR_fork_false, runR_guard_tt, stepS, runOp, guardS, condS, toSR, sop, rOf, sPick, sInt, sBin, sExtract, ev, Env.get, setO, OutOK_stop, undefS, undef, halt, isAt, atC, execA_succ, List.size_toArray, List.length_cons, List.length_nil, List.range, List.range.loop, List.getElem?_toArray, List.getElem?_cons_succ, List.getElem?_cons_zero, Option.bind_some, ↓reduceIte, Nat.reduceAdd, Nat.reduceLT, Nat.reduceEqDiff, Nat.zero_add, Nat.reduceBEq, Bool.not_true, decide_true, decide_false, beq_self_eq_true, and_self, gl0, e9]
        exact hj.less (by repeat' (first | exact EnvSub.nil _ | exact HeapSub.nil _ | refine EnvSub.cons rfl ?_ | refine HeapSub.cons rfl ?_ | (refine EnvSub.cons (by simp [Env.get]; done) ?_) | (refine HeapSub.cons (by simp [Heap.get]; done) ?_))) (by repeat' (first | exact EnvSub.nil _ | exact HeapSub.nil _ | refine EnvSub.cons rfl ?_ | refine HeapSub.cons rfl ?_ | (refine EnvSub.cons (by simp [Env.get]; done) ?_) | (refine HeapSub.cons (by simp [Heap.get]; done) ?_)))
      · refine hκ.runA 14 300 ?_
        simp (disch := omega) only [runR_next, runR_fork_false, runR_guard_tt, runR_guard_ft, stepS, runOp, guardS, condS, toSR, sop, rOf, sPick, sInt, sBin, sExtract, ev, Env.get, setO, OutOK_stop, undefS, undef, halt, isAt, atC, execA_succ, List.size_toArray, List.length_cons, List.length_nil, List.range, List.range.loop, List.getElem?_toArray, List.getElem?_cons_succ, List.getElem?_cons_zero, Option.bind_some, ↓reduceIte, Nat.reduceAdd, Nat.reduceLT, Nat.reduceEqDiff, Nat.zero_add, Nat.reduceBEq, Bool.not_true, decide_true, decide_false, beq_self_eq_true, and_self, gl0, hy]
        exact hj.less (by repeat' (first | exact EnvSub.nil _ | exact HeapSub.nil _ | refine EnvSub.cons rfl ?_ | refine HeapSub.cons rfl ?_ | (refine EnvSub.cons (by simp [Env.get]; done) ?_) | (refine HeapSub.cons (by simp [Heap.get]; done) ?_))) (by repeat' (first | exact EnvSub.nil _ | exact HeapSub.nil _ | refine EnvSub.cons rfl ?_ | refine HeapSub.cons rfl ?_ | (refine EnvSub.cons (by simp [Env.get]; done) ?_) | (refine HeapSub.cons (by simp [Heap.get]; done) ?_)))
    · refine hκ.runA 14 300 ?_
      simp (disch := omega) only [runR_next, runR_fork_false, runR_guard_ft, stepS, runOp, guardS, condS, toSR, sop, rOf, sPick, sInt, sEq, sEqR, sBin, sExtract, ev, Env.get, setO, OutOK_stop, undefS, undef, halt, isAt, atC, execA_succ, List.size_toArray, List.length_cons, List.length_nil, List.range, List.range.loop, List.getElem?_toArray, List.getElem?_cons_succ, List.getElem?_cons_zero, Option.bind_some, ↓reduceIte, Nat.reduceAdd, Nat.reduceLT, Nat.reduceEqDiff, Nat.zero_add, Nat.reduceBEq, Bool.not_true, decide_false, beq_self_eq_true, and_self, gl0, hx]
      exact hj.less (by repeat' (first | exact EnvSub.nil _ | exact HeapSub.nil _ | refine EnvSub.cons rfl ?_ | refine HeapSub.cons rfl ?_ | (refine EnvSub.cons (by simp [Env.get]; done) ?_) | (refine HeapSub.cons (by simp [Heap.get]; done) ?_))) (by repeat' (first | exact EnvSub.nil _ | exact HeapSub.nil _ | refine EnvSub.cons rfl ?_ | refine HeapSub.cons rfl ?_ | (refine EnvSub.cons (by simp [Env.get]; done) ?_) | (refine HeapSub.cons (by simp [Heap.get]; done) ?_)))
  intro _ _
  by_cases he : e = 0
  case neg =>
    refine hκ.run 300 ?_
    simp (disch := omega) only [exec_succ, runR_next, runR_fork_true, runR_guard_tf, runR_stop, stepS, runOp, guardS, condS, toSR, sop, rOf, sPick, sInt, sEq, sEqR, sBin, ev, Env.get, OutOK_stop, undefS, undef, List.size_toArray, List.length_cons, List.length_nil, List.range, List.range.loop, List.getElem?_toArray, List.getElem?_cons_succ, List.getElem?_cons_zero, Option.bind_some, ↓reduceIte, Nat.reduceAdd, Nat.reduceLT, Nat.reduceEqDiff, Nat.zero_add, Bool.not_false, decide_false, and_self, gl0, he]
    refine hκ.ret _ _ _ _ _ _ trivial rfl ?_
    rfl
  by_cases hf : f = 0
  case neg =>
    refine hκ.run 300 ?_
    simp (disch := omega) only [exec_succ, runR_next, runR_fork_true, runR_guard_ff, runR_stop, stepS, runOp, guardS, condS, toSR, sop, rOf, sPick, sInt, sBin, ev, Env.get, OutOK_stop, undefS, undef, List.size_toArray, List.length_cons, List.length_nil, List.range, List.range.loop, List.getElem?_toArray, List.getElem?_cons_succ, List.getElem?_cons_zero, Option.bind_some, ↓reduceIte, Nat.reduceAdd, Nat.reduceLT, Nat.reduceEqDiff, Nat.zero_add, Bool.not_true, Bool.not_false, decide_true, decide_false, and_self, gl0, he, hf]
    refine hκ.ret _ _ _ _ _ _ trivial rfl ?_
    rfl
  obtain ⟨-, hr⟩ := hs he hf
  obtain ⟨hn, hall, -⟩ := (rightP_iff l).1 hr
  refine hκ.run 300 ?_
  simp (disch := omega) only [sBuiltin, exec_succ, runR_next, runR_fork_false, runR_guard_ff, runR_stop, stepS, runOp, guardS, condS, toSR, sop, rOf, sPick, sInt, sBin, sLen, ev, Env.get, OutOK_stop, undefS, undef, List.size_toArray, List.length_cons, List.length_nil, List.length_map, List.range, List.range.loop, List.getElem?_toArray, List.getElem?_cons_succ, List.getElem?_cons_zero, Option.bind_some, ↓reduceIte, Nat.reduceAdd, Nat.reduceLT, Nat.reduceEqDiff, Nat.zero_add, Nat.add_one_ne_zero, Bool.not_true, Bool.not_false, decide_true, and_self, gl0, Try.underlying22, he, hf]
  refine Sat.nilRow 15 1 2 rfl ?_
  refine Sat.less (Sat.loop (γ := Nat × Nat) (fun k => ([(101, I k.1), (100, I l.length), (99, Ps l), (15, .sl 4 1 0 k.1 k.2), (0, Ps l)], [(4, .row 1 k.2 2 ((evenT (l.take k.1)).map (eI .i64)))], 5)) (fun k => l.length - k.1) (fun k => k.1 ≤ l.length) ?round (0, 0) (Nat.zero_le _)) (by repeat' (first | exact EnvSub.nil _ | exact HeapSub.nil _ | refine EnvSub.cons rfl ?_ | refine HeapSub.cons rfl ?_ | (refine EnvSub.cons (by simp [Env.get]; done) ?_) | (refine HeapSub.cons (by simp [Heap.get]; done) ?_))) (by repeat' (first | exact EnvSub.nil _ | exact HeapSub.nil _ | refine EnvSub.cons rfl ?_ | refine HeapSub.cons rfl ?_ | (refine EnvSub.cons (by simp [Env.get]; done) ?_) | (refine HeapSub.cons (by simp [Heap.get]; done) ?_)))
  case round =>
    rintro ⟨k, cap⟩ hk ih
    dsimp only at hk ih ⊢
    refine Sat.room 4 rfl fun hroom => ?_
    rw [List.length_map, evenT, List.length_map, List.length_take] at hroom
    refine hκ.run 300 ?_
    simp (disch := omega) only [exec_succ, runR_next, stepS, runOp, condS, toSR, sop, sInt, sBin, ev, Env.get, List.size_toArray, List.length_cons, List.length_nil, List.range, List.range.loop, List.getElem?_toArray, List.getElem?_cons_zero, ↓reduceIte, Nat.reduceLT, Nat.reduceEqDiff, Nat.zero_add, gl0]
    refine OutOK_fork (fun h => ?_) (fun h => ?_) <;> try simp only [Bool.not_true, Bool.not_false, decide_eq_true_eq, decide_eq_false_iff_not, Bool.not_eq_true', Bool.not_eq_false', Bool.and_eq_true, Bool.or_eq_false_iff, Bool.or_eq_true, Bool.and_eq_false_iff] at h
    · have hz := fun c => ih (k + 1, c) (by dsimp only; omega) (by dsimp only; omega)
      dsimp only at hz
      have hp := (okP_iff _).1 (hall _ (getD_mem (show k < l.length by omega)))
      have g1 : (List.map eP l).getD k [] = eP (l.getD k default) := getD_map _ _ _ (by omega)
      rw [take_getD (by omega), evenT, List.map_append, List.map_append] at hz
      have hlen : ((evenT (l.take k)).map (eI .i64)).length = k := by rw [List.length_map, evenT, List.length_map, List.length_take]; omega
      have et : List.take k ((evenT (l.take k)).map (eI .i64)) = (evenT (l.take k)).map (eI .i64) := List.take_of_length_le (by omega)
      generalize l.getD k default = p at *
      simp (disch := omega) only [sBuiltin, srcS, appArgS, sAppendTo, sAppend, exec_succ, runR_next, runR_need, runR_all, runR_stop, stepS, runOp, toSR, sop, rOf, rNew, sAlloc, sAlloc0, isArr, sLoadIn, sLoad, sStoreIn, sStore, sInt, sBin, sFieldAddr, sIndexAddr, elemT, sliceT, obind, fillS, evps, repeatL, sBuildSlice, chunk, ev, svs, Env.get, Heap.get, Heap.set, Heap.drop, takeN, cut, over, paste, aggOf, cellsS, one, ones, idFree, idFrees, Value.cells, Value.oneCell', OutOK_need, OutOK_all, OutOK_stop, undefS, undef, Bool.and_true, List.drop_zero, List.take_succ_cons, List.take_nil, List.size_toArray, List.length_cons, List.length_nil, List.length_map, List.range, List.range.loop, List.getElem?_toArray, List.getElem?_cons_succ, List.getElem?_cons_zero, List.map_cons, List.map_nil, List.append_nil, List.toList_toArray, ↓reduceIte, Nat.reduceAdd, Nat.reduceLT, Nat.reduceLeDiff, Nat.reduceEqDiff, Nat.zero_add, Nat.add_zero, Nat.mul_one, Nat.add_one_ne_zero, Int.toNat_natCast, ne_eq, not_false_eq_true, true_and, and_self, forall_const, wrap_i64, Try.sz2, Try.ze2, Try.by2, Try.sz3, Try.ag3, Try.underlying22, Try.sz54, Try.ag54, Try.ze54, Try.ar54, Try.fd54f0, Try.underlying56, g1, eP, hlen]
      (repeat (refine ⟨by first | omega | (refine ⟨?_, ?_⟩ <;> omega) | trivial | (simp; done) | decide +kernel, fun _ => ?_⟩))
      intro c
      have hy := hz (k + 1 + c)
      simp only [List.length_append, List.length_cons, List.length_nil, List.length_singleton, List.length_map, List.length_set, List.length_replicate, Nat.zero_add, Nat.add_zero, Int.natCast_add, Int.natCast_one, Int.ofNat_eq_natCast, List.map_append, List.map_cons, List.map_nil, List.take_length, eI, eB] at hy ⊢
      rw [et]
      refine Sat.via (fun i => if i = 4 then 7 else i) (hy) (by intro i j; (repeat (first | omega | split))) (by repeat' (first | exact EnvVia.nil | refine EnvVia.cons (by first | trivial | decide | (simp [SV.bnd, SV.bndL]; done)) rfl ?_)) (by repeat' (first | exact HeapVia.nil | refine HeapVia.cons (by decide) (by first | trivial | (simp [Blk.bnd, SV.bnd, SV.bndL]; done) | exact bndL_mapV _ _ _ | exact LR.bnd (by rw [l2]; simp [bndE, SV.bnd, SV.bndL]) (by rw [l6]; decide)) (by first | rfl | (simp only [Blk.ren, renL_mapV]; rfl) | (rw [LR.ren (by rw [l2] <;> rfl) (by rw [l6] <;> rfl)]; rfl)) ?_)) ⟨by have := hκ.hm; (try dsimp only at this); (first | done | omega), fun i hi => by have := hκ.hm; (try dsimp only at this); (first | omega | (dsimp only; omega) | (rw [if_neg (by omega)]))⟩ ⟨by simp, rfl⟩
    · obtain rfl : k = l.length := by omega
      rw [List.take_length]
      have c9 := Apart_yes l (evenT l) 0 hl hr (by decide) (even_ok hall)
      rw [even_apart hall, W_zero] at c9
      have hlen : (evenT l).length = l.length := by rw [evenT, List.length_map]
      rw [← hlen]
      simp (disch := omega) only [sBuild0, exec_succ, runR_next, runR_call, stepS, runOp, goS, toSR, sop, rOf, fillS, evps, sBuild, ev, evs, svs, Env.get, exitTo, OutOK_call, List.size_toArray, List.length_cons, List.length_nil, List.range, List.range.loop, List.getElem?_toArray, List.getElem?_cons_succ, List.getElem?_cons_zero, List.map_cons, List.map_nil, ↓reduceIte, Nat.reduceAdd, Nat.reduceLT, Nat.reduceEqDiff, Nat.zero_add, Nat.add_one_ne_zero, beq_self_eq_true, Try.ze44, Try.pl44, Try.ar44]
      refine Does.frz [4] ⟨trivial, rfl⟩ (by first | (simp [lendPL, lendP, lendSlP, Heap.get]; done) | (simp only [lendPL, lendP, lendSlP, Heap.get, List.mem_singleton, List.mem_cons, List.not_mem_nil, or_false, or_true, true_or, Nat.reduceEqDiff, Nat.one_ne_zero, Nat.zero_ne_one, ↓reduceIte, and_true, true_and, List.length_map, List.length_append, List.length_cons, List.length_nil, List.length_replicate]; omega)) ?_
      simp only [lendL, lendS, lendSl, Heap.get, without, List.mem_singleton, List.mem_cons, List.not_mem_nil, or_false, or_true, true_or, List.drop_zero, List.take_length, List.take_succ_cons, List.take_zero, Nat.reduceAdd, Nat.reduceEqDiff, Nat.one_ne_zero, Nat.zero_ne_one, ↓reduceIte]
      rw [show List.take (evenT l).length ((evenT l).map (eI .i64)) = (evenT l).map (eI .i64) from List.take_of_length_le (by simp)]
      refine Does.ret hκ.hP hκ.hgl (c9) ⟨trivial, by simp [SV.bnd, SV.bndL], by first | (simp [SV.bnd, SV.bndL]; done) | assumption⟩ ?_
      refine hκ.run 300 ?_
      simp (disch := omega) only [exec_succ, runR_next, runR_guard_tt, runR_stop, stepS, runOp, guardS, toSR, sop, rOf, sPick, sInt, sBin, sUn, sExtract, ev, Env.get, setO, OutOK_stop, undefS, undef, List.size_toArray, List.length_cons, List.length_nil, List.range, List.range.loop, List.getElem?_toArray, List.getElem?_cons_succ, List.getElem?_cons_zero, Option.bind_some, ↓reduceIte, Nat.reduceAdd, Nat.reduceLT, Nat.reduceEqDiff, Nat.zero_add, Bool.not_true, Bool.not_false, decide_true, and_self, gl0]
      refine hκ.ret _ _ _ _ _ _ trivial rfl ?_
      rfl
end Go.Proofs.Ytomfpciigaopiaa

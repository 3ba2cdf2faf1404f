/- The walk of the law TraceTells. No condition. -/
import Derived.Test.YtcpanpkhdcifoaaLa
namespace Go.Proofs.Ytcpanpkhdcifoaa
open Go Go.Sy
set_option maxRecDepth 100000
set_option linter.unusedSimpArgs false
set_option linter.unusedVariables false

theorem there_v {l : List Pt} (h : OP l) (v : Int) : thereB v (-1) l = l.any fun p => decide (p.1 = v) := by
  rw [thereB, onP_any h.c0, show decide ((0 : Int) ≤ -1) = false from rfl, Bool.false_and, Bool.or_false]
  by_cases e : 1 ≤ v
  · rw [decide_eq_true e, Bool.true_and]
  · rw [decide_eq_false e, Bool.false_and]
    refine (List.any_eq_false.2 fun p hp => ?_).symm
    have := h.v1 p hp
    rw [decide_eq_true_eq]; omega
theorem there_c {l : List Pt} (h : OP l) (c : Int) : thereB (-1) c l = l.any fun p => decide (p.2 = c) := by
  rw [thereB, show decide ((1 : Int) ≤ -1) = false from rfl, Bool.false_and, Bool.false_or]
  by_cases e : 0 ≤ c
  · rw [decide_eq_true e, Bool.true_and]
  · rw [decide_eq_false e, Bool.false_and]
    refine (List.any_eq_false.2 fun p hp => ?_).symm
    have := h.c0 p hp
    rw [decide_eq_true_eq]; omega
theorem rlong_v {fs : List Fr} {en : Int} (h : RT fs en) (v f t : Int) : ∀ k, k ≤ fs.length → rlongK fs en v (-1) f t k = longK fs en f t (fun p => decide (p.1 = v)) k
  | 0, _ => rfl
  | k + 1, hk => by rw [rlongK, longK, rlong_v h v f t k (by omega), there_v (OP.of (h.pic k (by omega)))]
theorem rlong_c {fs : List Fr} {en : Int} (h : RT fs en) (c f t : Int) : ∀ k, k ≤ fs.length → rlongK fs en (-1) c f t k = longK fs en f t (fun p => decide (p.2 = c)) k
  | 0, _ => rfl
  | k + 1, hk => by rw [rlongK, longK, rlong_c h c f t k (by omega), there_c (OP.of (h.pic k (by omega)))]
theorem tells_law (fs : List Fr) (en w0 w1 t0 t1 : Int) (hf : ∀ f ∈ fs, inFr f) (he : i64 en) (hw0 : i64 w0) (hw1 : i64 w1) (ht0 : i64 t0) (ht1 : i64 t1) (hn : fs.length < 2 ^ 46) : Law Try.prog gl0 6 [Tr fs en, .agg [I w0, I w1], .agg [I t0, I t1]] := by
  refine Law.of (nt := 168) (res := [.tmp 6]) Try.mixed Try.func6 rfl rfl rfl rfl fun κ xc hκ => hκ.run 300 ?_
  simp (disch := omega) only [exec_succ, runR_next, runR_call, stepS, runOp, toSR, sop, rOf, rNew, sBox, isArr, ev, evs, Env.get, cellsS, envOf, OutOK_call, Bool.false_eq_true, List.size_toArray, List.length_cons, List.length_nil, List.range, List.range.loop, List.getElem?_toArray, List.getElem?_cons_succ, List.getElem?_cons_zero, ↓reduceIte, Nat.reduceAdd, Nat.reduceLT, Nat.reduceEqDiff, Nat.zero_add, Int.reduceNeg, reduceCtorEq, gl0]
  refine Does.ret hκ.hP hκ.hgl (wakes_ok) ⟨trivial, by simp [SV.bnd, SV.bndL], by first | (simp [SV.bnd, SV.bndL]; done) | assumption⟩ ?_
  refine hκ.run 300 ?_
  simp (disch := omega) only [exec_succ, runR_next, runR_fork_false, runR_call, stepS, runOp, condS, toSR, sop, rOf, sLoadIn, sLoad, sUn, ev, evs, Env.get, Heap.get, takeN, cut, aggOf, setO, OutOK_call, List.size_toArray, List.length_cons, List.length_nil, List.range, List.range.loop, List.getElem?_toArray, List.getElem?_cons_succ, List.getElem?_cons_zero, ↓reduceIte, Nat.reduceAdd, Nat.reduceLT, Nat.reduceEqDiff, Nat.zero_add, Nat.add_one_ne_zero, Int.reduceNeg, Bool.not_true, gl0, Try.sz24, Try.ag24]
  refine Does.ret hκ.hP hκ.hgl (over_ok fs en hf hn) ⟨trivial, by simp [SV.bnd, SV.bndL], by first | (simp [SV.bnd, SV.bndL]; done) | assumption⟩ ?_
  cases ho : overT fs
  case true =>
    refine hκ.run 300 ?_
    simp (disch := omega) only [exec_succ, runR_next, runR_fork_true, runR_stop, stepS, runOp, condS, toSR, sop, rOf, ev, Env.get, setO, OutOK_stop, List.size_toArray, List.length_cons, List.length_nil, List.range, List.range.loop, List.getElem?_toArray, List.getElem?_cons_zero, ↓reduceIte, Nat.reduceLT, Nat.zero_add, Int.reduceNeg, gl0]
    refine hκ.ret _ _ _ _ _ _ trivial rfl ?_
    rfl
  obtain ⟨hn3, hs3⟩ := overT_no ho
  have hs : ∀ f ∈ fs, f.2.length < 2 ^ 40 := fun f hf => by have := hs3 f hf; omega
  have c1 := at_ok fs en t0 hf hs he ht0 hn
  have c2 := ran_ok fs en w0 t0 t1 hf he hw0 ht0 ht1 hn
  have c3 := busy_ok fs en w1 t0 t1 hf he hw1 ht0 ht1 hn
  have c4 := right_ok fs en hf he hn
  have c5 := rat_ok fs en t0 hf he ht0 hn
  have c6 := rtime_ok t0
  have c7 := rtime_ok t1
  refine hκ.run 300 ?_
  simp (disch := omega) only [exec_succ, runR_next, runR_fork_false, runR_call, stepS, runOp, condS, toSR, sop, rOf, sLoadIn, sLoad, ev, evs, Env.get, Heap.get, takeN, cut, aggOf, setO, OutOK_call, List.size_toArray, List.length_cons, List.length_nil, List.range, List.range.loop, List.getElem?_toArray, List.getElem?_cons_succ, List.getElem?_cons_zero, ↓reduceIte, Nat.reduceAdd, Nat.reduceLT, Nat.reduceEqDiff, Nat.zero_add, Nat.add_one_ne_zero, Int.reduceNeg, gl0, Try.sz24, Try.ag24]
  refine Does.ret hκ.hP hκ.hgl (copied_ok fs en hf hs (by omega)) ⟨trivial, by simp [SV.bnd, SV.bndL], by first | (simp [SV.bnd, SV.bndL]; done) | assumption⟩ ?_
  refine hκ.run 300 ?_
  simp (disch := omega) only [exec_succ, runR_next, runR_need, runR_call, stepS, runOp, toSR, sop, rOf, rNew, sAlloc, sAlloc0, sLoadIn, sLoad, sStoreIn, sStore, sIndexAddr, elemT, obind, ev, evs, svs, Env.get, Heap.get, Heap.set, takeN, cut, over, paste, aggOf, cellsS, one, ones, setO, Value.oneCell', OutOK_need, OutOK_call, undefS, undef, Int.cast_ofNat_Int, List.size_toArray, List.length_cons, List.length_nil, List.range, List.range.loop, List.getElem?_toArray, List.getElem?_cons_succ, List.getElem?_cons_zero, List.map_cons, List.map_nil, ↓reduceIte, Nat.reduceAdd, Nat.reduceLT, Nat.reduceEqDiff, Nat.zero_add, Int.reduceToNat, Int.reduceLT, Int.reduceLE, Int.reduceNeg, true_and, and_self, forall_const, gl0, Try.sz2, Try.ag2, Try.sz24, Try.ag24, Try.ze24, Try.ar24, Try.underlying54]
  by_cases hr : rightT fs en = true
  case neg =>
    have h1 : atP fs en t0 = none := by rw [atP, if_neg hr]
    have h2 : longE fs en t0 t1 = 330 := by rw [longE, if_neg hr]
    rw [h1] at c1
    simp only [atV, Option.getD_none, Option.isSome_none] at c1
    rw [h2, if_neg (by decide)] at c2 c3
    rw [if_neg hr] at c4
    refine Does.ret hκ.hP hκ.hgl (c1) ⟨trivial, by simp [SV.bnd, SV.bndL], by first | (simp [SV.bnd, SV.bndL]; done) | assumption⟩ ?_
    refine hκ.run 300 ?_
    simp (disch := omega) only [exec_succ, runR_next, runR_need, runR_call, stepS, runOp, toSR, sop, rOf, sLoadIn, sLoad, sIndexAddr, sExtract, elemT, obind, ev, evs, Env.get, Heap.get, takeN, cut, aggOf, setO, OutOK_need, OutOK_call, Int.cast_ofNat_Int, List.size_toArray, List.length_cons, List.length_nil, List.range, List.range.loop, List.getElem?_toArray, List.getElem?_cons_succ, List.getElem?_cons_zero, ↓reduceIte, Nat.reduceAdd, Nat.reduceLT, Nat.reduceEqDiff, Nat.zero_add, Int.reduceToNat, Int.reduceLT, Int.reduceLE, Int.reduceNeg, true_and, and_self, forall_const, gl0, Try.sz2, Try.ag2, Try.sz3, Try.ag3, Try.sz24, Try.ag24, Try.underlying53, Try.underlying54]
    refine Does.ret hκ.hP hκ.hgl (c2) ⟨trivial, by simp [SV.bnd, SV.bndL], by first | (simp [SV.bnd, SV.bndL]; done) | assumption⟩ ?_
    refine hκ.run 300 ?_
    simp (disch := omega) only [exec_succ, runR_next, runR_need, runR_call, stepS, runOp, toSR, sop, rOf, sLoadIn, sLoad, sIndexAddr, sExtract, elemT, obind, ev, evs, Env.get, Heap.get, takeN, cut, aggOf, setO, OutOK_need, OutOK_call, Int.cast_ofNat_Int, List.size_toArray, List.length_cons, List.length_nil, List.range, List.range.loop, List.getElem?_toArray, List.getElem?_cons_succ, List.getElem?_cons_zero, ↓reduceIte, Nat.reduceAdd, Nat.reduceLT, Nat.reduceEqDiff, Nat.zero_add, Int.reduceToNat, Int.reduceLT, Int.reduceLE, Int.reduceNeg, true_and, and_self, forall_const, gl0, Try.sz2, Try.ag2, Try.sz3, Try.ag3, Try.sz24, Try.ag24, Try.underlying53, Try.underlying54]
    refine Does.ret hκ.hP hκ.hgl (c3) ⟨trivial, by simp [SV.bnd, SV.bndL], by first | (simp [SV.bnd, SV.bndL]; done) | assumption⟩ ?_
    refine hκ.run 300 ?_
    simp (disch := omega) only [exec_succ, runR_next, runR_call, stepS, runOp, toSR, sop, rOf, sLoadIn, sLoad, sExtract, ev, evs, Env.get, Heap.get, takeN, cut, aggOf, setO, OutOK_call, List.size_toArray, List.length_cons, List.length_nil, List.range, List.range.loop, List.getElem?_toArray, List.getElem?_cons_succ, List.getElem?_cons_zero, ↓reduceIte, Nat.reduceAdd, Nat.reduceLT, Nat.reduceEqDiff, Nat.zero_add, Nat.add_one_ne_zero, Int.reduceNeg, gl0, Try.sz24, Try.ag24]
    refine Does.ret hκ.hP hκ.hgl (c4) ⟨trivial, by simp [SV.bnd, SV.bndL], by first | (simp [SV.bnd, SV.bndL]; done) | assumption⟩ ?_
    refine hκ.run 300 ?_
    simp (disch := omega) only [sBuiltin, exec_succ, runR_next, runR_fork_true, runR_guard_tt, runR_stop, stepS, runOp, guardS, condS, toSR, sop, rOf, sPick, sInt, sBin, sUn, sLen, ev, Env.get, setO, OutOK_stop, undefS, undef, Int.cast_ofNat_Int, List.size_toArray, List.length_cons, List.length_nil, List.range, List.range.loop, List.getElem?_toArray, List.getElem?_cons_succ, List.getElem?_cons_zero, List.map_nil, Option.bind_some, ↓reduceIte, Nat.reduceAdd, Nat.reduceLT, Nat.reduceEqDiff, Nat.zero_add, Int.reduceNeg, Bool.not_true, Bool.not_false, decide_true, and_self, gl0, Try.underlying25]
    refine hκ.ret _ _ _ _ _ _ trivial rfl ?_
    rfl
  rw [if_pos hr] at c4
  have hrt := (RT.iff fs en).1 hr
  rw [atT_O] at c5
  have c8 := rran_ok fs en w0 (-1) t0 t1 hf hrt hw0 (by decide) ht0 ht1
  have c9 := rran_ok fs en (-1) w1 t0 t1 hf hrt (by decide) hw1 ht0 ht1
  rw [rlong_v hrt w0 t0 t1 _ (Nat.le_refl _)] at c8
  rw [rlong_c hrt w1 t0 t1 _ (Nat.le_refl _)] at c9
  obtain ⟨E, hE⟩ : ∃ E, longE fs en t0 t1 = E := ⟨_, rfl⟩
  rw [hE] at c2 c3
  obtain ⟨N1, hN1⟩ : ∃ N, (if E = 0 then longT fs en t0 t1 (fun p => decide (p.1 = w0)) else 0) = N := ⟨_, rfl⟩
  obtain ⟨N2, hN2⟩ : ∃ N, (if E = 0 then longT fs en t0 t1 (fun p => decide (p.2 = w1)) else 0) = N := ⟨_, rfl⟩
  rw [hN1] at c2
  rw [hN2] at c3
  apply Sat.join (α := Unit) (nx := 4) (dfs := []) (fun _ => True) (fun _ => ([(10, I N1), (11, I E), (12, I N2), (13, I E), (5, .ptr 2 0 0 0), (4, .ptr 1 0 0 0), (3, .ptr 0 0 0 0)], [(2, .own [I t0, I t1] 54), (1, .own [I w0, I w1] 53), (0, .own [Fs fs, I en] 24)]))
  · intro hj
    have hj := hj () trivial
    dsimp only at hj
    have hat : atP fs en t0 = (atO fs en t0).map fun k => pT fs k := by rw [atP, if_pos hr]
    rw [hat] at c1
    cases hk : atO fs en t0 with
    | none =>
      rw [hk] at c1 c5
      simp only [atV, Option.map_none, Option.getD_none, Option.isSome_none] at c1 c5
      refine Does.ret hκ.hP hκ.hgl (c1) ⟨trivial, by simp [SV.bnd, SV.bndL], by first | (simp [SV.bnd, SV.bndL]; done) | assumption⟩ ?_
      refine hκ.run 300 ?_
      simp (disch := omega) only [exec_succ, runR_next, runR_need, runR_call, stepS, runOp, toSR, sop, rOf, sLoadIn, sLoad, sIndexAddr, sExtract, elemT, obind, ev, evs, Env.get, Heap.get, takeN, cut, aggOf, setO, OutOK_need, OutOK_call, Int.cast_ofNat_Int, List.size_toArray, List.length_cons, List.length_nil, List.range, List.range.loop, List.getElem?_toArray, List.getElem?_cons_succ, List.getElem?_cons_zero, ↓reduceIte, Nat.reduceAdd, Nat.reduceLT, Nat.reduceEqDiff, Nat.zero_add, Int.reduceToNat, Int.reduceLT, Int.reduceLE, Int.reduceNeg, true_and, and_self, forall_const, gl0, Try.sz2, Try.ag2, Try.sz3, Try.ag3, Try.sz24, Try.ag24, Try.underlying53, Try.underlying54]
      refine Does.ret hκ.hP hκ.hgl (c2) ⟨trivial, by simp [SV.bnd, SV.bndL], by first | (simp [SV.bnd, SV.bndL]; done) | assumption⟩ ?_
      refine hκ.run 300 ?_
      simp (disch := omega) only [exec_succ, runR_next, runR_need, runR_call, stepS, runOp, toSR, sop, rOf, sLoadIn, sLoad, sIndexAddr, sExtract, elemT, obind, ev, evs, Env.get, Heap.get, takeN, cut, aggOf, setO, OutOK_need, OutOK_call, Int.cast_ofNat_Int, List.size_toArray, List.length_cons, List.length_nil, List.range, List.range.loop, List.getElem?_toArray, List.getElem?_cons_succ, List.getElem?_cons_zero, ↓reduceIte, Nat.reduceAdd, Nat.reduceLT, Nat.reduceEqDiff, Nat.zero_add, Int.reduceToNat, Int.reduceLT, Int.reduceLE, Int.reduceNeg, true_and, and_self, forall_const, gl0, Try.sz2, Try.ag2, Try.sz3, Try.ag3, Try.sz24, Try.ag24, Try.underlying53, Try.underlying54]
      refine Does.ret hκ.hP hκ.hgl (c3) ⟨trivial, by simp [SV.bnd, SV.bndL], by first | (simp [SV.bnd, SV.bndL]; done) | assumption⟩ ?_
      refine hκ.run 300 ?_
      simp (disch := omega) only [exec_succ, runR_next, runR_call, stepS, runOp, toSR, sop, rOf, sLoadIn, sLoad, sExtract, ev, evs, Env.get, Heap.get, takeN, cut, aggOf, setO, OutOK_call, List.size_toArray, List.length_cons, List.length_nil, List.range, List.range.loop, List.getElem?_toArray, List.getElem?_cons_succ, List.getElem?_cons_zero, ↓reduceIte, Nat.reduceAdd, Nat.reduceLT, Nat.reduceEqDiff, Nat.zero_add, Nat.add_one_ne_zero, Int.reduceNeg, gl0, Try.sz24, Try.ag24]
      refine Does.ret hκ.hP hκ.hgl (c4) ⟨trivial, by simp [SV.bnd, SV.bndL], by first | (simp [SV.bnd, SV.bndL]; done) | assumption⟩ ?_
      refine hκ.run 300 ?_
      simp (disch := omega) only [exec_succ, runR_next, runR_need, runR_fork_false, runR_call, stepS, runOp, condS, toSR, sop, rOf, sLoadIn, sLoad, sUn, sIndexAddr, elemT, obind, ev, evs, Env.get, Heap.get, takeN, cut, aggOf, setO, OutOK_need, OutOK_call, Int.cast_ofNat_Int, List.size_toArray, List.length_cons, List.length_nil, List.range, List.range.loop, List.getElem?_toArray, List.getElem?_cons_succ, List.getElem?_cons_zero, ↓reduceIte, Nat.reduceAdd, Nat.reduceLT, Nat.reduceEqDiff, Nat.zero_add, Nat.add_one_ne_zero, Int.reduceToNat, Int.reduceLT, Int.reduceLE, Int.reduceNeg, Bool.not_true, true_and, and_self, forall_const, gl0, Try.sz2, Try.ag2, Try.sz24, Try.ag24, Try.underlying54]
      refine Does.ret hκ.hP hκ.hgl (c5) ⟨trivial, by simp [SV.bnd, SV.bndL], by first | (simp [SV.bnd, SV.bndL]; done) | assumption⟩ ?_
      refine hκ.runA 14 300 ?_
      simp (disch := omega) only [sBuiltin, runR_next, runR_need, runR_fork_false, runR_guard_tt, runR_guard_ff, runR_guard_ft, stepS, runOp, guardS, condS, toSR, sop, rOf, sPick, sLoad, sInt, sEq, sEqR, sBin, sUn, sFieldAddr, sIndexAddr, sLen, ev, evs, Env.get, setO, OutOK_need, OutOK_stop, undefS, undef, halt, isAt, atC, execA_succ, Int.cast_ofNat_Int, List.size_toArray, List.length_cons, List.length_nil, List.range, List.range.loop, List.getElem?_toArray, List.getElem?_cons_succ, List.getElem?_cons_zero, List.map_nil, Option.bind_some, ↓reduceIte, Nat.reduceAdd, Nat.reduceLT, Nat.reduceEqDiff, Nat.zero_add, Nat.add_zero, Nat.add_one_ne_zero, Nat.reduceBEq, Int.reduceLT, Int.reduceLE, Int.reduceNeg, Bool.not_true, Bool.not_false, decide_false, beq_self_eq_true, true_and, and_self, forall_const, gl0, Try.underlying4, Try.fd24f0, Try.underlying25]
      exact hj.less (by repeat' (first | exact EnvSub.nil _ | exact HeapSub.nil _ | refine EnvSub.cons rfl ?_ | refine HeapSub.cons rfl ?_ | (refine EnvSub.cons (by simp [Env.get]; done) ?_) | (refine HeapSub.cons (by simp [Heap.get]; done) ?_))) (by repeat' (first | exact EnvSub.nil _ | exact HeapSub.nil _ | refine EnvSub.cons rfl ?_ | refine HeapSub.cons rfl ?_ | (refine EnvSub.cons (by simp [Env.get]; done) ?_) | (refine HeapSub.cons (by simp [Heap.get]; done) ?_)))
    | some k =>
      rw [hk] at c1 c5
      obtain ⟨hkl, -⟩ := atO_lt hk
      obtain ⟨v1, v2, v3⟩ := hf _ (getD_mem hkl)
      simp only [atV, Option.map_some, Option.getD_some, Option.isSome_some] at c1 c5
      have c10 := samePuts_ok (pT fs k) (pT fs k) (show (fs.getD k default).2.length < 2 ^ 62 by omega)
      rw [decide_eq_true rfl] at c10
      have ek : ((0 : Int) ≤ (k : Int)) = True := by first | (simp only [eq_iff_iff, iff_true]; first | assumption | omega) | (simp; omega)
      refine Does.ret hκ.hP hκ.hgl (c1) ⟨trivial, by simp [SV.bnd, SV.bndL], by first | (simp [SV.bnd, SV.bndL]; done) | assumption⟩ ?_
      refine hκ.run 300 ?_
      simp (disch := omega) only [exec_succ, runR_next, runR_need, runR_call, stepS, runOp, toSR, sop, rOf, sLoadIn, sLoad, sIndexAddr, sExtract, elemT, obind, ev, evs, Env.get, Heap.get, takeN, cut, aggOf, setO, OutOK_need, OutOK_call, Int.cast_ofNat_Int, List.size_toArray, List.length_cons, List.length_nil, List.range, List.range.loop, List.getElem?_toArray, List.getElem?_cons_succ, List.getElem?_cons_zero, ↓reduceIte, Nat.reduceAdd, Nat.reduceLT, Nat.reduceEqDiff, Nat.zero_add, Int.reduceToNat, Int.reduceLT, Int.reduceLE, Int.reduceNeg, true_and, and_self, forall_const, gl0, Try.sz2, Try.ag2, Try.sz3, Try.ag3, Try.sz24, Try.ag24, Try.underlying53, Try.underlying54]
      refine Does.ret hκ.hP hκ.hgl (c2) ⟨trivial, by simp [SV.bnd, SV.bndL], by first | (simp [SV.bnd, SV.bndL]; done) | assumption⟩ ?_
      refine hκ.run 300 ?_
      simp (disch := omega) only [exec_succ, runR_next, runR_need, runR_call, stepS, runOp, toSR, sop, rOf, sLoadIn, sLoad, sIndexAddr, sExtract, elemT, obind, ev, evs, Env.get, Heap.get, takeN, cut, aggOf, setO, OutOK_need, OutOK_call, Int.cast_ofNat_Int, List.size_toArray, List.length_cons, List.length_nil, List.range, List.range.loop, List.getElem?_toArray, List.getElem?_cons_succ, List.getElem?_cons_zero, ↓reduceIte, Nat.reduceAdd, Nat.reduceLT, Nat.reduceEqDiff, Nat.zero_add, Int.reduceToNat, Int.reduceLT, Int.reduceLE, Int.reduceNeg, true_and, and_self, forall_const, gl0, Try.sz2, Try.ag2, Try.sz3, Try.ag3, Try.sz24, Try.ag24, Try.underlying53, Try.underlying54]
      refine Does.ret hκ.hP hκ.hgl (c3) ⟨trivial, by simp [SV.bnd, SV.bndL], by first | (simp [SV.bnd, SV.bndL]; done) | assumption⟩ ?_
      refine hκ.run 300 ?_
      simp (disch := omega) only [exec_succ, runR_next, runR_call, stepS, runOp, toSR, sop, rOf, sLoadIn, sLoad, sExtract, ev, evs, Env.get, Heap.get, takeN, cut, aggOf, setO, OutOK_call, List.size_toArray, List.length_cons, List.length_nil, List.range, List.range.loop, List.getElem?_toArray, List.getElem?_cons_succ, List.getElem?_cons_zero, ↓reduceIte, Nat.reduceAdd, Nat.reduceLT, Nat.reduceEqDiff, Nat.zero_add, Nat.add_one_ne_zero, Int.reduceNeg, gl0, Try.sz24, Try.ag24]
      refine Does.ret hκ.hP hκ.hgl (c4) ⟨trivial, by simp [SV.bnd, SV.bndL], by first | (simp [SV.bnd, SV.bndL]; done) | assumption⟩ ?_
      refine hκ.run 300 ?_
      simp (disch := omega) only [exec_succ, runR_next, runR_need, runR_fork_false, runR_call, stepS, runOp, condS, toSR, sop, rOf, sLoadIn, sLoad, sUn, sIndexAddr, elemT, obind, ev, evs, Env.get, Heap.get, takeN, cut, aggOf, setO, OutOK_need, OutOK_call, Int.cast_ofNat_Int, List.size_toArray, List.length_cons, List.length_nil, List.range, List.range.loop, List.getElem?_toArray, List.getElem?_cons_succ, List.getElem?_cons_zero, ↓reduceIte, Nat.reduceAdd, Nat.reduceLT, Nat.reduceEqDiff, Nat.zero_add, Nat.add_one_ne_zero, Int.reduceToNat, Int.reduceLT, Int.reduceLE, Int.reduceNeg, Bool.not_true, true_and, and_self, forall_const, gl0, Try.sz2, Try.ag2, Try.sz24, Try.ag24, Try.underlying54]
      refine Does.ret hκ.hP hκ.hgl (c5) ⟨trivial, by simp [SV.bnd, SV.bndL], by first | (simp [SV.bnd, SV.bndL]; done) | assumption⟩ ?_
      refine hκ.runA 14 300 ?_
      simp (disch := omega) only [runR_next, runR_need, runR_guard_tt, runR_guard_ff, runR_call, stepS, runOp, guardS, toSR, sop, rOf, sLoadIn, sLoad, sInt, sEq, sEqR, sBin, sFieldAddr, sIndexAddr, elemT, obind, ev, evs, Env.get, Heap.get, takeN, cut, aggOf, setO, OutOK_need, OutOK_call, undefS, undef, halt, isAt, atC, execA_succ, List.size_toArray, List.length_cons, List.length_nil, List.length_map, List.range, List.range.loop, List.getElem?_toArray, List.getElem?_cons_succ, List.getElem?_cons_zero, Option.bind_some, ↓reduceIte, Nat.reduceAdd, Nat.reduceLT, Nat.reduceEqDiff, Nat.zero_add, Nat.add_zero, Nat.add_one_ne_zero, Nat.reduceBEq, Int.reduceNeg, Int.toNat_natCast, Bool.not_true, Bool.not_false, decide_true, beq_self_eq_true, true_and, and_self, forall_const, getD_map, gl0, Try.underlying4, Try.underlying22, Try.sz22, Try.ag22, Try.fd24f0, Try.sz25, Try.ag25, Try.sz58, Try.fd58f1, ek, eF]
      (repeat (refine ⟨by first | omega | (refine ⟨?_, ?_⟩ <;> omega) | trivial | (simp; done) | decide +kernel, fun _ => ?_⟩))
      refine Does.ret hκ.hP hκ.hgl (c10) ⟨trivial, by simp [SV.bnd, SV.bndL], by first | (simp [SV.bnd, SV.bndL]; done) | assumption⟩ ?_
      refine hκ.runA 14 300 ?_
      simp (disch := omega) only [sBuiltin, runR_next, runR_fork_false, runR_guard_tt, runR_guard_ff, runR_guard_ft, stepS, runOp, guardS, condS, toSR, sop, rOf, sPick, sBin, sUn, sLen, ev, Env.get, setO, OutOK_stop, undefS, undef, halt, isAt, atC, execA_succ, List.getElem?_toArray, List.getElem?_cons_succ, List.getElem?_cons_zero, Option.bind_some, ↓reduceIte, Nat.reduceLT, Nat.reduceEqDiff, Int.reduceNeg, Bool.not_true, Bool.not_false, beq_self_eq_true, and_self, gl0]
      exact hj.less (by repeat' (first | exact EnvSub.nil _ | exact HeapSub.nil _ | refine EnvSub.cons rfl ?_ | refine HeapSub.cons rfl ?_ | (refine EnvSub.cons (by simp [Env.get]; done) ?_) | (refine HeapSub.cons (by simp [Heap.get]; done) ?_))) (by repeat' (first | exact EnvSub.nil _ | exact HeapSub.nil _ | refine EnvSub.cons rfl ?_ | refine HeapSub.cons rfl ?_ | (refine EnvSub.cons (by simp [Env.get]; done) ?_) | (refine HeapSub.cons (by simp [Heap.get]; done) ?_)))
  intro _ _
  refine hκ.run 300 ?_
  simp (disch := omega) only [exec_succ, runR_next, runR_need, runR_call, stepS, runOp, toSR, sop, rOf, sLoadIn, sLoad, sIndexAddr, elemT, obind, ev, evs, Env.get, Heap.get, takeN, cut, aggOf, OutOK_need, OutOK_call, Int.cast_ofNat_Int, List.size_toArray, List.length_cons, List.length_nil, List.range, List.range.loop, List.getElem?_toArray, List.getElem?_cons_succ, List.getElem?_cons_zero, ↓reduceIte, Nat.reduceAdd, Nat.reduceLT, Nat.reduceEqDiff, Nat.zero_add, Int.reduceToNat, Int.reduceLT, Int.reduceLE, Int.reduceNeg, true_and, and_self, forall_const, gl0, Try.sz2, Try.ag2, Try.underlying54]
  refine Does.ret hκ.hP hκ.hgl (c6) ⟨trivial, by simp [SV.bnd, SV.bndL], by first | (simp [SV.bnd, SV.bndL]; done) | assumption⟩ ?_
  cases h6 : timeB t0
  · have h2 : E = 2 := by rw [← hE, longE, if_pos hr, if_neg (by rw [h6]; simp)]
    subst h2
    rw [if_neg (by decide)] at hN1 hN2
    subst hN1 hN2
    refine hκ.run 300 ?_
    simp (disch := omega) only [exec_succ, runR_next, runR_fork_true, runR_guard_tt, runR_guard_tf, runR_stop, stepS, runOp, guardS, condS, toSR, sop, rOf, sPick, sLoad, sInt, sBin, sUn, sIndexAddr, elemT, obind, ev, evs, Env.get, setO, OutOK_stop, undefS, undef, Int.cast_ofNat_Int, List.size_toArray, List.length_cons, List.length_nil, List.range, List.range.loop, List.getElem?_toArray, List.getElem?_cons_succ, List.getElem?_cons_zero, Option.bind_some, ↓reduceIte, Nat.reduceAdd, Nat.reduceLT, Nat.reduceEqDiff, Nat.zero_add, Int.reduceToNat, Int.reduceLT, Int.reduceLE, Int.reduceNeg, Bool.not_true, Bool.not_false, decide_true, and_self, gl0, Try.sz2, Try.underlying54]
    refine hκ.ret _ _ _ _ _ _ trivial rfl ?_
    rfl
  refine hκ.run 300 ?_
  simp (disch := omega) only [exec_succ, runR_next, runR_need, runR_guard_ff, runR_call, stepS, runOp, guardS, toSR, sop, rOf, sLoadIn, sLoad, sUn, sIndexAddr, elemT, obind, ev, evs, Env.get, Heap.get, takeN, cut, aggOf, setO, OutOK_need, OutOK_call, undefS, undef, Int.cast_ofNat_Int, List.getElem?_toArray, List.getElem?_cons_succ, List.getElem?_cons_zero, Option.bind_some, ↓reduceIte, Nat.reduceLT, Nat.reduceEqDiff, Int.reduceToNat, Int.reduceLT, Int.reduceLE, Int.reduceNeg, Bool.not_true, Bool.not_false, true_and, and_self, forall_const, gl0, Try.sz2, Try.ag2, Try.underlying54]
  refine Does.ret hκ.hP hκ.hgl (c7) ⟨trivial, by simp [SV.bnd, SV.bndL], by first | (simp [SV.bnd, SV.bndL]; done) | assumption⟩ ?_
  cases h7 : timeB t1
  · have h2 : E = 2 := by rw [← hE, longE, if_pos hr, if_neg (by rw [h7]; simp)]
    subst h2
    rw [if_neg (by decide)] at hN1 hN2
    subst hN1 hN2
    refine hκ.run 300 ?_
    simp (disch := omega) only [exec_succ, runR_next, runR_fork_true, runR_guard_tt, runR_guard_ff, runR_guard_tf, runR_stop, stepS, runOp, guardS, condS, toSR, sop, rOf, sPick, sLoad, sInt, sBin, sUn, sIndexAddr, elemT, obind, ev, Env.get, setO, OutOK_stop, undefS, undef, Int.cast_ofNat_Int, List.size_toArray, List.length_cons, List.length_nil, List.range, List.range.loop, List.getElem?_toArray, List.getElem?_cons_succ, List.getElem?_cons_zero, Option.bind_some, ↓reduceIte, Nat.reduceAdd, Nat.reduceLT, Nat.reduceEqDiff, Nat.zero_add, Int.reduceToNat, Int.reduceLT, Int.reduceLE, Int.reduceNeg, Bool.not_true, Bool.not_false, decide_true, and_self, gl0, Try.sz2, Try.underlying54]
    refine hκ.ret _ _ _ _ _ _ trivial rfl ?_
    rfl
  by_cases h8 : t1 < t0
  · have h2 : E = 2 := by rw [← hE, longE, if_pos hr, if_neg (fun h => by omega)]
    subst h2
    rw [if_neg (by decide)] at hN1 hN2
    subst hN1 hN2
    refine hκ.run 300 ?_
    simp (disch := omega) only [exec_succ, runR_next, runR_need, runR_fork_true, runR_guard_tt, runR_guard_ff, runR_stop, stepS, runOp, guardS, condS, toSR, sop, rOf, sPick, sLoadIn, sLoad, sInt, sBin, sUn, sIndexAddr, elemT, obind, ev, Env.get, Heap.get, takeN, cut, aggOf, setO, OutOK_need, OutOK_stop, undefS, undef, Int.cast_ofNat_Int, List.size_toArray, List.length_cons, List.length_nil, List.range, List.range.loop, List.getElem?_toArray, List.getElem?_cons_succ, List.getElem?_cons_zero, Option.bind_some, ↓reduceIte, Nat.reduceAdd, Nat.reduceLT, Nat.reduceEqDiff, Nat.zero_add, Int.reduceToNat, Int.reduceLT, Int.reduceLE, Int.reduceNeg, Bool.not_true, Bool.not_false, decide_true, true_and, and_self, forall_const, gl0, Try.sz2, Try.ag2, Try.underlying54, h8]
    refine hκ.ret _ _ _ _ _ _ trivial rfl ?_
    rfl
  have h2 : E = 0 := by rw [← hE, longE, if_pos hr, if_pos ⟨h6, h7, by omega⟩]
  subst h2
  rw [if_pos rfl] at hN1 hN2
  rw [longT] at hN1 hN2
  rw [hN1] at c8
  rw [hN2] at c9
  refine hκ.run 300 ?_
  simp (disch := omega) only [exec_succ, runR_next, runR_need, runR_fork_false, runR_guard_tt, runR_guard_ff, runR_call, stepS, runOp, guardS, condS, toSR, sop, rOf, sPick, sLoadIn, sLoad, sInt, sBin, sUn, sIndexAddr, elemT, obind, ev, evs, Env.get, Heap.get, takeN, cut, aggOf, setO, OutOK_need, OutOK_call, undefS, undef, Int.cast_ofNat_Int, List.size_toArray, List.length_cons, List.length_nil, List.range, List.range.loop, List.getElem?_toArray, List.getElem?_cons_succ, List.getElem?_cons_zero, Option.bind_some, ↓reduceIte, Nat.reduceAdd, Nat.reduceLT, Nat.reduceEqDiff, Nat.zero_add, Nat.add_one_ne_zero, Int.reduceToNat, Int.reduceLT, Int.reduceLE, Int.reduceNeg, Bool.not_true, Bool.not_false, decide_true, decide_false, true_and, and_self, forall_const, gl0, Try.sz2, Try.ag2, Try.sz3, Try.ag3, Try.sz24, Try.ag24, Try.underlying53, Try.underlying54, h8]
  refine Does.ret hκ.hP hκ.hgl (c8) ⟨trivial, by simp [SV.bnd, SV.bndL], by first | (simp [SV.bnd, SV.bndL]; done) | assumption⟩ ?_
  refine hκ.run 300 ?_
  simp (disch := omega) only [exec_succ, runR_next, runR_need, runR_guard_tt, runR_call, stepS, runOp, guardS, toSR, sop, rOf, sPick, sLoadIn, sLoad, sInt, sBin, sIndexAddr, elemT, obind, ev, evs, Env.get, Heap.get, takeN, cut, aggOf, setO, OutOK_need, OutOK_call, undefS, undef, Int.cast_ofNat_Int, List.getElem?_toArray, List.getElem?_cons_succ, List.getElem?_cons_zero, Option.bind_some, ↓reduceIte, Nat.reduceLT, Nat.reduceEqDiff, Nat.add_one_ne_zero, Int.reduceToNat, Int.reduceLT, Int.reduceLE, Int.reduceNeg, Bool.not_true, decide_true, true_and, and_self, forall_const, gl0, Try.sz2, Try.ag2, Try.sz3, Try.ag3, Try.sz24, Try.ag24, Try.underlying53, Try.underlying54]
  refine Does.ret hκ.hP hκ.hgl (c9) ⟨trivial, by simp [SV.bnd, SV.bndL], by first | (simp [SV.bnd, SV.bndL]; done) | assumption⟩ ?_
  refine hκ.run 300 ?_
  simp (disch := omega) only [exec_succ, runR_next, runR_guard_tt, runR_stop, stepS, runOp, guardS, toSR, sop, rOf, sPick, sInt, sBin, ev, Env.get, setO, OutOK_stop, undefS, undef, List.getElem?_toArray, List.getElem?_cons_succ, List.getElem?_cons_zero, Option.bind_some, ↓reduceIte, Nat.reduceLT, Nat.reduceEqDiff, Int.reduceNeg, Bool.not_true, decide_true, and_self, gl0]
  refine hκ.ret _ _ _ _ _ _ trivial rfl ?_
  rfl
end Go.Proofs.Ytcpanpkhdcifoaa

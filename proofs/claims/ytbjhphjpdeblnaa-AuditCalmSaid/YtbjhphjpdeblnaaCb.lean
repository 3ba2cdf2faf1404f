/- Those of a pool, who may be held against one another, alike ones. No condition. -/
import Derived.Test.YtbjhphjpdeblnaaCa
namespace Go.Proofs.Ytbjhphjpdeblnaa
open Go Go.Sy
set_option maxRecDepth 100000
set_option linter.unusedSimpArgs false
set_option linter.unusedVariables false

/-- Of a row's elements the last ones are forgotten. -/
theorem Sat.forget {κ : Kx} {x : Ctx} {k : List Item} {env : Env} {H : Heap} {nx : Nat} {dfs : List Nat} (i n : Nat) {sz cap : Nat} {T : TypeId} {xs : List (List SV)} (hi : H.get i = some (.row sz cap T xs)) (hcap : cap ≠ 0)
    (h : Sat κ x ⟨k, env, H.set i (.row sz cap T (xs.take n)), nx, dfs⟩) : Sat κ x ⟨k, env, H, nx, dfs⟩ := by
  intro ν w a hn hH hE hD
  refine h ν w a hn (hH.write hi hcap (fun _ _ => rfl) rfl (.refl _) ?_) hE hD
  obtain ⟨q1, q2, q3, ys, q4, q5, q6⟩ := hH.ok i _ hi
  refine ⟨q1, Nat.le_trans (by rw [List.length_take]; omega) q2, q3.take n, ys.take (n * sz), q4.take q3 n, fun v hv => q5 v (List.mem_of_mem_take hv), fun hc => ?_⟩
  obtain ⟨c, c1, c2, c3⟩ := q6 hc
  refine ⟨c, c1, c2, fun j hj => ?_⟩
  rw [List.length_take] at hj
  rw [List.getElem?_take, if_pos (by omega)]
  exact c3 j (by omega)
theorem Post.mono {m : Nat} {Q Q' : SV → Heap → Nat → Prop} {s : SV} {H : Heap} {nx : Nat} (h : Post m Q s H nx) (hq : ∀ s H n, Q s H n → Q' s H n) : Post m Q' s H nx :=
  fun x ν ν' w v h1 h2 h3 h4 h5 h6 => let ⟨a, b, c, d, e⟩ := h x ν ν' w v h1 h2 h3 h4 h5 h6; ⟨a, b, c, hq _ _ _ d, e⟩
theorem sclone_row (l : List Se) (hn : l.length < 2 ^ 40) : Con Try.prog gl0 (fnv 62) [Xs l] 0 [] (RetRow 65 11 (l.map eX)) := by
  rcases l with _ | ⟨p, l⟩
  · refine Con.noArg fun a cap => ?_
    cases a with
    | none =>
      refine Con.of Try.ok62 (nt := 8) (res := [.tmp 2]) Try.mixed Try.func62 rfl rfl rfl rfl fun κ xc hκ => hκ.run 300 ?_
      simp (disch := omega) only [exec_succ, runR_next, runR_need, runR_fork_true, runR_stop, stepS, runOp, condS, toSR, sop, rOf, sEq, sEqR, sBin, ev, Env.get, envOf, OutOK_need, OutOK_stop, Bool.false_eq_true, List.size_toArray, List.length_cons, List.length_nil, List.range, List.range.loop, List.getElem?_toArray, List.getElem?_cons_succ, List.getElem?_cons_zero, ↓reduceIte, Nat.reduceAdd, Nat.reduceLT, Nat.zero_add, Nat.add_one_ne_zero, true_and, forall_const, gl0, Try.underlying25]
      refine Sat.nilRow 2 11 65 rfl ?_
      refine hκ.ret _ _ _ _ _ _ trivial rfl ?_
      exact Post.row rfl (by simp)
    | some a =>
      refine Con.of Try.ok62 (nt := 8) (res := [.tmp 2]) Try.mixed Try.func62 rfl rfl rfl rfl fun κ xc hκ => hκ.run 300 ?_
      simp (disch := omega) only [sBuiltin, srcS, appArgS, sAppendTo, sAppend, exec_succ, runR_next, runR_need, runR_all, runR_fork_false, runR_stop, stepS, runOp, condS, toSR, sop, rOf, rNew, sEq, sEqR, sBin, sliceT, obind, fillS, evps, repeatL, sBuildSlice, chunk, ev, svs, Env.get, Heap.get, Heap.drop, ones, idFrees, envOf, OutOK_need, OutOK_all, OutOK_stop, List.take_nil, Bool.false_eq_true, List.size_toArray, List.length_cons, List.length_nil, List.range, List.range.loop, List.getElem?_toArray, List.getElem?_cons_succ, List.getElem?_cons_zero, List.map_nil, List.append_nil, ↓reduceIte, Nat.reduceAdd, Nat.reduceLT, Nat.reduceLeDiff, Nat.reduceEqDiff, Nat.zero_add, Nat.add_zero, Nat.zero_mul, Nat.add_one_ne_zero, true_and, and_self, forall_const, gl0, Try.underlying25, Try.sz65, Try.ze65, Try.by65]
      (repeat (refine ⟨by first | omega | (refine ⟨?_, ?_⟩ <;> omega) | trivial | (simp; done) | decide +kernel, fun _ => ?_⟩))
      intro c
      refine hκ.ret _ _ _ _ _ _ trivial rfl ?_
      exact Post.row rfl (by simp)
  · rw [List.length_cons] at hn
    refine Con.of Try.ok62 (nt := 8) (res := [.tmp 2]) Try.mixed Try.func62 rfl rfl rfl rfl fun κ xc hκ => hκ.run 300 ?_
    simp (disch := omega) only [sBuiltin, srcS, appArgS, sAppendTo, sAppend, exec_succ, runR_next, runR_need, runR_all, runR_fork_false, runR_stop, stepS, runOp, condS, toSR, sop, rOf, rNew, sEq, sEqR, sBin, sliceT, obind, fillS, evps, repeatL, sBuildSlice, chunk, ev, svs, Env.get, Heap.get, Heap.drop, ones, idFrees, envOf, OutOK_need, OutOK_all, OutOK_stop, List.take_nil, Bool.false_eq_true, List.size_toArray, List.length_cons, List.length_nil, List.length_map, List.range, List.range.loop, List.getElem?_toArray, List.getElem?_cons_succ, List.getElem?_cons_zero, List.map_cons, List.map_nil, List.nil_append, ↓reduceIte, Nat.reduceAdd, Nat.reduceLT, Nat.reduceLeDiff, Nat.reduceEqDiff, Nat.zero_add, Nat.zero_mul, Nat.add_one_ne_zero, ne_eq, not_false_eq_true, true_and, and_self, forall_const, gl0, Try.underlying25, Try.sz65, Try.ze65, Try.by65, eX]
    (repeat (refine ⟨by first | omega | (refine ⟨?_, ?_⟩ <;> omega) | trivial | (simp; done) | decide +kernel, fun _ => ?_⟩))
    intro c
    refine hκ.ret _ _ _ _ _ _ trivial rfl ?_
    exact Post.row rfl (by simp [eX])
def inB (n : Int) (x : Se) : Bool := decide (x.p = n)
def outB (n : Int) (x : Se) : Bool := !inB n x
abbrev inP (l : List Se) (n : Int) : List Se := l.filter (inB n)
theorem inP_le (l : List Se) (n : Int) : (inP l n).length ≤ l.length := List.length_filter_le _ _
theorem inP_succ {l : List Se} {n : Int} {k : Nat} (h : k < l.length) : inP (l.take (k + 1)) n = inP (l.take k) n ++ (if inB n (l.getD k default) = true then [l.getD k default] else []) := by
  rw [take_getD h, inP, List.filter_append, List.filter_cons]; rfl
theorem inP_pre {l : List Se} {n : Int} {k : Nat} (hk : k ≤ l.length) (h : ∀ j, j < k → outB n (l.getD j default) = false) : inP (l.take k) n = l.take k := by
  rw [inP, List.filter_eq_self]
  intro x hx
  obtain ⟨j, hj, rfl⟩ := List.getElem_of_mem hx
  rw [List.length_take] at hj
  have := h j (by omega)
  rw [getD_get (by omega), outB] at this
  rw [List.getElem_take]
  simpa using this
/-- The kept ones, the other ones behind them. -/
theorem set_keep {F l : List Se} (x : Se) (h : F.length < l.length) : (F ++ l.drop F.length).set F.length x = (F ++ [x]) ++ l.drop (F ++ [x]).length := by
  rw [List.set_append_right _ _ (Nat.le_refl _), Nat.sub_self, List.length_append, List.length_singleton, List.drop_eq_getElem_cons h, List.set_cons_zero, List.append_assoc]; rfl
theorem keep_get {F l : List Se} {j : Nat} (h : F.length ≤ j) (hj : j < l.length) : (List.map eX (F ++ l.drop F.length)).getD j [] = eX (l.getD j default) := by
  rw [getD_map _ _ _ (by rw [List.length_append, List.length_drop]; omega)]
  congr 1
  rw [List.getD, List.getElem?_append_right h, List.getElem?_drop, show F.length + (j - F.length) = j by omega, List.getD]
theorem keep_len {F l : List Se} (h : F.length ≤ l.length) : (List.map eX (F ++ l.drop F.length)).length = l.length := by
  rw [List.length_map, List.length_append, List.length_drop]; omega
set_option maxHeartbeats 2000000 in
theorem in_ok (m : Mo) (n : Int) (hm : inM m) : Con Try.prog gl0 (fnv 40) [.agg (eM m), I n] 0 [] (Ret (Xs (inP m.2 n))) := by
  obtain ⟨t, l⟩ := m
  obtain ⟨-, hm2, hm3⟩ := hm
  dsimp only at hm2 hm3 ⊢
  refine Con.of Try.ok40 (nt := 10) (res := [.tmp 4]) Try.mixed Try.func40 rfl rfl rfl rfl fun κ xc hκ => hκ.run 300 ?_
  simp (disch := omega) only [exec_succ, runR_next, runR_call, stepS, runOp, toSR, sop, rOf, rNew, sBox, isArr, sLoadIn, sLoad, sFieldAddr, ev, evs, svs, Env.get, Heap.get, takeN, cut, aggOf, cellsS, envOf, Value.cells, OutOK_call, Bool.false_eq_true, List.size_toArray, List.length_cons, List.length_nil, List.range, List.range.loop, List.getElem?_toArray, List.getElem?_cons_succ, List.getElem?_cons_zero, List.map_cons, List.map_nil, List.toList_toArray, ↓reduceIte, Nat.reduceAdd, Nat.reduceLT, Nat.reduceEqDiff, Nat.zero_add, Nat.add_one_ne_zero, reduceCtorEq, gl0, Try.sz25, Try.ag25, Try.fd27f1, eM]
  refine Does.row hκ.hP hκ.hgl (sclone_row l hm3) ⟨trivial, by simp [SV.bnd, SV.bndL]⟩ fun cap hcap => ?_
  rw [List.length_map] at hcap ⊢
  refine hκ.run 300 ?_
  simp (disch := omega) only [exec_succ, runR_next, runR_call, stepS, runOp, toSR, sop, sMakeFunc, ev, evs, Env.get, setO, OutOK_call, List.getElem?_toArray, List.getElem?_cons_succ, List.getElem?_cons_zero, ↓reduceIte, Nat.reduceAdd, Nat.reduceLT, Nat.reduceEqDiff, gl0]
  refine Does.inl hκ.hP hκ.hgl Try.ok61 (nt := 42) (res := [.tmp 4]) Try.mixed Try.func61 rfl rfl rfl rfl fun κ_h1 x_h1 h1 => h1.run 300 ?_
  simp (disch := omega) only [exec_succ, runR_next, runR_call, stepS, runOp, toSR, sop, rOf, ev, evs, Env.get, envOf, OutOK_call, List.size_toArray, List.length_cons, List.length_nil, List.range, List.range.loop, List.getElem?_toArray, List.getElem?_cons_succ, List.getElem?_cons_zero, ↓reduceIte, Nat.reduceAdd, Nat.reduceLT, Nat.reduceEqDiff, Nat.zero_add, Nat.add_one_ne_zero, Int.reduceNeg, reduceCtorEq, gl0]
  refine Does.inl h1.hP h1.hgl Try.ok36 (nt := 19) (res := [.tmp 4]) Try.mixed Try.func36 rfl rfl rfl rfl fun κ_h2 x_h2 h2 => h2.run 300 ?_
  simp (disch := omega) only [sBuiltin, exec_succ, runR_next, runR_stop, stepS, runOp, toSR, sop, rOf, sLen, ev, Env.get, envOf, OutOK_stop, List.size_toArray, List.length_cons, List.length_nil, List.range, List.range.loop, List.getElem?_toArray, List.getElem?_cons_succ, List.getElem?_cons_zero, ↓reduceIte, Nat.reduceAdd, Nat.reduceLT, Nat.zero_add, Nat.add_one_ne_zero, Int.reduceNeg, gl0, Try.underlying25]
  refine Sat.less (Sat.loop (γ := Nat) (fun k => ([(8, I k), (7, I l.length), (0, .sl 2 11 0 l.length cap), (1, .fn (.func 63) [] [.ptr 1 0 0 0])], [(2, .row 11 cap 65 (l.map eX)), (1, .own [I n] 3)], 3)) (fun k => l.length - k) (fun k => k ≤ l.length ∧ ∀ j, j < k → outB n (l.getD j default) = false) ?round 0 ⟨Nat.zero_le _, fun j hj => by omega⟩) (by repeat' (first | exact EnvSub.nil _ | exact HeapSub.nil _ | refine EnvSub.cons rfl ?_ | refine HeapSub.cons rfl ?_ | (refine EnvSub.cons (by simp [Env.get]; done) ?_) | (refine HeapSub.cons (by simp [Heap.get]; done) ?_))) (by repeat' (first | exact EnvSub.nil _ | exact HeapSub.nil _ | refine EnvSub.cons rfl ?_ | refine HeapSub.cons rfl ?_ | (refine EnvSub.cons (by simp [Env.get]; done) ?_) | (refine HeapSub.cons (by simp [Heap.get]; done) ?_)))
  case round =>
    rintro k ⟨hk, hj⟩ ih
    dsimp only at ih ⊢
    refine h2.run 300 ?_
    simp (disch := omega) only [exec_succ, runR_next, stepS, runOp, condS, toSR, sop, sInt, sBin, ev, Env.get, List.size_toArray, List.length_cons, List.length_nil, List.range, List.range.loop, List.getElem?_toArray, List.getElem?_cons_zero, ↓reduceIte, Nat.reduceLT, Nat.reduceEqDiff, Nat.zero_add, Int.reduceNeg, gl0]
    refine OutOK_fork (fun h => ?_) (fun h => ?_) <;> try simp only [Bool.not_true, Bool.not_false, decide_eq_true_eq, decide_eq_false_iff_not, Bool.not_eq_true', Bool.not_eq_false', Bool.and_eq_true, Bool.or_eq_false_iff, Bool.or_eq_true, Bool.and_eq_false_iff] at h
    · have hz := fun h => ih (k + 1) ⟨by omega, h⟩ (by omega)
      have hz := fun (h : outB n (l.getD k default) = false) => hz fun j hj2 => by
        by_cases e : j = k
        · rw [e]; exact h
        · exact hj j (by omega)
      have hkl : k < l.length := by omega
      have gk : (List.map eX l).getD k [] = eX (l.getD k default) := getD_map _ _ _ hkl
      have hpre := inP_pre hk hj
      have hsuc := inP_succ (n := n) hkl
      rw [hpre] at hsuc
      rw [outB, inB] at hz
      rw [inB] at hsuc
      clear ih hj
      generalize l.getD k default = y at *
      simp (disch := omega) only [exec_succ, runR_next, runR_need, runR_call, stepS, runOp, toSR, sop, rOf, sLoadIn, sLoad, sIndexAddr, elemT, obind, ev, evs, Env.get, Heap.get, takeN, cut, aggOf, OutOK_need, OutOK_call, List.size_toArray, List.length_cons, List.length_nil, List.length_map, List.range, List.range.loop, List.getElem?_toArray, List.getElem?_cons_succ, List.getElem?_cons_zero, ↓reduceIte, Nat.reduceAdd, Nat.reduceLT, Nat.reduceEqDiff, Nat.zero_add, Nat.add_one_ne_zero, Int.reduceNeg, Int.toNat_natCast, reduceCtorEq, Try.underlying25, Try.sz65, Try.ag65, eX, gk]
      (repeat (refine ⟨by first | omega | (refine ⟨?_, ?_⟩ <;> omega) | trivial | (simp; done) | decide +kernel, fun _ => ?_⟩))
      by_cases e : y.p = n
      · have hz := hz (by rw [decide_eq_true e]; rfl)
        have et : (y.p = n) = True := by first | (simp only [eq_iff_iff, iff_true]; first | assumption | omega) | (simp; omega)
        refine Does.inlc h2.hP h2.hgl Try.ok63 (nt := 8) (res := [.tmp 3]) Try.mixed Try.func63 rfl rfl rfl rfl fun κ_h3 x_h3 h3 => h3.run 300 ?_
        simp (disch := omega) only [exec_succ, runR_next, runR_stop, stepS, runOp, toSR, sop, rOf, rNew, sBox, isArr, sLoadIn, sLoad, sInt, sBin, sFieldAddr, ev, Env.get, Heap.get, takeN, cut, aggOf, cellsS, envOf, OutOK_stop, Bool.false_eq_true, List.size_toArray, List.length_cons, List.length_nil, List.range, List.range.loop, List.getElem?_toArray, List.getElem?_cons_succ, List.getElem?_cons_zero, List.cons_append, List.nil_append, ↓reduceIte, Nat.reduceAdd, Nat.reduceLT, Nat.reduceEqDiff, Nat.zero_add, Nat.add_one_ne_zero, Bool.not_true, decide_true, reduceCtorEq, gl0, Try.sz3, Try.ag3, Try.fd65f3, et]
        refine h3.ret _ _ _ _ _ _ trivial rfl ?_
        refine h2.run 300 ?_
        simp (disch := omega) only [exec_succ, runR_next, runR_fork_false, runR_stop, stepS, runOp, condS, toSR, sop, rOf, sInt, sBin, ev, Env.get, setO, OutOK_stop, dropL, resV, List.size_toArray, List.length_cons, List.length_nil, List.range, List.range.loop, List.getElem?_toArray, List.getElem?_cons_succ, List.getElem?_cons_zero, ↓reduceIte, Nat.reduceAdd, Nat.reduceLT, Nat.reduceEqDiff, Nat.zero_add, Int.reduceNeg, wrap_i64, gl0]
        (repeat (refine ⟨by first | omega | (refine ⟨?_, ?_⟩ <;> omega) | trivial | (simp; done) | decide +kernel, fun _ => ?_⟩))
        refine Sat.via (fun i => i) (hz) (by intro i j; (repeat (first | omega | split))) (by repeat' (first | exact EnvVia.nil | refine EnvVia.cons (by first | trivial | decide | (simp [SV.bnd, SV.bndL]; done)) rfl ?_)) (by repeat' (first | exact HeapVia.nil | refine HeapVia.cons (by decide) (by first | trivial | (simp [Blk.bnd, SV.bnd, SV.bndL]; done) | exact bndL_mapV _ _ _ | exact LR.bnd (by rw [l2]; simp [bndE, SV.bnd, SV.bndL]) (by rw [l6]; decide)) (by first | rfl | (simp only [Blk.ren, renL_mapV]; rfl) | (rw [LR.ren (by rw [l2] <;> rfl) (by rw [l6] <;> rfl)]; rfl)) ?_)) ⟨by have := h2.hm; (try dsimp only at this); (first | done | omega), fun i hi => by have := h2.hm; (try dsimp only at this); (first | omega | (dsimp only; omega) | (rw [if_neg (by omega)]))⟩ ⟨by simp, rfl⟩
      · rw [decide_eq_false e, if_neg (by decide), List.append_nil] at hsuc
        clear hz
        have et : (y.p = n) = False := by first | (simp only [eq_iff_iff, iff_false]; first | assumption | omega) | (simp; omega)
        have em : ((k : Int) = -1) = False := by first | (simp only [eq_iff_iff, iff_false]; first | assumption | omega) | (simp; omega)
        refine Does.inlc h2.hP h2.hgl Try.ok63 (nt := 8) (res := [.tmp 3]) Try.mixed Try.func63 rfl rfl rfl rfl fun κ_h3 x_h3 h3 => h3.run 300 ?_
        simp (disch := omega) only [exec_succ, runR_next, runR_stop, stepS, runOp, toSR, sop, rOf, rNew, sBox, isArr, sLoadIn, sLoad, sInt, sBin, sFieldAddr, ev, Env.get, Heap.get, takeN, cut, aggOf, cellsS, envOf, OutOK_stop, Bool.false_eq_true, List.size_toArray, List.length_cons, List.length_nil, List.range, List.range.loop, List.getElem?_toArray, List.getElem?_cons_succ, List.getElem?_cons_zero, List.cons_append, List.nil_append, ↓reduceIte, Nat.reduceAdd, Nat.reduceLT, Nat.reduceEqDiff, Nat.zero_add, Nat.add_one_ne_zero, Bool.not_false, decide_false, reduceCtorEq, gl0, Try.sz3, Try.ag3, Try.fd65f3, et]
        refine h3.ret _ _ _ _ _ _ trivial rfl ?_
        refine h2.run 300 ?_
        simp (disch := omega) only [exec_succ, runR_next, runR_fork_true, runR_stop, stepS, runOp, condS, toSR, sop, rOf, ev, Env.get, setO, OutOK_stop, dropL, resV, List.size_toArray, List.length_cons, List.length_nil, List.range, List.range.loop, List.getElem?_toArray, List.getElem?_cons_succ, List.getElem?_cons_zero, ↓reduceIte, Nat.reduceAdd, Nat.reduceLT, Nat.reduceEqDiff, Nat.zero_add, Int.reduceNeg, gl0]
        (repeat (refine ⟨by first | omega | (refine ⟨?_, ?_⟩ <;> omega) | trivial | (simp; done) | decide +kernel, fun _ => ?_⟩))
        refine h2.ret _ _ _ _ _ _ trivial rfl ?_
        refine h1.run 300 ?_
        simp (disch := omega) only [exec_succ, runR_next, runR_fork_false, runR_stop, stepS, runOp, condS, toSR, sop, rOf, sInt, sBin, ev, Env.get, setO, OutOK_stop, dropL, resV, List.size_toArray, List.length_cons, List.length_nil, List.range, List.range.loop, List.getElem?_toArray, List.getElem?_cons_succ, List.getElem?_cons_zero, ↓reduceIte, Nat.reduceAdd, Nat.reduceLT, Nat.reduceEqDiff, Nat.zero_add, Int.reduceNeg, decide_false, wrap_i64, gl0, em]
        refine Sat.less (Sat.loop (γ := Nat × List Se) (fun g => ([(6, I g.1), (5, I g.2.length), (0, .sl 2 11 0 l.length cap), (1, .fn (.func 63) [] [.ptr 1 0 0 0])], [(2, .row 11 cap 65 ((g.2 ++ l.drop g.2.length).map eX)), (1, .own [I n] 3)], 4)) (fun g => l.length - g.1) (fun g => g.1 ≤ l.length ∧ g.2 = inP (l.take g.1) n ∧ g.2.length < g.1) ?rnd (k + 1, l.take k) ⟨by dsimp only; omega, hsuc.symm, by dsimp only; rw [List.length_take]; omega⟩) (by dsimp only; rw [List.length_take, Nat.min_eq_left hk]; exact (by repeat' (first | exact EnvSub.nil _ | exact HeapSub.nil _ | refine EnvSub.cons rfl ?_ | refine HeapSub.cons rfl ?_ | (refine EnvSub.cons (by simp [Env.get]; done) ?_) | (refine HeapSub.cons (by simp [Heap.get]; done) ?_)))) (by dsimp only; rw [List.length_take, Nat.min_eq_left hk, List.take_append_drop]; exact (by repeat' (first | exact EnvSub.nil _ | exact HeapSub.nil _ | refine EnvSub.cons rfl ?_ | refine HeapSub.cons rfl ?_ | (refine EnvSub.cons (by simp [Env.get]; done) ?_) | (refine HeapSub.cons (by simp [Heap.get]; done) ?_))))
        clear gk hsuc hpre et hkl
        clear em
        case rnd =>
          rintro ⟨j, F⟩ ⟨hj, hF, hFj⟩ ih
          dsimp only at hj hF hFj ih ⊢
          have hl2 := keep_len (F := F) (l := l) (by omega)
          refine h1.runA 11 300 ?_
          simp (disch := omega) only [sBuiltin, runR_next, stepS, runOp, condS, toSR, sop, rOf, sInt, sBin, sLen, ev, Env.get, halt, isAt, atC, execA_succ, List.size_toArray, List.length_cons, List.length_nil, List.range, List.range.loop, List.getElem?_toArray, List.getElem?_cons_succ, List.getElem?_cons_zero, ↓reduceIte, Nat.reduceAdd, Nat.reduceLT, Nat.reduceEqDiff, Nat.zero_add, Nat.add_one_ne_zero, Nat.reduceBEq, gl0, Try.underlying25]
          refine OutOK_fork (fun h => ?_) (fun h => ?_) <;> try simp only [Bool.not_true, Bool.not_false, decide_eq_true_eq, decide_eq_false_iff_not, Bool.not_eq_true', Bool.not_eq_false', Bool.and_eq_true, Bool.or_eq_false_iff, Bool.or_eq_true, Bool.and_eq_false_iff] at h
          · have hz := fun F h1 h2 => ih (j + 1, F) ⟨by dsimp only; omega, h1, h2⟩ (by dsimp only; omega)
            dsimp only at hz
            have gj := keep_get (F := F) (l := l) (j := j) (by omega) (by omega)
            have hsuc := inP_succ (n := n) (show j < l.length by omega)
            rw [← hF, inB] at hsuc
            have hset := set_keep (F := F) (l := l) (l.getD j default) (by omega)
            have gF : F.length < (List.map eX (F ++ l.drop F.length)).length := by omega
            obtain ⟨zz, gz⟩ : ∃ zz : Se, (List.map eX (F ++ l.drop F.length)).getD F.length [] = eX zz := ⟨_, keep_get (Nat.le_refl _) (by omega)⟩
            clear ih hF
            generalize l.getD j default = y at *
            by_cases e : y.p = n
            · rw [decide_eq_true e, if_pos rfl] at hsuc
              have hz := hz (F ++ [y]) hsuc.symm (by rw [List.length_append, List.length_singleton]; omega)
              have hset2 : (List.map eX (F ++ l.drop F.length)).set F.length (eX y) = List.map eX ((F ++ [y]) ++ l.drop (F ++ [y]).length) := by rw [← hset, List.map_set]
              rw [eX] at hset2
              have et : (y.p = n) = True := by first | (simp only [eq_iff_iff, iff_true]; first | assumption | omega) | (simp; omega)
              simp (disch := omega) only [runR_next, runR_need, runR_call, stepS, runOp, toSR, sop, rOf, rNew, sAlloc, sAlloc0, sLoadIn, sLoad, sStoreIn, sStore, sIndexAddr, elemT, obind, ev, evs, svs, Env.get, Heap.get, Heap.set, takeN, cut, over, paste, aggOf, cellsS, one, ones, Value.oneCell', OutOK_need, OutOK_call, undefS, undef, halt, isAt, atC, execA_succ, List.size_toArray, List.length_cons, List.length_nil, List.range, List.range.loop, List.getElem?_toArray, List.getElem?_cons_succ, List.getElem?_cons_zero, List.map_cons, List.map_nil, ↓reduceIte, Nat.reduceAdd, Nat.reduceLT, Nat.reduceEqDiff, Nat.zero_add, Nat.add_one_ne_zero, Nat.reduceBEq, Int.toNat_natCast, true_and, and_self, forall_const, reduceCtorEq, Try.underlying25, Try.sz65, Try.ag65, Try.ze65, Try.ar65, eX, gj, hl2]
              (repeat (refine ⟨by first | omega | (refine ⟨?_, ?_⟩ <;> omega) | trivial | (simp; done) | decide +kernel, fun _ => ?_⟩))
              refine Does.inlc h1.hP h1.hgl Try.ok63 (nt := 8) (res := [.tmp 3]) Try.mixed Try.func63 rfl rfl rfl rfl fun κ_h3 x_h3 h3 => h3.run 300 ?_
              simp (disch := omega) only [exec_succ, runR_next, runR_stop, stepS, runOp, toSR, sop, rOf, rNew, sBox, isArr, sLoadIn, sLoad, sInt, sBin, sFieldAddr, ev, Env.get, Heap.get, takeN, cut, aggOf, cellsS, envOf, OutOK_stop, Bool.false_eq_true, List.size_toArray, List.length_cons, List.length_nil, List.range, List.range.loop, List.getElem?_toArray, List.getElem?_cons_succ, List.getElem?_cons_zero, List.cons_append, List.nil_append, ↓reduceIte, Nat.reduceAdd, Nat.reduceLT, Nat.reduceEqDiff, Nat.zero_add, Nat.add_one_ne_zero, Bool.not_true, decide_true, reduceCtorEq, gl0, Try.sz3, Try.ag3, Try.fd65f3, et]
              refine h3.ret _ _ _ _ _ _ trivial rfl ?_
              refine h1.run 300 ?_
              simp (disch := omega) only [exec_succ, runR_next, runR_need, runR_fork_true, runR_stop, stepS, runOp, condS, toSR, sop, rOf, sLoadIn, sLoad, sStoreIn, sStore, sInt, sBin, sUn, sIndexAddr, elemT, obind, ev, Env.get, Heap.get, Heap.set, takeN, cut, over, paste, aggOf, cellsS, one, ones, idFree, idFrees, setO, Value.oneCell', OutOK_need, OutOK_stop, undefS, undef, dropL, resV, Bool.and_true, List.size_toArray, List.length_cons, List.length_nil, List.length_append, List.range, List.range.loop, List.getElem?_toArray, List.getElem?_cons_succ, List.getElem?_cons_zero, ↓reduceIte, Nat.reduceAdd, Nat.reduceLT, Nat.reduceEqDiff, Nat.zero_add, Nat.add_one_ne_zero, Int.toNat_natCast, Bool.not_false, and_true, and_self, wrap_i64, gl0, Try.underlying25, Try.sz65, Try.ag65, eX, hl2, gz, hset2]
              (repeat (refine ⟨by first | omega | (refine ⟨?_, ?_⟩ <;> omega) | trivial | (simp; done) | decide +kernel, fun _ => ?_⟩))
              simp only [List.length_append, List.length_cons, List.length_nil, List.length_singleton, List.length_map, List.length_set, List.length_replicate, Nat.zero_add, Nat.add_zero, Int.natCast_add, Int.natCast_one, Int.ofNat_eq_natCast, List.map_append, List.map_cons, List.map_nil, List.take_length, eI, eB] at hz ⊢
              refine Sat.via (fun i => i) (hz) (by intro i j; (repeat (first | omega | split))) (by repeat' (first | exact EnvVia.nil | refine EnvVia.cons (by first | trivial | decide | (simp [SV.bnd, SV.bndL]; done)) rfl ?_)) (by repeat' (first | exact HeapVia.nil | refine HeapVia.cons (by decide) (by first | trivial | (simp [Blk.bnd, SV.bnd, SV.bndL]; done) | exact bndL_mapV _ _ _ | exact LR.bnd (by rw [l2]; simp [bndE, SV.bnd, SV.bndL]) (by rw [l6]; decide)) (by first | rfl | (simp only [Blk.ren, renL_mapV]; rfl) | (rw [LR.ren (by rw [l2] <;> rfl) (by rw [l6] <;> rfl)]; rfl)) ?_)) ⟨by have := h1.hm; (try dsimp only at this); (first | done | omega), fun i hi => by have := h1.hm; (try dsimp only at this); (first | omega | (dsimp only; omega) | (rw [if_neg (by omega)]))⟩ ⟨by simp, rfl⟩
            · rw [decide_eq_false e, if_neg (by decide), List.append_nil] at hsuc
              have hz := hz F hsuc.symm (by omega)
              simp (disch := omega) only [runR_next, runR_need, runR_call, stepS, runOp, toSR, sop, rOf, rNew, sAlloc, sAlloc0, sLoadIn, sLoad, sStoreIn, sStore, sIndexAddr, elemT, obind, ev, evs, svs, Env.get, Heap.get, Heap.set, takeN, cut, over, paste, aggOf, cellsS, one, ones, Value.oneCell', OutOK_need, OutOK_call, undefS, undef, halt, isAt, atC, execA_succ, List.size_toArray, List.length_cons, List.length_nil, List.range, List.range.loop, List.getElem?_toArray, List.getElem?_cons_succ, List.getElem?_cons_zero, List.map_cons, List.map_nil, ↓reduceIte, Nat.reduceAdd, Nat.reduceLT, Nat.reduceEqDiff, Nat.zero_add, Nat.add_one_ne_zero, Nat.reduceBEq, Int.toNat_natCast, true_and, and_self, forall_const, reduceCtorEq, Try.underlying25, Try.sz65, Try.ag65, Try.ze65, Try.ar65, eX, gj, hl2]
              (repeat (refine ⟨by first | omega | (refine ⟨?_, ?_⟩ <;> omega) | trivial | (simp; done) | decide +kernel, fun _ => ?_⟩))
              refine Does.inlc h1.hP h1.hgl Try.ok63 (nt := 8) (res := [.tmp 3]) Try.mixed Try.func63 rfl rfl rfl rfl fun κ_h3 x_h3 h3 => h3.run 300 ?_
              simp (disch := omega) only [exec_succ, runR_next, runR_stop, stepS, runOp, toSR, sop, rOf, rNew, sBox, isArr, sLoadIn, sLoad, sInt, sBin, sFieldAddr, ev, Env.get, Heap.get, takeN, cut, aggOf, cellsS, envOf, OutOK_stop, Bool.false_eq_true, List.size_toArray, List.length_cons, List.length_nil, List.range, List.range.loop, List.getElem?_toArray, List.getElem?_cons_succ, List.getElem?_cons_zero, List.cons_append, List.nil_append, ↓reduceIte, Nat.reduceAdd, Nat.reduceLT, Nat.reduceEqDiff, Nat.zero_add, Nat.add_one_ne_zero, Bool.not_false, decide_false, reduceCtorEq, gl0, Try.sz3, Try.ag3, Try.fd65f3, e]
              refine h3.ret _ _ _ _ _ _ trivial rfl ?_
              refine h1.run 300 ?_
              simp (disch := omega) only [exec_succ, runR_next, runR_fork_false, runR_stop, stepS, runOp, condS, toSR, sop, rOf, sInt, sBin, sUn, ev, Env.get, setO, OutOK_stop, dropL, resV, List.size_toArray, List.length_cons, List.length_nil, List.range, List.range.loop, List.getElem?_toArray, List.getElem?_cons_succ, List.getElem?_cons_zero, ↓reduceIte, Nat.reduceAdd, Nat.reduceLT, Nat.reduceEqDiff, Nat.zero_add, Bool.not_true, wrap_i64, gl0]
              (repeat (refine ⟨by first | omega | (refine ⟨?_, ?_⟩ <;> omega) | trivial | (simp; done) | decide +kernel, fun _ => ?_⟩))
              refine Sat.via (fun i => i) (hz) (by intro i j; (repeat (first | omega | split))) (by repeat' (first | exact EnvVia.nil | refine EnvVia.cons (by first | trivial | decide | (simp [SV.bnd, SV.bndL]; done)) rfl ?_)) (by repeat' (first | exact HeapVia.nil | refine HeapVia.cons (by decide) (by first | trivial | (simp [Blk.bnd, SV.bnd, SV.bndL]; done) | exact bndL_mapV _ _ _ | exact LR.bnd (by rw [l2]; simp [bndE, SV.bnd, SV.bndL]) (by rw [l6]; decide)) (by first | rfl | (simp only [Blk.ren, renL_mapV]; rfl) | (rw [LR.ren (by rw [l2] <;> rfl) (by rw [l6] <;> rfl)]; rfl)) ?_)) ⟨by have := h1.hm; (try dsimp only at this); (first | done | omega), fun i hi => by have := h1.hm; (try dsimp only at this); (first | omega | (dsimp only; omega) | (rw [if_neg (by omega)]))⟩ ⟨by simp, rfl⟩
          · simp (disch := omega) only [runR_next, stepS, goS, exitTo, OutOK_stop, halt, isAt, atC, execA_succ, ↓reduceIte, beq_self_eq_true]
            obtain rfl : j = l.length := by omega
            rw [List.take_length] at hF
            refine Sat.forget 2 F.length rfl (by omega) ?_
            rw [show List.take F.length (List.map eX (F ++ l.drop F.length)) = List.map eX F by rw [← List.map_take, List.take_left]]
            simp only [Heap.set, ↓reduceIte]
            refine h1.run 300 ?_
            simp (disch := omega) only [sBuiltin, exec_succ, runR_next, runR_need, runR_stop, stepS, runOp, toSR, sop, rOf, optI, sSlice, elemT, sliceT, obind, ev, Env.get, Heap.get, Heap.set, Value.oneCell', OutOK_need, OutOK_stop, undefS, undef, sClear, List.all_cons, List.all_nil, Bool.and_true, Bool.false_eq_true, List.size_toArray, List.length_cons, List.length_nil, List.length_map, List.range, List.range.loop, List.getElem?_toArray, List.getElem?_cons_succ, List.getElem?_cons_zero, Option.map_some, Option.map_none, Option.getD_some, Option.getD_none, Option.isSome_some, Option.isSome_none, ↓reduceIte, Nat.reduceAdd, Nat.reduceLT, Nat.reduceEqDiff, Nat.zero_add, Nat.add_zero, Nat.sub_zero, Nat.add_one_ne_zero, Int.reduceToNat, Int.reduceLE, Int.toNat_natCast, and_true, true_and, and_self, implies_true, imp_self, gl0, Try.underlying25, Try.sz65, Try.ze65]
            (repeat (refine ⟨by first | omega | (refine ⟨?_, ?_⟩ <;> omega) | trivial | (simp; done) | decide +kernel, fun _ => ?_⟩))
            refine h1.ret _ _ _ _ _ _ trivial rfl ?_
            refine hκ.run 300 ?_
            simp (disch := omega) only [exec_succ, runR_next, runR_stop, stepS, runOp, toSR, sop, rOf, ev, Env.get, setO, OutOK_stop, dropL, resV, List.getElem?_toArray, List.getElem?_cons_succ, List.getElem?_cons_zero, ↓reduceIte, Nat.reduceLT, gl0]
            refine hκ.ret _ _ _ _ _ _ trivial rfl ?_
            refine Post.frz [2] (by first | (simp [lendPL, lendP, lendSlP, dropL, Heap.get, Heap.drop, resV]; done) | (simp [lendPL, lendP, lendSlP, dropL, Heap.get, Heap.drop, resV]; omega) | (simp [lendPL, lendP, lendSlP, dropL, Heap.get, Heap.drop, resV, -List.length_eq_zero_iff]; omega)) ?_
            simp only [resV, lendL, lendS, lendSl, dropL, Heap.drop, Heap.get, List.mem_singleton, List.mem_cons, List.not_mem_nil, or_false, or_true, true_or, List.drop_zero, Nat.reduceEqDiff, Nat.one_ne_zero, Nat.zero_ne_one, ↓reduceIte]
            rw [show List.take F.length (List.map eX F) = List.map eX F from List.take_of_length_le (by simp), hF]
            exact .ret (by simp [SV.bnd, SV.bndL])
    · simp (disch := omega) only [exec_succ, runR_next, runR_stop, stepS, runOp, goS, toSR, sop, rOf, ev, exitTo, OutOK_stop, List.size_toArray, List.length_cons, List.length_nil, List.range, List.range.loop, List.getElem?_toArray, List.getElem?_cons_zero, ↓reduceIte, Nat.reduceLT, Nat.zero_add, Int.reduceNeg, beq_self_eq_true]
      obtain rfl : k = l.length := by omega
      have hpre := inP_pre hk hj
      rw [List.take_length] at hpre
      refine h2.ret _ _ _ _ _ _ trivial rfl ?_
      refine h1.run 300 ?_
      simp (disch := omega) only [exec_succ, runR_next, runR_fork_true, runR_stop, stepS, runOp, condS, toSR, sop, rOf, sInt, sBin, ev, Env.get, setO, OutOK_stop, dropL, resV, List.size_toArray, List.length_cons, List.length_nil, List.range, List.range.loop, List.getElem?_toArray, List.getElem?_cons_succ, List.getElem?_cons_zero, ↓reduceIte, Nat.reduceAdd, Nat.reduceLT, Nat.zero_add, Nat.add_one_ne_zero, Int.reduceNeg, decide_true, gl0]
      refine h1.ret _ _ _ _ _ _ trivial rfl ?_
      refine hκ.run 300 ?_
      simp (disch := omega) only [exec_succ, runR_next, runR_stop, stepS, runOp, toSR, sop, rOf, ev, Env.get, setO, OutOK_stop, dropL, resV, List.getElem?_toArray, List.getElem?_cons_succ, List.getElem?_cons_zero, ↓reduceIte, Nat.reduceLT, gl0]
      refine hκ.ret _ _ _ _ _ _ trivial rfl ?_
      refine Post.frz [2] (by first | (simp [lendPL, lendP, lendSlP, dropL, Heap.get, Heap.drop, resV]; done) | (simp [lendPL, lendP, lendSlP, dropL, Heap.get, Heap.drop, resV]; omega) | (simp [lendPL, lendP, lendSlP, dropL, Heap.get, Heap.drop, resV, -List.length_eq_zero_iff]; omega)) ?_
      simp only [resV, lendL, lendS, lendSl, dropL, Heap.drop, Heap.get, List.mem_singleton, List.mem_cons, List.not_mem_nil, or_false, or_true, true_or, List.drop_zero, Nat.reduceEqDiff, Nat.one_ne_zero, Nat.zero_ne_one, ↓reduceIte]
      rw [hpre, show List.take l.length (List.map eX l) = List.map eX l from List.take_of_length_le (by simp)]
      exact .ret (by simp [SV.bnd, SV.bndL])
end Go.Proofs.Ytbjhphjpdeblnaa

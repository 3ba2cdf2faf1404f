/- The walk of the law AuditSums. No condition. -/
import Derived.Test.YtbjhphjpdeblnaaLb
namespace Go.Proofs.Ytbjhphjpdeblnaa
open Go Go.Sy
set_option maxRecDepth 100000
set_option linter.unusedSimpArgs false
set_option linter.unusedVariables false

theorem ranK_split {ms : List Mo} {en now : Int} (h : WT ms en) (v : Int) (h0 : 0 ≤ now) (h1 : now ≤ 1125899906842624) : ∀ k, k ≤ ms.length → ranK ms en v 0 now k + ranK ms en v now 1125899906842624 k = ranK ms en v 0 1125899906842624 k
  | 0, _ => by simp [ranK]
  | k + 1, hk => by
    have ih := ranK_split h v h0 h1 k (by omega)
    have h2 := h.until (k := k) (by omega)
    have h4 := h.en1
    have e : cutI (aW ms k) (untilW ms en k) 0 now + cutI (aW ms k) (untilW ms en k) now 1125899906842624 = cutI (aW ms k) (untilW ms en k) 0 1125899906842624 := by
      unfold cutI; generalize aW ms k = a at *; generalize untilW ms en k = u at *
      split <;> split <;> split <;> omega
    simp only [ranK]
    split <;> omega
theorem pushW_nil (a u : Int) : pushW [] a u = [(a, u)] := rfl
theorem pushW_snoc (S : List Sty) (s : Sty) (a u : Int) : pushW (S ++ [s]) a u = if s.2 = a then S ++ [(s.1, u)] else (S ++ [s]) ++ [(a, u)] := by
  have e : lastT (S ++ [s]) = s := by
    rw [lastT, List.getD, List.length_append, List.length_singleton, Nat.add_sub_cancel, List.getElem?_append_right (Nat.le_refl _)]; simp
  have e2 : (S ++ [s]).length ≠ 0 := by simp
  simp only [pushW, e]
  by_cases h : s.2 = a
  · rw [if_pos h, if_pos ⟨e2, h⟩, List.length_append, List.length_singleton, Nat.add_sub_cancel, List.set_append_right _ _ (Nat.le_refl _)]; simp
  · rw [if_neg h, if_neg fun h2 => h h2.2]
theorem wait_run {l : List Se} {v : Int} (h : waitV l v = true) : runB l v = false := by
  unfold waitV at h
  unfold runB
  cases hx : findX l v with
  | none => rfl
  | some x =>
    rw [hx] at h
    simp only [Option.map_some, Option.getD_some, waitB, Bool.and_eq_true, decide_eq_true_eq] at h ⊢
    rw [decide_eq_false_iff_not]; omega
theorem WT.after {ms : List Mo} {en : Int} (h : WT ms en) {i j : Nat} (hij : i < j) (hj : j < ms.length) : untilW ms en i ≤ aW ms j := by
  rw [untilW, if_pos (by omega)]
  by_cases e : i + 1 = j
  · rw [e]; exact Int.le_refl _
  · exact Int.le_of_lt (h.mono (by omega) hj)
/-- What holds of waits. -/
structure WI (ms : List Mo) (en v : Int) (k : Nat) (S : List Sty) : Prop where
  lt : ∀ s ∈ S, 0 ≤ s.1 ∧ s.1 < s.2 ∧ s.2 ≤ 1125899906842624
  bd : ∀ s ∈ S, ∀ j, j < ms.length → k ≤ j → s.2 ≤ aW ms j
  ord : S.Pairwise fun s t => s.2 < t.1
  run : ∀ s ∈ S, ∀ j, j < ms.length → runB (ms.getD j default).2 v = true → untilW ms en j ≤ s.1 ∨ s.2 ≤ aW ms j
theorem WI.of {ms : List Mo} {en : Int} (h : WT ms en) (v : Int) : ∀ k, k ≤ ms.length → WI ms en v k (waitsK ms en v k)
  | 0, _ => ⟨fun s hs => (by cases hs), fun s hs => (by cases hs), .nil, fun s hs => (by cases hs)⟩
  | k + 1, hk => by
    have ih := WI.of h v k (by omega)
    have hu := h.until (k := k) (by omega)
    have hM := h.en1
    rw [waitsK]
    generalize waitsK ms en v k = S at ih ⊢
    split
    case isFalse => exact ⟨ih.lt, fun s hs j hj hkj => ih.bd s hs j hj (by omega), ih.ord, ih.run⟩
    rename_i e
    obtain ⟨e1, e2⟩ := e
    have hnr := wait_run e1
    have hb : ∀ j, j < ms.length → k + 1 ≤ j → untilW ms en k ≤ aW ms j := fun j hj hkj => h.after hkj hj
    have hnew : ∀ j, j < ms.length → runB (ms.getD j default).2 v = true → untilW ms en j ≤ aW ms k ∨ untilW ms en k ≤ aW ms j := fun j hj hr => by
      by_cases e3 : j < k
      · exact .inl (h.after e3 (by omega))
      · by_cases e4 : j = k
        · subst e4; rw [hnr] at hr; cases hr
        · exact .inr (hb j hj (by omega))
    rcases List.eq_nil_or_concat S with rfl | ⟨S', s, rfl⟩
    · rw [pushW_nil]
      refine ⟨fun s hs => ?_, fun s hs j hj hkj => ?_, by simp, fun s hs j hj hr => ?_⟩
      · obtain rfl := List.mem_singleton.1 hs; dsimp only; omega
      · obtain rfl := List.mem_singleton.1 hs; exact hb j hj hkj
      · obtain rfl := List.mem_singleton.1 hs; exact hnew j hj hr
    · rw [List.concat_eq_append] at ih ⊢
      rw [pushW_snoc]
      have hs1 := ih.lt s (by simp)
      have hs2 := ih.bd s (by simp) k (by omega) (Nat.le_refl _)
      have hord := List.pairwise_append.1 ih.ord
      split
      · rename_i es
        refine ⟨fun t ht => ?_, fun t ht j hj hkj => ?_, ?_, fun t ht j hj hr => ?_⟩
        · rcases List.mem_append.1 ht with ht | ht
          · exact ih.lt t (List.mem_append_left _ ht)
          · obtain rfl := List.mem_singleton.1 ht; dsimp only; omega
        · rcases List.mem_append.1 ht with ht | ht
          · exact ih.bd t (List.mem_append_left _ ht) j hj (by omega)
          · obtain rfl := List.mem_singleton.1 ht; exact hb j hj hkj
        · rw [List.pairwise_append]
          refine ⟨hord.1, by simp, fun a ha' b hb' => ?_⟩
          obtain rfl := List.mem_singleton.1 hb'
          exact hord.2.2 a ha' s (by simp)
        · rcases List.mem_append.1 ht with ht | ht
          · exact ih.run t (List.mem_append_left _ ht) j hj hr
          · obtain rfl := List.mem_singleton.1 ht
            dsimp only
            by_cases e3 : k ≤ j
            · by_cases e4 : j = k
              · subst e4; rw [hnr] at hr; cases hr
              · exact .inr (hb j hj (by omega))
            · have := h.mono (i := j) (j := k) (by omega) (by omega)
              rcases ih.run s (by simp) j hj hr with h5 | h5
              · exact .inl h5
              · omega
      · rename_i es
        refine ⟨fun t ht => ?_, fun t ht j hj hkj => ?_, ?_, fun t ht j hj hr => ?_⟩
        · rcases List.mem_append.1 ht with ht | ht
          · exact ih.lt t ht
          · obtain rfl := List.mem_singleton.1 ht; dsimp only; omega
        · rcases List.mem_append.1 ht with ht | ht
          · exact ih.bd t ht j hj (by omega)
          · obtain rfl := List.mem_singleton.1 ht; exact hb j hj hkj
        · rw [List.pairwise_append]
          refine ⟨ih.ord, by simp, fun a ha' b hb' => ?_⟩
          obtain rfl := List.mem_singleton.1 hb'
          dsimp only
          rcases List.mem_append.1 ha' with ha2 | ha2
          · have := hord.2.2 a ha2 s (by simp)
            omega
          · obtain rfl := List.mem_singleton.1 ha2
            omega
        · rcases List.mem_append.1 ht with ht | ht
          · exact ih.run t ht j hj hr
          · obtain rfl := List.mem_singleton.1 ht; exact hnew j hj hr
theorem ranK_zero {ms : List Mo} {en v f t : Int} (hs : f < t) : ∀ k, k ≤ ms.length → (∀ j, j < ms.length → runB (ms.getD j default).2 v = true → untilW ms en j ≤ f ∨ t ≤ aW ms j) → ranK ms en v f t k = 0
  | 0, _, _ => rfl
  | k + 1, hk, h => by
    rw [ranK, ranK_zero hs k (by omega) h]
    split
    · rename_i hr
      have := h k (by omega) hr
      unfold cutI
      split <;> omega
    · rfl
theorem sums_law (ms : List Mo) (en v now : Int) (hf0 : ∀ m ∈ ms, inM0 m) (he : i64 en) (hv : i64 v) (hw : i64 now) (hn : ms.length < 2 ^ 46) : Law Try.prog gl0 5 [Wt ms en, I v, I now] := by
  refine Law.of (nt := 121) (res := [.tmp 6]) Try.mixed Try.func5 rfl rfl rfl rfl fun κ xc hκ => hκ.run 300 ?_
  simp (disch := omega) only [exec_succ, runR_next, runR_call, stepS, runOp, toSR, sop, rOf, rNew, sBox, isArr, ev, evs, Env.get, cellsS, envOf, OutOK_call, Bool.false_eq_true, List.size_toArray, List.length_cons, List.length_nil, List.range, List.range.loop, List.getElem?_toArray, List.getElem?_cons_succ, List.getElem?_cons_zero, ↓reduceIte, Nat.reduceAdd, Nat.reduceLT, Nat.zero_add, gl0]
  refine Does.ret hκ.hP hκ.hgl (wakes_ok) ⟨trivial, by simp [SV.bnd, SV.bndL], by first | (simp [SV.bnd, SV.bndL]; done) | assumption⟩ ?_
  refine hκ.run 300 ?_
  simp (disch := omega) only [exec_succ, runR_next, runR_fork_false, runR_call, stepS, runOp, condS, toSR, sop, rOf, sLoadIn, sLoad, sUn, ev, evs, Env.get, Heap.get, takeN, cut, aggOf, setO, OutOK_call, List.size_toArray, List.length_cons, List.length_nil, List.range, List.range.loop, List.getElem?_toArray, List.getElem?_cons_succ, List.getElem?_cons_zero, ↓reduceIte, Nat.reduceAdd, Nat.reduceLT, Nat.reduceEqDiff, Nat.zero_add, Bool.not_true, gl0, Try.sz24, Try.ag24]
  refine Does.ret hκ.hP hκ.hgl (over_ok ms en hf0 hn) ⟨trivial, by simp [SV.bnd, SV.bndL], by first | (simp [SV.bnd, SV.bndL]; done) | assumption⟩ ?_
  cases ho : overT ms
  case true =>
    refine hκ.run 300 ?_
    simp (disch := omega) only [exec_succ, runR_next, runR_fork_true, runR_guard_tf, runR_stop, stepS, runOp, guardS, condS, toSR, sop, rOf, sPick, sLoadIn, sLoad, sEq, sEqR, sBin, ev, evs, Env.get, Heap.get, takeN, cut, aggOf, setO, OutOK_stop, undefS, undef, List.size_toArray, List.length_cons, List.length_nil, List.range, List.range.loop, List.getElem?_toArray, List.getElem?_cons_succ, List.getElem?_cons_zero, Option.bind_some, ↓reduceIte, Nat.reduceLT, Nat.reduceEqDiff, Nat.zero_add, Bool.not_false, and_self, gl0, Try.sz24, Try.ag24]
    refine hκ.ret _ _ _ _ _ _ trivial rfl ?_
    rfl
  obtain ⟨hn3, hs3⟩ := overT_no ho
  have hf := inM_of hf0 ho
  have c0 := wcheck_ok ms en hf he (by omega)
  refine hκ.run 300 ?_
  simp (disch := omega) only [exec_succ, runR_next, runR_guard_ff, runR_call, stepS, runOp, guardS, toSR, sop, rOf, sLoadIn, sLoad, ev, evs, Env.get, Heap.get, takeN, cut, aggOf, setO, OutOK_call, undefS, undef, List.getElem?_toArray, List.getElem?_cons_succ, List.getElem?_cons_zero, Option.bind_some, ↓reduceIte, Nat.reduceLT, Nat.reduceEqDiff, Bool.not_false, and_self, gl0, Try.sz24, Try.ag24]
  by_cases hr : rightW ms en = true
  case neg =>
    rw [if_neg hr] at c0
    refine Does.ret hκ.hP hκ.hgl (c0) ⟨trivial, by simp [SV.bnd, SV.bndL], by first | (simp [SV.bnd, SV.bndL]; done) | assumption⟩ ?_
    refine hκ.run 300 ?_
    simp (disch := omega) only [exec_succ, runR_next, runR_fork_true, runR_guard_ff, runR_stop, stepS, runOp, guardS, condS, toSR, sop, rOf, sPick, sInt, sBin, ev, Env.get, setO, OutOK_stop, undefS, undef, List.size_toArray, List.length_cons, List.length_nil, List.range, List.range.loop, List.getElem?_toArray, List.getElem?_cons_succ, List.getElem?_cons_zero, Option.bind_some, ↓reduceIte, Nat.reduceLT, Nat.reduceEqDiff, Nat.zero_add, Int.reduceEq, Bool.not_false, decide_false, and_self, gl0]
    refine hκ.ret _ _ _ _ _ _ trivial rfl ?_
    rfl
  rw [if_pos hr] at c0
  have hwt := (WT.iff ms en).1 hr
  refine Does.ret hκ.hP hκ.hgl (c0) ⟨trivial, by simp [SV.bnd, SV.bndL], by first | (simp [SV.bnd, SV.bndL]; done) | assumption⟩ ?_
  obtain ⟨N, hN⟩ : ∃ N, max (min now 1125899906842624) 0 = N := ⟨_, rfl⟩
  have hN0 : 0 ≤ N ∧ N ≤ 1125899906842624 := by omega
  have rE : ∀ f t, 0 ≤ f → t ≤ 1125899906842624 → f ≤ t → ranE ms en f t = 0 := fun f t h1 h2 h3 => by rw [ranE, if_pos hr, if_pos ⟨h1, h2, h3⟩]
  have c1 := ran_ok ms en v 0 1125899906842624 hf he hv (by decide) (by decide) (by omega)
  have c2 := ran_ok ms en v 0 N hf he hv (by decide) (by omega) (by omega)
  have c3 := ran_ok ms en v N 1125899906842624 hf he hv (by omega) (by decide) (by omega)
  have c4 := twaits_ok ms en v hf he hv (by omega)
  rw [rE 0 1125899906842624 (by decide) (by decide) (by decide), if_pos rfl] at c1
  rw [rE 0 N (by decide) hN0.2 hN0.1, if_pos rfl] at c2
  rw [rE N 1125899906842624 hN0.1 (by decide) hN0.2, if_pos rfl] at c3
  rw [waitsT, waitsE, if_pos hr, if_pos hr] at c4
  have hsp := ranK_split hwt v hN0.1 hN0.2 ms.length (Nat.le_refl _)
  have hb1 := ranK_bd hwt v 0 1125899906842624 ms.length (Nat.le_refl _)
  have hb2 := ranK_bd hwt v 0 N ms.length (Nat.le_refl _)
  have hb3 := ranK_bd hwt v N 1125899906842624 ms.length (Nat.le_refl _)
  have hWI := WI.of hwt v ms.length (Nat.le_refl _)
  have hSl := waitsK_len ms en v ms.length
  generalize waitsK ms en v ms.length = S at c4 hWI hSl
  generalize ranK ms en v 0 1125899906842624 ms.length = L0 at c1 hsp hb1
  generalize ranK ms en v 0 N ms.length = L1 at c2 hsp hb2
  generalize ranK ms en v N 1125899906842624 ms.length = L2 at c3 hsp hb3
  refine hκ.run 300 ?_
  simp (disch := omega) only [sBuiltin, sMinMax, exec_succ, runR_next, runR_fork_false, runR_guard_ff, runR_call, stepS, runOp, guardS, condS, toSR, sop, rOf, sPick, sLoadIn, sLoad, sInt, sBin, ev, evs, Env.get, Heap.get, takeN, cut, aggOf, setO, OutOK_call, undefS, undef, Bool.false_eq_true, List.size_toArray, List.length_cons, List.length_nil, List.range, List.range.loop, List.getElem?_toArray, List.getElem?_cons_succ, List.getElem?_cons_zero, List.map_cons, List.map_nil, Option.bind_some, ↓reduceIte, Nat.reduceAdd, Nat.reduceLT, Nat.reduceEqDiff, Nat.zero_add, Bool.not_true, Bool.not_false, decide_true, and_self, reduceCtorEq, gl0, Try.sz24, Try.ag24]
  rw [hN]
  refine Does.ret hκ.hP hκ.hgl (c1) ⟨trivial, by simp [SV.bnd, SV.bndL], by first | (simp [SV.bnd, SV.bndL]; done) | assumption⟩ ?_
  refine hκ.run 300 ?_
  simp (disch := omega) only [exec_succ, runR_next, runR_call, stepS, runOp, toSR, sop, rOf, sLoadIn, sLoad, sExtract, ev, evs, Env.get, Heap.get, takeN, cut, aggOf, setO, OutOK_call, List.size_toArray, List.length_cons, List.length_nil, List.range, List.range.loop, List.getElem?_toArray, List.getElem?_cons_succ, List.getElem?_cons_zero, ↓reduceIte, Nat.reduceAdd, Nat.reduceLT, Nat.reduceEqDiff, Nat.zero_add, reduceCtorEq, gl0, Try.sz24, Try.ag24]
  refine Does.ret hκ.hP hκ.hgl (c2) ⟨trivial, by simp [SV.bnd, SV.bndL], by first | (simp [SV.bnd, SV.bndL]; done) | assumption⟩ ?_
  refine hκ.run 300 ?_
  simp (disch := omega) only [exec_succ, runR_next, runR_call, stepS, runOp, toSR, sop, rOf, sLoadIn, sLoad, sExtract, ev, evs, Env.get, Heap.get, takeN, cut, aggOf, setO, OutOK_call, List.size_toArray, List.length_cons, List.length_nil, List.range, List.range.loop, List.getElem?_toArray, List.getElem?_cons_succ, List.getElem?_cons_zero, ↓reduceIte, Nat.reduceAdd, Nat.reduceLT, Nat.reduceEqDiff, Nat.zero_add, reduceCtorEq, gl0, Try.sz24, Try.ag24]
  refine Does.ret hκ.hP hκ.hgl (c3) ⟨trivial, by simp [SV.bnd, SV.bndL], by first | (simp [SV.bnd, SV.bndL]; done) | assumption⟩ ?_
  refine hκ.run 300 ?_
  simp (disch := omega) only [exec_succ, runR_next, runR_fork_false, runR_guard_ff, runR_call, stepS, runOp, guardS, condS, toSR, sop, rOf, sPick, sLoadIn, sLoad, sInt, sBin, sExtract, ev, evs, Env.get, Heap.get, takeN, cut, aggOf, setO, OutOK_call, undefS, undef, List.size_toArray, List.length_cons, List.length_nil, List.range, List.range.loop, List.getElem?_toArray, List.getElem?_cons_succ, List.getElem?_cons_zero, Option.bind_some, ↓reduceIte, Nat.reduceAdd, Nat.reduceLT, Nat.reduceEqDiff, Nat.zero_add, Bool.not_true, Bool.not_false, decide_true, and_self, reduceCtorEq, wrap_i64, gl0, Try.sz24, Try.ag24, hsp]
  refine Does.ret hκ.hP hκ.hgl (c4) ⟨trivial, by simp [SV.bnd, SV.bndL], by first | (simp [SV.bnd, SV.bndL]; done) | assumption⟩ ?_
  refine hκ.run 300 ?_
  simp (disch := omega) only [sBuiltin, exec_succ, runR_next, runR_fork_false, runR_stop, stepS, runOp, condS, toSR, sop, rOf, sInt, sBin, sExtract, sLen, ev, Env.get, setO, OutOK_stop, List.size_toArray, List.length_cons, List.length_nil, List.length_map, List.range, List.range.loop, List.getElem?_toArray, List.getElem?_cons_succ, List.getElem?_cons_zero, ↓reduceIte, Nat.reduceAdd, Nat.reduceLT, Nat.reduceEqDiff, Nat.zero_add, Bool.not_true, decide_true, gl0, Try.underlying41]
  refine Sat.less (Sat.loop (γ := Nat) (fun k => ([(77, I k), (76, I S.length), (75, .rd 2 (S.map eT)), (13, .rd 2 (S.map eT)), (3, .ptr 0 0 0 0), (1, I v)], [(0, .own [Ms ms, I en] 24)], 1)) (fun k => S.length - k) (fun k => k ≤ S.length) ?round 0 (Nat.zero_le _)) (by repeat' (first | exact EnvSub.nil _ | exact HeapSub.nil _ | refine EnvSub.cons rfl ?_ | refine HeapSub.cons rfl ?_ | (refine EnvSub.cons (by simp [Env.get]; done) ?_) | (refine HeapSub.cons (by simp [Heap.get]; done) ?_))) (by repeat' (first | exact EnvSub.nil _ | exact HeapSub.nil _ | refine EnvSub.cons rfl ?_ | refine HeapSub.cons rfl ?_ | (refine EnvSub.cons (by simp [Env.get]; done) ?_) | (refine HeapSub.cons (by simp [Heap.get]; done) ?_)))
  case round =>
    intro k hk ih
    dsimp only at ih ⊢
    refine hκ.runD 300 ?_
    simp (disch := omega) only [runR_next, stepS, runOp, condS, toSR, sop, sInt, sBin, ev, Env.get, halt, isDraw, drawC, execD_succ, List.size_toArray, List.length_cons, List.length_nil, List.range, List.range.loop, List.getElem?_toArray, List.getElem?_cons_zero, ↓reduceIte, Nat.reduceLT, Nat.reduceEqDiff, Nat.zero_add, gl0]
    refine OutOK_fork (fun h => ?_) (fun h => ?_) <;> try simp only [Bool.not_true, Bool.not_false, decide_eq_true_eq, decide_eq_false_iff_not, Bool.not_eq_true', Bool.not_eq_false', Bool.and_eq_true, Bool.or_eq_false_iff, Bool.or_eq_true, Bool.and_eq_false_iff] at h
    · have hz := ih (k + 1) (by omega) (by omega)
      have hsm := getD_mem (show k < S.length by omega)
      obtain ⟨s1, s2, s3⟩ := hWI.lt _ hsm
      have c5 := ran_ok ms en v (S.getD k default).1 (S.getD k default).2 hf he hv (by omega) (by omega) (by omega)
      rw [rE _ _ s1 s3 (by omega), if_pos rfl, ranK_zero s2 _ (Nat.le_refl _) (hWI.run _ hsm)] at c5
      have gk : (List.map eT S).getD k [] = eT (S.getD k default) := getD_map _ _ _ (by omega)
      have f1 : ((S.getD k default).2 ≤ (S.getD k default).1) = False := by first | (simp only [eq_iff_iff, iff_false]; first | assumption | omega) | (simp; omega)
      simp (disch := omega) only [runR_next, runR_need, runR_call, stepS, runOp, toSR, sop, rOf, rNew, sAlloc, sAlloc0, sLoadIn, sLoad, sStoreIn, sStore, sFieldAddr, sIndexAddr, elemT, obind, ev, evs, svs, Env.get, Heap.get, Heap.set, takeN, cut, over, paste, aggOf, cellsS, one, ones, Value.oneCell', OutOK_need, OutOK_call, undefS, undef, halt, isDraw, drawC, execD_succ, List.size_toArray, List.length_cons, List.length_nil, List.length_map, List.range, List.range.loop, List.getElem?_toArray, List.getElem?_cons_succ, List.getElem?_cons_zero, List.map_cons, List.map_nil, ↓reduceIte, Nat.reduceAdd, Nat.reduceLT, Nat.reduceEqDiff, Nat.zero_add, Nat.add_zero, Nat.add_one_ne_zero, Int.toNat_natCast, true_and, and_self, forall_const, Try.sz2, Try.ag2, Try.sz24, Try.ag24, Try.underlying41, Try.sz46, Try.ag46, Try.ze46, Try.ar46, Try.fd46f0, Try.fd46f1, eT, gk]
      (repeat (refine ⟨by first | omega | (refine ⟨?_, ?_⟩ <;> omega) | trivial | (simp; done) | decide +kernel, fun _ => ?_⟩))
      refine Does.ret hκ.hP hκ.hgl (c5) ⟨trivial, by simp [SV.bnd, SV.bndL], by first | (simp [SV.bnd, SV.bndL]; done) | assumption⟩ ?_
      refine hκ.runD 300 ?_
      simp (disch := omega) only [runR_next, stepS, runOp, toSR, sop, rOf, sExtract, ev, Env.get, setO, OutOK_stop, halt, isDraw, drawC, execD_succ, List.getElem?_toArray, List.getElem?_cons_succ, List.getElem?_cons_zero, ↓reduceIte, Nat.reduceLT, Nat.reduceEqDiff, gl0]
      by_cases h0 : k = 0
      · have g0 : ((0 : Int) < (k : Int)) = False := by first | (simp only [eq_iff_iff, iff_false]; first | assumption | omega) | (simp; omega)
        refine hκ.draw (.q 0 (.q 1 (.q 2 (.q 3 (.q 4 (.q 5 (.q 6 (.q 7 (.q 8 (.q 9 (.q 10 (.q 11 (.q 12 (.q 13 (.q 14 (.q 15 (.q 16 (.q 17 (.q 18 (.q 19 (.q 20 (.q 21 (.q 22 (.q 23 (.q 24 (.q 25 (.q 26 (.q 27 (.fin))))))))))))))))))))))))))))) [0, 1, 2, 3, 4, 5, 6, 7, 8, 9, 10, 11, 12, 13, 14, 15, 16, 17, 18, 19, 20, 21, 22, 23, 24, 25, 26, 27] (by kernel_rfl) (by kernel_rfl) rfl ?_
        simp (disch := omega) only [sop, rOf, sPick, sLoadIn, sLoad, sInt, sBin, sFieldAddr, ev, Env.get, Heap.get, takeN, cut, aggOf, setO, drawP_fin, drawP_q, dq, dqn, GF.ff, GF.ft, guardP, R1Q, dstOK, undefS, undef, List.getElem?_toArray, List.getElem?_cons_succ, List.getElem?_cons_zero, Option.bind_some, ↓reduceIte, Nat.reduceLT, Nat.reduceEqDiff, Nat.zero_add, Nat.add_zero, Nat.add_one_ne_zero, Bool.not_true, decide_true, decide_false, true_and, gl0, Try.sz2, Try.ag2, Try.fd46f0, Try.fd46f1, g0, f1]
        refine hκ.run 300 ?_
        simp (disch := omega) only [exec_succ, runR_next, runR_fork_false, runR_stop, stepS, runOp, condS, toSR, sop, rOf, sInt, sBin, ev, Env.get, OutOK_stop, List.size_toArray, List.length_cons, List.length_nil, List.range, List.range.loop, List.getElem?_toArray, List.getElem?_cons_succ, List.getElem?_cons_zero, ↓reduceIte, Nat.reduceAdd, Nat.reduceLT, Nat.reduceEqDiff, Nat.zero_add, wrap_i64, gl0]
        refine Sat.via (fun i => i) (hz) (by intro i j; (repeat (first | omega | split))) (by repeat' (first | exact EnvVia.nil | refine EnvVia.cons (by first | trivial | decide | (simp [SV.bnd, SV.bndL]; done)) rfl ?_)) (by repeat' (first | exact HeapVia.nil | refine HeapVia.cons (by decide) (by first | trivial | (simp [Blk.bnd, SV.bnd, SV.bndL]; done) | exact bndL_mapV _ _ _ | exact LR.bnd (by rw [l2]; simp [bndE, SV.bnd, SV.bndL]) (by rw [l6]; decide)) (by first | rfl | (simp only [Blk.ren, renL_mapV]; rfl) | (rw [LR.ren (by rw [l2] <;> rfl) (by rw [l6] <;> rfl)]; rfl)) ?_)) ⟨by have := hκ.hm; (try dsimp only at this); (first | done | omega), fun i hi => by have := hκ.hm; (try dsimp only at this); (first | omega | (dsimp only; omega) | (rw [if_neg (by omega)]))⟩ ⟨by simp, rfl⟩
      · have g0 : ((0 : Int) < (k : Int)) = True := by first | (simp only [eq_iff_iff, iff_true]; first | assumption | omega) | (simp; omega)
        have hk1 : (k : Int) - 1 = ((k - 1 : Nat) : Int) := by omega
        have hord := List.pairwise_iff_getElem.1 hWI.ord (k - 1) k (by omega) (by omega) (by omega)
        rw [← getD_get, ← getD_get] at hord
        have gk2 : (List.map eT S).getD (k - 1) [] = eT (S.getD (k - 1) default) := getD_map _ _ _ (by omega)
        have g1 : ((S.getD k default).1 ≤ (S.getD (k - 1) default).2) = False := by first | (simp only [eq_iff_iff, iff_false]; first | assumption | omega) | (simp; omega)
        refine hκ.draw (.q 0 (.q 1 (.q 2 (.q 3 (.q 4 (.q 5 (.q 6 (.q 7 (.q 8 (.q 9 (.q 10 (.q 11 (.q 12 (.q 13 (.q 14 (.q 15 (.q 16 (.q 17 (.q 18 (.q 19 (.q 20 (.q 21 (.q 22 (.q 23 (.q 24 (.q 25 (.q 26 (.q 27 (.fin))))))))))))))))))))))))))))) [0, 1, 2, 3, 4, 5, 6, 7, 8, 9, 10, 11, 12, 13, 14, 15, 16, 17, 18, 19, 20, 21, 22, 23, 24, 25, 26, 27] (by kernel_rfl) (by kernel_rfl) rfl ?_
        simp (disch := omega) only [sop, rOf, sPick, sLoadIn, sLoad, sInt, sBin, sFieldAddr, sIndexAddr, elemT, obind, ev, Env.get, Heap.get, takeN, cut, aggOf, setO, drawP_fin, drawP_q, dq, dqn, GF.tt, GF.ff, guardP, R1Q, dstOK, List.length_map, List.getElem?_toArray, List.getElem?_cons_succ, List.getElem?_cons_zero, Option.bind_some, ↓reduceIte, Nat.reduceLT, Nat.reduceEqDiff, Nat.zero_add, Nat.add_zero, Nat.add_one_ne_zero, Int.toNat_natCast, Bool.not_true, decide_true, decide_false, true_and, wrap_i64, gl0, Try.sz2, Try.ag2, Try.underlying41, Try.sz46, Try.fd46f0, Try.fd46f1, g0, hk1, gk2, g1, eT, f1]
        (repeat (refine ⟨by first | omega | (refine ⟨?_, ?_⟩ <;> omega) | trivial | (simp; done) | decide +kernel, fun _ => ?_⟩))
        refine hκ.run 300 ?_
        simp (disch := omega) only [exec_succ, runR_next, runR_fork_false, runR_stop, stepS, runOp, condS, toSR, sop, rOf, sInt, sBin, ev, Env.get, OutOK_stop, List.size_toArray, List.length_cons, List.length_nil, List.range, List.range.loop, List.getElem?_toArray, List.getElem?_cons_succ, List.getElem?_cons_zero, ↓reduceIte, Nat.reduceAdd, Nat.reduceLT, Nat.reduceEqDiff, Nat.zero_add, wrap_i64, gl0]
        refine Sat.via (fun i => i) (hz) (by intro i j; (repeat (first | omega | split))) (by repeat' (first | exact EnvVia.nil | refine EnvVia.cons (by first | trivial | decide | (simp [SV.bnd, SV.bndL]; done)) rfl ?_)) (by repeat' (first | exact HeapVia.nil | refine HeapVia.cons (by decide) (by first | trivial | (simp [Blk.bnd, SV.bnd, SV.bndL]; done) | exact bndL_mapV _ _ _ | exact LR.bnd (by rw [l2]; simp [bndE, SV.bnd, SV.bndL]) (by rw [l6]; decide)) (by first | rfl | (simp only [Blk.ren, renL_mapV]; rfl) | (rw [LR.ren (by rw [l2] <;> rfl) (by rw [l6] <;> rfl)]; rfl)) ?_)) ⟨by have := hκ.hm; (try dsimp only at this); (first | done | omega), fun i hi => by have := hκ.hm; (try dsimp only at this); (first | omega | (dsimp only; omega) | (rw [if_neg (by omega)]))⟩ ⟨by simp, rfl⟩
    · simp (disch := omega) only [runR_next, runR_stop, stepS, runOp, goS, toSR, sop, rOf, ev, exitTo, OutOK_stop, halt, isDraw, drawC, execD_succ, List.size_toArray, List.length_cons, List.length_nil, List.range, List.range.loop, List.getElem?_toArray, List.getElem?_cons_zero, ↓reduceIte, Nat.reduceLT, Nat.zero_add, beq_self_eq_true]
      refine hκ.ret _ _ _ _ _ _ trivial rfl ?_
      rfl
end Go.Proofs.Ytbjhphjpdeblnaa

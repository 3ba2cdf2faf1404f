/- Walks of the document's Split, Join, Move. No condition. -/
import Derived.Test.YtfhiaddbpacgeaaRu
import Derived.Test.YtfhiaddbpacgeaaOj
import Derived.Test.YtfhiaddbpacgeaaRt
namespace Go.Proofs.Ytfhiaddbpacgeaa
open Go Go.Sy
set_option maxRecDepth 100000
set_option linter.unusedSimpArgs false
set_option linter.unusedVariables false

theorem sub_all {a b : Nat} (ha : a < 256) : dif a b = 0 ↔ ∀ c ∈ bits a, hasB b c = true := by
  rw [dif_zero]
  constructor
  · intro h c hc
    have := mem_bits.1 hc
    simp only [hasB, Bool.and_eq_true] at this ⊢
    exact ⟨this.1, h _ this.2⟩
  · intro h i hi
    by_cases hi8 : i < 8
    · have := h (i : Int) (mem_bits.2 (by rw [hasB_nat hi8]; exact hi))
      rwa [hasB_nat hi8] at this
    · rw [bit_hi ha (by omega)] at hi
      cases hi
theorem rwithin_ok (s t : Nat) (hs : s < 256) : Con Try.prog gl0 (fnv 52) [S s, S t] 0 [] (Ret (Bo (decide (dif s t = 0)))) := by
  have hbl := bits_len s
  have hsa := sub_all (b := t) hs
  refine Con.of Try.ok52 (nt := 19) (res := [.tmp 4]) Try.mixed Try.func52 rfl rfl rfl rfl fun κ xc hκ => hκ.run 300 ?_
  simp (disch := omega) only [exec_succ, runR_next, runR_call, stepS, runOp, toSR, sop, rOf, ev, evs, Env.get, envOf, OutOK_call, List.size_toArray, List.length_cons, List.length_nil, List.range, List.range.loop, List.getElem?_toArray, List.getElem?_cons_succ, List.getElem?_cons_zero, ↓reduceIte, Nat.reduceAdd, Nat.reduceLT, Nat.zero_add, Nat.add_one_ne_zero, gl0]
  refine Does.ret hκ.hP hκ.hgl ((rlist_ok s).toRd) ⟨trivial, by simp [SV.bnd, SV.bndL], by first | (simp [SV.bnd, SV.bndL]; done) | assumption⟩ ?_
  refine hκ.run 300 ?_
  simp (disch := omega) only [sBuiltin, exec_succ, runR_next, runR_stop, stepS, runOp, toSR, sop, rOf, sLen, ev, Env.get, setO, OutOK_stop, List.length_map, List.getElem?_toArray, List.getElem?_cons_succ, List.getElem?_cons_zero, ↓reduceIte, Nat.reduceLT, gl0, Try.underlying22]
  generalize bits s = cs at hbl hsa
  refine Sat.less (Sat.loop (γ := Nat) (fun k => ([(10, I k), (9, I cs.length), (8, Is cs), (1, S t)], [], 0)) (fun k => cs.length - k) (fun k => k ≤ cs.length ∧ ∀ c ∈ cs.take k, hasB t c = true) ?round 0 ⟨Nat.zero_le _, by simp⟩) (by repeat' (first | exact EnvSub.nil _ | exact HeapSub.nil _ | refine EnvSub.cons rfl ?_ | refine HeapSub.cons rfl ?_ | (refine EnvSub.cons (by simp [Env.get]; done) ?_) | (refine HeapSub.cons (by simp [Heap.get]; done) ?_))) (by repeat' (first | exact EnvSub.nil _ | exact HeapSub.nil _ | refine EnvSub.cons rfl ?_ | refine HeapSub.cons rfl ?_ | (refine EnvSub.cons (by simp [Env.get]; done) ?_) | (refine HeapSub.cons (by simp [Heap.get]; done) ?_)))
  case round =>
    rintro k ⟨hk, hall⟩ ih
    dsimp only at hk hall ih ⊢
    by_cases hkl : k < cs.length
    · have e0 : ((k : Int) < cs.length) = True := by simp only [eq_iff_iff, iff_true]; omega
      refine hκ.run 300 ?_
      simp (disch := omega) only [exec_succ, runR_next, runR_need, runR_fork_true, runR_call, stepS, runOp, condS, toSR, sop, rOf, sLoad, sInt, sBin, sIndexAddr, elemT, obind, ev, evs, Env.get, takeN, cut, aggOf, OutOK_need, OutOK_call, List.size_toArray, List.length_cons, List.length_nil, List.length_map, List.range, List.range.loop, List.getElem?_toArray, List.getElem?_cons_succ, List.getElem?_cons_zero, ↓reduceIte, Nat.reduceAdd, Nat.reduceLT, Nat.reduceEqDiff, Nat.zero_add, Int.toNat_natCast, decide_true, and_true, getD_map, eI, gl0, Try.sz3, Try.ag3, Try.underlying22, e0]
      (repeat (refine ⟨by first | omega | (refine ⟨?_, ?_⟩ <;> omega) | trivial | (simp; done) | decide +kernel, fun _ => ?_⟩))
      refine Does.ret hκ.hP hκ.hgl (rhas_ok t (cs.getD k default)) ⟨trivial, by simp [SV.bnd, SV.bndL], by first | (simp [SV.bnd, SV.bndL]; done) | assumption⟩ ?_
      cases hb : hasB t (cs.getD k default)
      · refine hκ.run 300 ?_
        simp (disch := omega) only [exec_succ, runR_next, runR_fork_true, runR_stop, stepS, runOp, condS, toSR, sop, rOf, sUn, ev, Env.get, setO, OutOK_stop, List.size_toArray, List.length_cons, List.length_nil, List.range, List.range.loop, List.getElem?_toArray, List.getElem?_cons_succ, List.getElem?_cons_zero, ↓reduceIte, Nat.reduceLT, Nat.zero_add, Bool.not_false, gl0]
        refine hκ.ret _ _ _ _ _ _ trivial rfl ?_
        rw [decide_eq_false (fun h => by have := hsa.1 h _ (getD_mem hkl); rw [hb] at this; cases this)]
        exact .ret trivial
      · refine hκ.run 300 ?_
        simp (disch := omega) only [exec_succ, runR_next, runR_fork_false, runR_stop, stepS, runOp, condS, toSR, sop, rOf, sInt, sBin, sUn, ev, Env.get, setO, OutOK_stop, List.size_toArray, List.length_cons, List.length_nil, List.range, List.range.loop, List.getElem?_toArray, List.getElem?_cons_succ, List.getElem?_cons_zero, ↓reduceIte, Nat.reduceAdd, Nat.reduceLT, Nat.reduceEqDiff, Nat.zero_add, Bool.not_true, wrap_i64, gl0]
        refine (ih (k + 1) ⟨by omega, fun c hc => ?_⟩ (by omega)).less (by repeat' (first | exact EnvSub.nil _ | exact HeapSub.nil _ | refine EnvSub.cons rfl ?_ | refine HeapSub.cons rfl ?_ | (refine EnvSub.cons (by simp [Env.get]; done) ?_) | (refine HeapSub.cons (by simp [Heap.get]; done) ?_))) (by repeat' (first | exact EnvSub.nil _ | exact HeapSub.nil _ | refine EnvSub.cons rfl ?_ | refine HeapSub.cons rfl ?_ | (refine EnvSub.cons (by simp [Env.get]; done) ?_) | (refine HeapSub.cons (by simp [Heap.get]; done) ?_)))
        rw [take_getD hkl, List.mem_append, List.mem_singleton] at hc
        rcases hc with hc | rfl
        · exact hall c hc
        · exact hb
    · have e0 : ((k : Int) < cs.length) = False := by simp only [eq_iff_iff, iff_false]; omega
      refine hκ.run 300 ?_
      simp (disch := omega) only [exec_succ, runR_next, runR_fork_false, runR_stop, stepS, runOp, condS, goS, toSR, sop, rOf, sInt, sBin, ev, Env.get, exitTo, OutOK_stop, List.size_toArray, List.length_cons, List.length_nil, List.range, List.range.loop, List.getElem?_toArray, List.getElem?_cons_zero, ↓reduceIte, Nat.reduceLT, Nat.reduceEqDiff, Nat.zero_add, decide_false, beq_self_eq_true, gl0, e0]
      refine hκ.ret _ _ _ _ _ _ trivial rfl ?_
      rw [decide_eq_true (hsa.2 fun c hc => hall c (by rw [List.take_of_length_le (by omega)]; exact hc))]
      exact .ret trivial
theorem okP_small' {xs : List Nat} (h : okP xs = true) : u32s xs ∧ (1 ≤ xs.length ∧ xs.length ≤ 4) ∧ ∀ s ∈ xs, s ≠ 0 ∧ s < 256 := by
  obtain ⟨l1, l2, -⟩ := (okP_iff xs).1 h
  exact ⟨fun s hs => by have := (l2 s hs).2; omega, l1, l2⟩
theorem rsplit_ok (xs : List Nat) (f : Int) (s : Nat) (hk : okP xs = true) (hs : s < 4294967296) : Con Try.prog gl0 (fnv 33) [Po xs, I f, S s] 0 []
    (Ret (if splitE xs f s = 0 then .tup [Po (splitX xs f s), I xs.length, I 0] else .tup [noP, I 0, I (splitE xs f s)])) := by
  obtain ⟨hx, hl, h2⟩ := okP_small' hk
  refine Con.of Try.ok33 (nt := 70) (res := [.cell 6 26, .tmp 7, .tmp 8]) Try.mixed Try.func33 rfl rfl rfl rfl fun κ xc hκ => hκ.run 300 ?_
  simp (disch := omega) only [exec_succ, runR_next, runR_call, stepS, runOp, toSR, sop, rOf, rNew, sAlloc, sAlloc0, sBox, isArr, sLoadIn, sLoad, ev, evs, svs, Env.get, Heap.get, takeN, cut, aggOf, cellsS, envOf, OutOK_call, Bool.false_eq_true, List.size_toArray, List.length_cons, List.length_nil, List.range, List.range.loop, List.getElem?_toArray, List.getElem?_cons_succ, List.getElem?_cons_zero, List.map_cons, List.map_nil, ↓reduceIte, Nat.reduceAdd, Nat.reduceLT, Nat.reduceEqDiff, Nat.zero_add, Nat.add_one_ne_zero, reduceCtorEq, gl0, Try.sz26, Try.ag26, Try.ze26, Try.ar26]
  refine Does.ret hκ.hP hκ.hgl (rpool_ok xs f) ⟨trivial, by simp [SV.bnd, SV.bndL], by first | (simp [SV.bnd, SV.bndL]; done) | assumption⟩ ?_
  cases hr : inR xs f
  · have he : splitE xs f s = 4 := by simp [splitE, hk, hr]
    refine hκ.run 300 ?_
    simp (disch := omega) only [exec_succ, runR_next, runR_need, runR_fork_true, runR_stop, stepS, runOp, condS, toSR, sop, rOf, sStoreIn, sStore, sUn, fillS, evps, sBuild, ev, svs, Env.get, Heap.get, Heap.set, over, paste, cellsS, one, ones, setO, Value.oneCell', OutOK_need, OutOK_stop, undefS, undef, List.size_toArray, List.length_cons, List.length_nil, List.range, List.range.loop, List.getElem?_toArray, List.getElem?_cons_succ, List.getElem?_cons_zero, List.map_cons, List.map_nil, ↓reduceIte, Nat.reduceAdd, Nat.reduceLT, Nat.reduceEqDiff, Nat.zero_add, Bool.not_false, true_and, and_self, forall_const, gl0, Try.sz26, Try.ze26, Try.pl26]
    refine hκ.ret _ _ _ _ _ _ trivial rfl ?_
    rw [he, if_neg (by decide)]
    exact .ret (by simp [SV.bnd, SV.bndL])
  obtain ⟨g1, g2⟩ : 0 ≤ f ∧ f < xs.length := by simpa [inR] using hr
  obtain ⟨m, rfl⟩ := Int.eq_ofNat_of_zero_le g1
  have g2 : m < xs.length := by omega
  have hown := h2 _ (getD_mem g2)
  refine hκ.run 300 ?_
  simp (disch := omega) only [exec_succ, runR_next, runR_fork_false, runR_call, stepS, runOp, condS, toSR, sop, rOf, sUn, ev, evs, Env.get, setO, OutOK_call, List.size_toArray, List.length_cons, List.length_nil, List.range, List.range.loop, List.getElem?_toArray, List.getElem?_cons_succ, List.getElem?_cons_zero, ↓reduceIte, Nat.reduceAdd, Nat.reduceLT, Nat.reduceEqDiff, Nat.zero_add, Bool.not_true, reduceCtorEq, gl0]
  refine Does.ret hκ.hP hκ.hgl (rright_ok s) ⟨trivial, by simp [SV.bnd, SV.bndL], by first | (simp [SV.bnd, SV.bndL]; done) | assumption⟩ ?_
  by_cases s1 : s < 256
  case neg =>
    rw [decide_eq_false s1]
    have he : splitE xs m s = 140 := by rw [splitE, Int.toNat_natCast, if_neg (by rw [hk]; simp), if_neg (by rw [hr]; simp), if_pos s1]
    refine hκ.run 300 ?_
    simp (disch := omega) only [exec_succ, runR_next, runR_need, runR_fork_true, runR_stop, stepS, runOp, condS, toSR, sop, rOf, sStoreIn, sStore, sUn, fillS, evps, sBuild, ev, svs, Env.get, Heap.get, Heap.set, over, paste, cellsS, one, ones, setO, Value.oneCell', OutOK_need, OutOK_stop, undefS, undef, List.size_toArray, List.length_cons, List.length_nil, List.range, List.range.loop, List.getElem?_toArray, List.getElem?_cons_succ, List.getElem?_cons_zero, List.map_cons, List.map_nil, ↓reduceIte, Nat.reduceAdd, Nat.reduceLT, Nat.reduceEqDiff, Nat.zero_add, Bool.not_false, true_and, and_self, forall_const, gl0, Try.sz26, Try.ze26, Try.pl26]
    refine hκ.ret _ _ _ _ _ _ trivial rfl ?_
    rw [he, if_neg (by decide)]
    exact .ret (by simp [SV.bnd, SV.bndL])
  rw [decide_eq_true s1]
  by_cases s2 : s = 0
  case pos =>
    have e2 : ((s : Int) = 0) = True := by simp only [eq_iff_iff, iff_true]; omega
    have he : splitE xs m s = 2 := by rw [splitE, Int.toNat_natCast, if_neg (by rw [hk]; simp), if_neg (by rw [hr]; simp), if_neg (fun h => h s1), if_pos (Or.inl s2)]
    refine hκ.run 300 ?_
    simp (disch := omega) only [exec_succ, runR_next, runR_need, runR_fork_true, runR_fork_false, runR_guard_tf, runR_stop, stepS, runOp, guardS, condS, toSR, sop, rOf, sPick, sLoad, sStoreIn, sStore, sInt, sBin, sUn, sFieldAddr, sIndexAddr, fillS, evps, sBuild, ev, evs, svs, Env.get, Heap.get, Heap.set, over, paste, cellsS, one, ones, setO, Value.oneCell', OutOK_need, OutOK_stop, undefS, undef, List.size_toArray, List.length_cons, List.length_nil, List.range, List.range.loop, List.getElem?_toArray, List.getElem?_cons_succ, List.getElem?_cons_zero, List.map_cons, List.map_nil, Option.bind_some, ↓reduceIte, Nat.reduceAdd, Nat.reduceLT, Nat.reduceEqDiff, Nat.zero_add, Nat.add_zero, Nat.add_one_ne_zero, Bool.not_true, Bool.not_false, decide_true, true_and, and_self, forall_const, reduceCtorEq, gl0, Try.sz26, Try.ze26, Try.pl26, Try.fd26f0, e2]
    refine hκ.ret _ _ _ _ _ _ trivial rfl ?_
    rw [he, if_neg (by decide)]
    exact .ret (by simp [SV.bnd, SV.bndL])
  have e2 : ((s : Int) = 0) = False := by simp only [eq_iff_iff, iff_false]; omega
  refine hκ.run 300 ?_
  simp (disch := omega) only [exec_succ, runR_next, runR_need, runR_fork_false, runR_guard_ff, runR_call, stepS, runOp, guardS, condS, toSR, sop, rOf, sLoadIn, sLoad, sInt, sBin, sUn, sFieldAddr, sIndexAddr, elemT, obind, ev, evs, Env.get, Heap.get, takeN, cut, aggOf, setO, OutOK_need, OutOK_call, undefS, undef, List.size_toArray, List.length_cons, List.length_nil, List.length_map, List.range, List.range.loop, List.getElem?_toArray, List.getElem?_cons_succ, List.getElem?_cons_zero, Option.bind_some, ↓reduceIte, Nat.reduceAdd, Nat.reduceLT, Nat.reduceEqDiff, Nat.zero_add, Nat.add_zero, Nat.add_one_ne_zero, Int.toNat_natCast, Bool.not_true, Bool.not_false, decide_false, and_self, reduceCtorEq, getD_map, gl0, Try.underlying24, Try.sz24, Try.ag24, Try.fd26f0, Try.sz31, Try.ag31, e2, eS]
  (repeat (refine ⟨by first | omega | (refine ⟨?_, ?_⟩ <;> omega) | trivial | (simp; done) | decide +kernel, fun _ => ?_⟩))
  refine Does.ret hκ.hP hκ.hgl (rwithin_ok s (xs.getD m default) s1) ⟨trivial, by simp [SV.bnd, SV.bndL], by first | (simp [SV.bnd, SV.bndL]; done) | assumption⟩ ?_
  by_cases s3 : dif s (xs.getD m default) = 0
  case neg =>
    rw [decide_eq_false s3]
    have he : splitE xs m s = 2 := by rw [splitE, Int.toNat_natCast, if_neg (by rw [hk]; simp), if_neg (by rw [hr]; simp), if_neg (fun h => h s1), if_pos (Or.inr s3)]
    refine hκ.run 300 ?_
    simp (disch := omega) only [exec_succ, runR_next, runR_need, runR_fork_true, runR_guard_ff, runR_stop, stepS, runOp, guardS, condS, toSR, sop, rOf, sPick, sStoreIn, sStore, sUn, fillS, evps, sBuild, ev, svs, Env.get, Heap.get, Heap.set, over, paste, cellsS, one, ones, setO, Value.oneCell', OutOK_need, OutOK_stop, undefS, undef, List.size_toArray, List.length_cons, List.length_nil, List.range, List.range.loop, List.getElem?_toArray, List.getElem?_cons_succ, List.getElem?_cons_zero, List.map_cons, List.map_nil, Option.bind_some, ↓reduceIte, Nat.reduceAdd, Nat.reduceLT, Nat.reduceEqDiff, Nat.zero_add, Bool.not_false, true_and, and_self, forall_const, gl0, Try.sz26, Try.ze26, Try.pl26]
    refine hκ.ret _ _ _ _ _ _ trivial rfl ?_
    rw [he, if_neg (by decide)]
    exact .ret (by simp [SV.bnd, SV.bndL])
  rw [decide_eq_true s3]
  by_cases s4 : s = xs.getD m default
  case pos =>
    have e4 : ((s : Int) = (xs.getD m default : Nat)) = True := by simp only [eq_iff_iff, iff_true]; omega
    have he : splitE xs m s = 181 := by rw [splitE, Int.toNat_natCast, if_neg (by rw [hk]; simp), if_neg (by rw [hr]; simp), if_neg (fun h => h s1), if_neg (fun h => h.elim s2 (fun h => h s3)), if_pos s4]
    refine hκ.run 300 ?_
    simp (disch := omega) only [exec_succ, runR_next, runR_need, runR_fork_true, runR_fork_false, runR_guard_ff, runR_stop, stepS, runOp, guardS, condS, toSR, sop, rOf, sPick, sLoadIn, sLoad, sStoreIn, sStore, sInt, sBin, sUn, sFieldAddr, sIndexAddr, elemT, obind, fillS, evps, sBuild, ev, svs, Env.get, Heap.get, Heap.set, takeN, cut, over, paste, aggOf, cellsS, one, ones, setO, Value.oneCell', OutOK_need, OutOK_stop, undefS, undef, List.size_toArray, List.length_cons, List.length_nil, List.length_map, List.range, List.range.loop, List.getElem?_toArray, List.getElem?_cons_succ, List.getElem?_cons_zero, List.map_cons, List.map_nil, Option.bind_some, ↓reduceIte, Nat.reduceAdd, Nat.reduceLT, Nat.reduceEqDiff, Nat.zero_add, Nat.add_zero, Nat.add_one_ne_zero, Int.toNat_natCast, Bool.not_true, Bool.not_false, decide_true, true_and, and_self, forall_const, reduceCtorEq, getD_map, gl0, Try.underlying24, Try.sz24, Try.ag24, Try.sz26, Try.ze26, Try.pl26, Try.fd26f0, Try.sz31, Try.ag31, e4, eS]
    (repeat (refine ⟨by first | omega | (refine ⟨?_, ?_⟩ <;> omega) | trivial | (simp; done) | decide +kernel, fun _ => ?_⟩))
    refine hκ.ret _ _ _ _ _ _ trivial rfl ?_
    rw [he, if_neg (by decide)]
    exact .ret (by simp [SV.bnd, SV.bndL])
  have e4 : ((s : Int) = (xs.getD m default : Nat)) = False := by simp only [eq_iff_iff, iff_false]; omega
  by_cases s5 : xs.length = 4
  case pos =>
    have e5 : ((xs.length : Int) = 4) = True := by simp only [eq_iff_iff, iff_true]; omega
    have he : splitE xs m s = 6 := by rw [splitE, Int.toNat_natCast, if_neg (by rw [hk]; simp), if_neg (by rw [hr]; simp), if_neg (fun h => h s1), if_neg (fun h => h.elim s2 (fun h => h s3)), if_neg s4, if_pos s5]
    refine hκ.run 300 ?_
    simp (disch := omega) only [sBuiltin, exec_succ, runR_next, runR_need, runR_fork_true, runR_fork_false, runR_guard_ff, runR_stop, stepS, runOp, guardS, condS, toSR, sop, rOf, sPick, sLoadIn, sLoad, sStoreIn, sStore, sInt, sBin, sUn, sFieldAddr, sIndexAddr, sLen, elemT, obind, fillS, evps, sBuild, ev, svs, Env.get, Heap.get, Heap.set, takeN, cut, over, paste, aggOf, cellsS, one, ones, setO, Value.oneCell', OutOK_need, OutOK_stop, undefS, undef, List.size_toArray, List.length_cons, List.length_nil, List.length_map, List.range, List.range.loop, List.getElem?_toArray, List.getElem?_cons_succ, List.getElem?_cons_zero, List.map_cons, List.map_nil, Option.bind_some, ↓reduceIte, Nat.reduceAdd, Nat.reduceLT, Nat.reduceEqDiff, Nat.zero_add, Nat.add_zero, Nat.add_one_ne_zero, Int.toNat_natCast, Bool.not_true, Bool.not_false, decide_true, decide_false, true_and, and_self, forall_const, reduceCtorEq, getD_map, gl0, Try.underlying24, Try.sz24, Try.ag24, Try.sz26, Try.ze26, Try.pl26, Try.fd26f0, Try.sz31, Try.ag31, e4, e5, eS]
    (repeat (refine ⟨by first | omega | (refine ⟨?_, ?_⟩ <;> omega) | trivial | (simp; done) | decide +kernel, fun _ => ?_⟩))
    refine hκ.ret _ _ _ _ _ _ trivial rfl ?_
    rw [he, if_neg (by decide)]
    exact .ret (by simp [SV.bnd, SV.bndL])
  have e5 : ((xs.length : Int) = 4) = False := by simp only [eq_iff_iff, iff_false]; omega
  have he : splitE xs m s = 0 := by rw [splitE, Int.toNat_natCast, if_neg (by rw [hk]; simp), if_neg (by rw [hr]; simp), if_neg (fun h => h s1), if_neg (fun h => h.elim s2 (fun h => h s3)), if_neg s4, if_neg s5]
  obtain ⟨q1, q2⟩ := sub_is _ hown.2 s s1 s3
  have q3 : (((xs.getD m default : Nat) : Int) - (s : Int)) = ((dif (xs.getD m default) s : Nat) : Int) := by rw [← q2]; omega
  have q4 := dif_le (xs.getD m default) s
  refine hκ.run 300 ?_
  simp (disch := omega) only [sBuiltin, exec_succ, runR_next, runR_need, runR_fork_false, runR_guard_ff, runR_call, stepS, runOp, guardS, condS, toSR, sop, rOf, sPick, sLoadIn, sLoad, sInt, sBin, sUn, sFieldAddr, sIndexAddr, sLen, elemT, obind, ev, evs, Env.get, Heap.get, takeN, cut, aggOf, setO, OutOK_need, OutOK_call, undefS, undef, List.size_toArray, List.length_cons, List.length_nil, List.length_map, List.range, List.range.loop, List.getElem?_toArray, List.getElem?_cons_succ, List.getElem?_cons_zero, Option.bind_some, ↓reduceIte, Nat.reduceAdd, Nat.reduceLT, Nat.reduceEqDiff, Nat.zero_add, Nat.add_zero, Nat.add_one_ne_zero, Int.toNat_natCast, Bool.not_true, Bool.not_false, decide_false, and_self, reduceCtorEq, getD_map, gl0, Try.underlying24, Try.sz24, Try.ag24, Try.sz26, Try.ag26, Try.fd26f0, Try.sz31, Try.ag31, e4, e5, eS]
  (repeat (refine ⟨by first | omega | (refine ⟨?_, ?_⟩ <;> omega) | trivial | (simp; done) | decide +kernel, fun _ => ?_⟩))
  refine Does.rowP hκ.hP hκ.hgl .agg1 (rcopy_ok xs (by omega)) ⟨trivial, by simp [SV.bnd, SV.bndL]⟩ fun cap hcap => ?_
  rw [List.length_map] at hcap ⊢
  refine hκ.run 300 ?_
  simp (disch := omega) only [sBuiltin, srcS, appArgS, sAppendTo, sAppend, allQuiet, quietOp, drawS, exec_succ, runR_next, runR_need, runR_all, runR_stop, stepS, runOp, toSR, sop, rOf, rNew, isArr, sLoadIn, sLoad, sStoreIn, sStore, sInt, sBin, sFieldAddr, sIndexAddr, elemT, sliceT, obind, fillS, evps, repeatL, sBuildSlice, chunk, ev, svs, Env.get, Heap.get, Heap.set, Heap.drop, takeN, cut, over, paste, aggOf, cellsS, one, ones, idFree, idFrees, setO, Value.cells, Value.oneCell', OutOK_need, OutOK_all, OutOK_stop, Option.isNone_none, undefS, undef, Bool.and_true, Bool.and_false, List.drop_zero, List.take_succ_cons, List.take_nil, List.size_toArray, List.length_cons, List.length_nil, List.length_map, List.length_set, List.range, List.range.loop, List.getElem?_toArray, List.getElem?_cons_succ, List.getElem?_cons_zero, List.map_cons, List.map_nil, List.append_nil, List.toList_toArray, ↓reduceIte, Nat.reduceAdd, Nat.reduceLT, Nat.reduceLeDiff, Nat.reduceEqDiff, Nat.zero_add, Nat.add_zero, Nat.mul_one, Nat.add_one_ne_zero, Int.toNat_natCast, ne_eq, not_false_eq_true, and_true, true_and, and_self, forall_const, reduceCtorEq, getD_map, wrap_u32, gl0, Try.underlying24, Try.sz24, Try.ag24, Try.sz26, Try.fd26f0, Try.sz31, Try.ag31, Try.ze31, Try.by31, q3, setS, eS]
  (repeat (refine ⟨by first | omega | (refine ⟨?_, ?_⟩ <;> omega) | trivial | (simp; done) | decide +kernel, fun _ => ?_⟩))
  intro c2
  have et : List.take xs.length (List.map eS (xs.set m (dif (xs.getD m default) s))) ++ [[.v (.int .u32 (s : Int))]] = (splitX xs m s).map eS := by
    rw [List.take_of_length_le (by simp), splitX, List.map_append, Int.toNat_natCast]; rfl
  rw [et]
  have e6 : ((xs.length : Int) + 1 - 1) = xs.length := by omega
  have hsl : (splitX xs m s).length = xs.length + 1 := by simp [splitX]
  have et4 : List.take (xs.length + 1) (List.map eS (splitX xs m s)) = List.map eS (splitX xs m s) := List.take_of_length_le (by simp [hsl])
  refine hκ.draw (.q 0 (.q 1 (.q 2 (.q 3 (.q 4 (.l 5 [2] (.q 6 (.q 7 (.fin))))))))) [0, 1, 2, 3, 4, 6, 7] (by kernel_rfl) (by kernel_rfl) rfl ?_
  simp (disch := omega) only [sBuiltin, sop, rOf, sLoadIn, sLoad, sStoreIn, sStore, sInt, sBin, sFieldAddr, sLen, ev, Env.get, Heap.get, Heap.set, takeN, cut, over, paste, aggOf, cellsS, one, ones, setO, drawP_fin, drawP_q, drawP_l, dnext, dq, dqn, dl, slotR, ag, guardP, R1Q, dstOK, loudP, again, again1, slotIs, R1OK, undefS, undef, Int.cast_ofNat_Int, Int.natCast_add, List.length_cons, List.length_nil, List.getElem?_toArray, List.getElem?_cons_succ, List.getElem?_cons_zero, ↓reduceIte, Nat.reduceLT, Nat.reduceEqDiff, Nat.zero_add, Nat.add_zero, Nat.add_one_ne_zero, true_and, and_self, forall_const, wrap_i64, gl0, Try.underlying24, Try.sz24, Try.ag24, Try.sz26, Try.ag26, Try.fd26f0, e6]
  refine hκ.run 300 ?_
  simp (disch := omega) only [exec_succ, runR_stop, stepS, OutOK_stop, gl0]
  refine hκ.ret _ _ _ _ _ _ trivial rfl ?_
  refine Post.frz [4] (by first | (simp [lendPL, lendP, lendSlP, dropL, Heap.get, Heap.drop, resV]; done) | (simp [lendPL, lendP, lendSlP, dropL, Heap.get, Heap.drop, resV]; omega)) ?_
  simp only [resV, lendL, lendS, lendSl, dropL, Heap.drop, Heap.get, List.mem_singleton, List.mem_cons, List.not_mem_nil, or_false, or_true, true_or, List.drop_zero, Nat.reduceEqDiff, Nat.one_ne_zero, Nat.zero_ne_one, ↓reduceIte, et4]
  rw [he, if_pos rfl]
  exact .ret (by simp [SV.bnd, SV.bndL])
theorem rmove_ok (xs : List Nat) (c to : Int) (hk : okP xs = true) (hc : i64 c) : Con Try.prog gl0 (fnv 35) [Po xs, I c, I to] 0 []
    (Ret (if moveE xs c to = 0 then .tup [Po (moveX xs c to), I (moveN xs c), I 0] else .tup [noP, I 0, I (moveE xs c to)])) := by
  obtain ⟨hx, hl, h2⟩ := okP_small' hk
  have c1 := rof_ok xs c (by omega)
  rw [← of_rof hk c] at c1
  refine Con.of Try.ok35 (nt := 64) (res := [.cell 6 26, .tmp 7, .tmp 8]) Try.mixed Try.func35 rfl rfl rfl rfl fun κ xc hκ => hκ.run 300 ?_
  simp (disch := omega) only [exec_succ, runR_next, runR_call, stepS, runOp, toSR, sop, rOf, rNew, sAlloc, sAlloc0, sBox, isArr, sLoadIn, sLoad, ev, evs, svs, Env.get, Heap.get, takeN, cut, aggOf, cellsS, envOf, OutOK_call, Bool.false_eq_true, List.size_toArray, List.length_cons, List.length_nil, List.range, List.range.loop, List.getElem?_toArray, List.getElem?_cons_succ, List.getElem?_cons_zero, List.map_cons, List.map_nil, ↓reduceIte, Nat.reduceAdd, Nat.reduceLT, Nat.reduceEqDiff, Nat.zero_add, Nat.add_one_ne_zero, reduceCtorEq, gl0, Try.sz26, Try.ag26, Try.ze26, Try.ar26]
  refine Does.ret hκ.hP hκ.hgl (c1) ⟨trivial, by simp [SV.bnd, SV.bndL], by first | (simp [SV.bnd, SV.bndL]; done) | assumption⟩ ?_
  refine hκ.run 300 ?_
  simp (disch := omega) only [exec_succ, runR_next, runR_call, stepS, runOp, toSR, sop, rOf, sLoadIn, sLoad, sExtract, ev, evs, Env.get, Heap.get, takeN, cut, aggOf, setO, OutOK_call, List.size_toArray, List.length_cons, List.length_nil, List.range, List.range.loop, List.getElem?_toArray, List.getElem?_cons_succ, List.getElem?_cons_zero, ↓reduceIte, Nat.reduceAdd, Nat.reduceLT, Nat.reduceEqDiff, Nat.zero_add, Nat.add_one_ne_zero, reduceCtorEq, gl0, Try.sz26, Try.ag26]
  refine Does.ret hκ.hP hκ.hgl (rpool_ok xs to) ⟨trivial, by simp [SV.bnd, SV.bndL], by first | (simp [SV.bnd, SV.bndL]; done) | assumption⟩ ?_
  cases hr : inR xs to
  · have he : moveE xs c to = 4 := by simp [moveE, hk, hr]
    refine hκ.run 300 ?_
    simp (disch := omega) only [exec_succ, runR_next, runR_need, runR_fork_true, runR_stop, stepS, runOp, condS, toSR, sop, rOf, sStoreIn, sStore, sUn, fillS, evps, sBuild, ev, svs, Env.get, Heap.get, Heap.set, over, paste, cellsS, one, ones, setO, Value.oneCell', OutOK_need, OutOK_stop, undefS, undef, List.size_toArray, List.length_cons, List.length_nil, List.range, List.range.loop, List.getElem?_toArray, List.getElem?_cons_succ, List.getElem?_cons_zero, List.map_cons, List.map_nil, ↓reduceIte, Nat.reduceAdd, Nat.reduceLT, Nat.reduceEqDiff, Nat.zero_add, Bool.not_false, true_and, and_self, forall_const, gl0, Try.sz26, Try.ze26, Try.pl26]
    refine hκ.ret _ _ _ _ _ _ trivial rfl ?_
    rw [he, if_neg (by decide)]
    exact .ret (by simp [SV.bnd, SV.bndL])
  obtain ⟨g1, g2⟩ : 0 ≤ to ∧ to < xs.length := by simpa [inR] using hr
  obtain ⟨m, rfl⟩ := Int.eq_ofNat_of_zero_le g1
  have g2 : m < xs.length := by omega
  have hown := h2 _ (getD_mem g2)
  cases ho : ofI xs c with
  | none =>
    rw [show ofV xs c = (0, false) by rw [ofV, if_pos hk, ho]]
    have he : moveE xs c m = 2 := by simp only [moveE, hk, hr, Bool.true_eq_false, if_false, ho]
    refine hκ.run 300 ?_
    simp (disch := omega) only [exec_succ, runR_next, runR_need, runR_fork_true, runR_fork_false, runR_stop, stepS, runOp, condS, toSR, sop, rOf, sStoreIn, sStore, sUn, fillS, evps, sBuild, ev, svs, Env.get, Heap.get, Heap.set, over, paste, cellsS, one, ones, setO, Value.oneCell', OutOK_need, OutOK_stop, undefS, undef, List.size_toArray, List.length_cons, List.length_nil, List.range, List.range.loop, List.getElem?_toArray, List.getElem?_cons_succ, List.getElem?_cons_zero, List.map_cons, List.map_nil, ↓reduceIte, Nat.reduceAdd, Nat.reduceLT, Nat.reduceEqDiff, Nat.zero_add, Bool.not_true, Bool.not_false, true_and, and_self, forall_const, gl0, Try.sz26, Try.ze26, Try.pl26]
    refine hκ.ret _ _ _ _ _ _ trivial rfl ?_
    rw [he, if_neg (by decide)]
    exact .ret (by simp [SV.bnd, SV.bndL])
  | some n =>
    obtain ⟨n1, n2⟩ := ofI_lt ho
    obtain ⟨k, rfl⟩ := Int.eq_ofNat_of_zero_le (show 0 ≤ c by simp only [hasB, Bool.and_eq_true, decide_eq_true_eq] at n2; omega)
    have k8 : k < 8 := by simp only [hasB, Bool.and_eq_true, decide_eq_true_eq] at n2; omega
    have hbit : (xs.getD n default).testBit k = true := by simp only [hasB, Bool.and_eq_true, Int.toNat_natCast] at n2; exact n2.2
    have hsn := h2 _ (getD_mem n1)
    rw [show ofV xs k = ((n : Int), true) by rw [ofV, if_pos hk, ho]]
    by_cases s1 : n = m
    case pos =>
      have e1 : ((n : Int) = m) = True := by simp only [eq_iff_iff, iff_true]; omega
      have he : moveE xs k m = 5 := by simp only [moveE, hk, hr, Bool.true_eq_false, if_false, ho]; rw [if_pos (by omega)]
      refine hκ.run 300 ?_
      simp (disch := omega) only [exec_succ, runR_next, runR_need, runR_fork_true, runR_fork_false, runR_stop, stepS, runOp, condS, toSR, sop, rOf, sStoreIn, sStore, sInt, sBin, sUn, fillS, evps, sBuild, ev, svs, Env.get, Heap.get, Heap.set, over, paste, cellsS, one, ones, setO, Value.oneCell', OutOK_need, OutOK_stop, undefS, undef, List.size_toArray, List.length_cons, List.length_nil, List.range, List.range.loop, List.getElem?_toArray, List.getElem?_cons_succ, List.getElem?_cons_zero, List.map_cons, List.map_nil, ↓reduceIte, Nat.reduceAdd, Nat.reduceLT, Nat.reduceEqDiff, Nat.zero_add, Bool.not_true, decide_true, true_and, and_self, forall_const, reduceCtorEq, gl0, Try.sz26, Try.ze26, Try.pl26, e1]
      refine hκ.ret _ _ _ _ _ _ trivial rfl ?_
      rw [he, if_neg (by decide)]
      exact .ret (by simp [SV.bnd, SV.bndL])
    have e1 : ((n : Int) = m) = False := by simp only [eq_iff_iff, iff_false]; omega
    refine hκ.run 300 ?_
    simp (disch := omega) only [exec_succ, runR_next, runR_need, runR_fork_false, runR_call, stepS, runOp, condS, toSR, sop, rOf, sLoadIn, sLoad, sInt, sBin, sUn, sFieldAddr, sIndexAddr, elemT, obind, ev, evs, Env.get, Heap.get, takeN, cut, aggOf, setO, OutOK_need, OutOK_call, List.size_toArray, List.length_cons, List.length_nil, List.length_map, List.range, List.range.loop, List.getElem?_toArray, List.getElem?_cons_succ, List.getElem?_cons_zero, ↓reduceIte, Nat.reduceAdd, Nat.reduceLT, Nat.reduceEqDiff, Nat.zero_add, Nat.add_zero, Nat.add_one_ne_zero, Int.toNat_natCast, Bool.not_true, decide_false, reduceCtorEq, getD_map, gl0, Try.underlying24, Try.sz24, Try.ag24, Try.fd26f0, Try.sz31, Try.ag31, e1, eS]
    (repeat (refine ⟨by first | omega | (refine ⟨?_, ?_⟩ <;> omega) | trivial | (simp; done) | decide +kernel, fun _ => ?_⟩))
    refine Does.ret hκ.hP hκ.hgl ((rlist_ok (xs.getD n default)).toRd) ⟨trivial, by simp [SV.bnd, SV.bndL], by first | (simp [SV.bnd, SV.bndL]; done) | assumption⟩ ?_
    by_cases s2 : (bits (xs.getD n default)).length = 1
    case pos =>
      have e2 : (((bits (xs.getD n default)).length : Int) = 1) = True := by simp only [eq_iff_iff, iff_true]; omega
      have he : moveE xs k m = 181 := by simp only [moveE, hk, hr, Bool.true_eq_false, if_false, ho]; rw [if_neg (by omega), if_pos (show cnt (xs.getD n default) = 1 from s2)]
      refine hκ.run 300 ?_
      simp (disch := omega) only [sBuiltin, exec_succ, runR_next, runR_need, runR_fork_true, runR_stop, stepS, runOp, condS, toSR, sop, rOf, sStoreIn, sStore, sInt, sBin, sLen, fillS, evps, sBuild, ev, svs, Env.get, Heap.get, Heap.set, over, paste, cellsS, one, ones, setO, Value.oneCell', OutOK_need, OutOK_stop, undefS, undef, List.size_toArray, List.length_cons, List.length_nil, List.length_map, List.range, List.range.loop, List.getElem?_toArray, List.getElem?_cons_succ, List.getElem?_cons_zero, List.map_cons, List.map_nil, ↓reduceIte, Nat.reduceAdd, Nat.reduceLT, Nat.reduceEqDiff, Nat.zero_add, decide_true, true_and, and_self, forall_const, gl0, Try.underlying22, Try.sz26, Try.ze26, Try.pl26, e2]
      refine hκ.ret _ _ _ _ _ _ trivial rfl ?_
      rw [he, if_neg (by decide)]
      exact .ret (by simp [SV.bnd, SV.bndL])
    have e2 : (((bits (xs.getD n default)).length : Int) = 1) = False := by simp only [eq_iff_iff, iff_false]; omega
    have he : moveE xs k m = 0 := by simp only [moveE, hk, hr, Bool.true_eq_false, if_false, ho]; rw [if_neg (by omega), if_neg (show ¬ cnt (xs.getD n default) = 1 from s2)]
    have hp := pow_lt_256 k8
    have hpw := pow32 k (by omega)
    have hd := okP_disj hk n1 g2 s1 hbit
    obtain ⟨q1, q2⟩ := sub_is _ hsn.2 _ hp (dif_zero.2 fun i hi => by rw [testBit_pow, decide_eq_true_eq] at hi; subst hi; exact hbit)
    have a1 := add_is _ hown.2 _ hp (and_zero.2 fun i hi => by
      rw [testBit_pow, decide_eq_false_iff_not]
      rintro rfl
      rw [hi] at hd; cases hd)
    have q3 : (((xs.getD n default : Nat) : Int) - ((2 ^ k : Nat) : Int)) = ((dif (xs.getD n default) (2 ^ k) : Nat) : Int) := by rw [← q2]; omega
    have q4 := dif_le (xs.getD n default) (2 ^ k)
    have q5 : (((xs.getD m default : Nat) : Int) + ((2 ^ k : Nat) : Int)) = ((xs.getD m default ||| 2 ^ k : Nat) : Int) := by rw [← a1]; omega
    have q6 : xs.getD m default ||| 2 ^ k < 256 := Nat.or_lt_two_pow (n := 8) hown.2 hp
    refine hκ.run 300 ?_
    simp (disch := omega) only [sBuiltin, exec_succ, runR_next, runR_fork_false, runR_call, stepS, runOp, condS, toSR, sop, rOf, sLoadIn, sLoad, sInt, sBin, sLen, ev, evs, Env.get, Heap.get, takeN, cut, aggOf, setO, OutOK_call, List.size_toArray, List.length_cons, List.length_nil, List.length_map, List.range, List.range.loop, List.getElem?_toArray, List.getElem?_cons_succ, List.getElem?_cons_zero, ↓reduceIte, Nat.reduceAdd, Nat.reduceLT, Nat.reduceEqDiff, Nat.zero_add, Nat.add_one_ne_zero, decide_false, gl0, Try.underlying22, Try.sz26, Try.ag26, e2]
    refine Does.rowP hκ.hP hκ.hgl .agg1 (rcopy_ok xs (by omega)) ⟨trivial, by simp [SV.bnd, SV.bndL]⟩ fun cap hcap => ?_
    rw [List.length_map] at hcap ⊢
    refine hκ.run 300 ?_
    simp (disch := omega) only [allQuiet, quietOp, drawS, exec_succ, runR_next, runR_need, runR_stop, stepS, runOp, toSR, sop, sStoreIn, sStore, ev, Env.get, Heap.get, Heap.set, over, paste, cellsS, one, ones, setO, OutOK_need, OutOK_stop, Option.isNone_none, undefS, undef, Bool.and_true, Bool.and_false, List.length_cons, List.length_nil, List.getElem?_toArray, List.getElem?_cons_succ, List.getElem?_cons_zero, ↓reduceIte, Nat.reduceAdd, Nat.reduceEqDiff, Nat.zero_add, Nat.add_one_ne_zero, true_and, and_self, forall_const, gl0, Try.sz26]
    refine hκ.draw (.q 0 (.q 1 (.q 2 (.q 3 (.q 4 (.q 5 (.q 6 (.q 7 (.q 8 (.l 9 [] (.fin))))))))))) [0, 1, 2, 3, 4, 5, 6, 7, 8] (by kernel_rfl) (by kernel_rfl) rfl ?_
    simp (disch := omega) only [sop, rOf, sLoadIn, sLoad, sStoreIn, sStore, sInt, sBin, sFieldAddr, sIndexAddr, elemT, obind, ev, svs, Env.get, Heap.get, Heap.set, takeN, cut, over, paste, aggOf, cellsS, one, ones, idFree, idFrees, setO, Value.cells, Value.oneCell', drawP_fin, drawP_q, drawP_l, dnext, dq, dqn, dl, guardP, R1Q, dstOK, loudP, again, R1OK, undefS, undef, Bool.and_true, List.length_cons, List.length_nil, List.length_map, List.getElem?_toArray, List.getElem?_cons_succ, List.getElem?_cons_zero, List.map_cons, List.map_nil, List.toList_toArray, ↓reduceIte, Nat.reduceLT, Nat.reduceEqDiff, Nat.zero_add, Nat.add_zero, Nat.add_one_ne_zero, Int.toNat_natCast, and_true, true_and, and_self, reduceCtorEq, getD_map, shAmt_of, IntKind.bits, wrap_u32, gl0, Try.underlying24, Try.sz24, Try.ag24, Try.fd26f0, Try.sz31, Try.ag31, hpw, q3, setS, eS]
    (repeat (refine ⟨by first | omega | (refine ⟨?_, ?_⟩ <;> omega) | trivial | (simp; done) | decide +kernel, fun _ => ?_⟩))
    refine hκ.runD 300 ?_
    simp (disch := omega) only [runR_next, stepS, OutOK_stop, halt, isDraw, drawC, execD_succ, gl0]
    have hgm : (List.map eS (xs.set n (dif (xs.getD n default) (2 ^ k)))).getD m [] = [S (xs.getD m default)] := by
      rw [getD_map _ _ _ (by simp; omega), getD_set_other s1]; rfl
    refine hκ.draw (.q 0 (.q 1 (.q 2 (.q 3 (.q 4 (.q 5 (.q 6 (.q 7 (.q 8 (.l 9 [] (.fin))))))))))) [0, 1, 2, 3, 4, 5, 6, 7, 8] (by kernel_rfl) (by kernel_rfl) rfl ?_
    simp (disch := omega) only [sop, rOf, sLoadIn, sLoad, sStoreIn, sStore, sInt, sBin, sFieldAddr, sIndexAddr, elemT, obind, ev, svs, Env.get, Heap.get, Heap.set, takeN, cut, over, paste, aggOf, cellsS, one, ones, idFree, idFrees, setO, Value.cells, Value.oneCell', drawP_fin, drawP_q, drawP_l, dnext, dq, dqn, dl, guardP, R1Q, dstOK, loudP, again, R1OK, undefS, undef, Bool.and_true, List.length_cons, List.length_nil, List.length_map, List.length_set, List.getElem?_toArray, List.getElem?_cons_succ, List.getElem?_cons_zero, List.map_cons, List.map_nil, List.toList_toArray, ↓reduceIte, Nat.reduceLT, Nat.reduceEqDiff, Nat.zero_add, Nat.add_zero, Nat.add_one_ne_zero, Int.toNat_natCast, and_true, true_and, and_self, reduceCtorEq, shAmt_of, IntKind.bits, wrap_u32, gl0, Try.underlying24, Try.sz24, Try.ag24, Try.fd26f0, Try.sz31, Try.ag31, hpw, q5, setS, hgm]
    (repeat (refine ⟨by first | omega | (refine ⟨?_, ?_⟩ <;> omega) | trivial | (simp; done) | decide +kernel, fun _ => ?_⟩))
    refine hκ.run 300 ?_
    simp (disch := omega) only [exec_succ, runR_next, runR_need, runR_stop, stepS, runOp, toSR, sop, rOf, sLoadIn, sLoad, sStoreIn, sStore, ev, Env.get, Heap.get, Heap.set, takeN, cut, over, paste, aggOf, cellsS, one, ones, OutOK_need, OutOK_stop, undefS, undef, List.size_toArray, List.length_cons, List.length_nil, List.range, List.range.loop, List.getElem?_toArray, List.getElem?_cons_succ, List.getElem?_cons_zero, ↓reduceIte, Nat.reduceAdd, Nat.reduceLT, Nat.reduceEqDiff, Nat.zero_add, Nat.add_one_ne_zero, true_and, and_self, forall_const, gl0, Try.sz26, Try.ag26]
    have hX : moveX xs k m = (xs.set n (dif (xs.getD n default) (2 ^ k))).set m (xs.getD m default ||| 2 ^ k) := by rw [moveX_eq ho, Int.toNat_natCast, Int.toNat_natCast]
    have hN : moveN xs k = n := by rw [moveN, ho]; rfl
    have hXl : (moveX xs k m).length = xs.length := moveX_len ho
    rw [← hX]
    have et : List.take xs.length (List.map eS (moveX xs k m)) = List.map eS (moveX xs k m) := List.take_of_length_le (by simp [hXl])
    refine hκ.ret _ _ _ _ _ _ trivial rfl ?_
    refine Post.frz [2] (by first | (simp [lendPL, lendP, lendSlP, dropL, Heap.get, Heap.drop, resV]; done) | (simp [lendPL, lendP, lendSlP, dropL, Heap.get, Heap.drop, resV]; omega)) ?_
    simp only [resV, lendL, lendS, lendSl, dropL, Heap.drop, Heap.get, List.mem_singleton, List.mem_cons, List.not_mem_nil, or_false, or_true, true_or, List.drop_zero, Nat.reduceEqDiff, Nat.one_ne_zero, Nat.zero_ne_one, ↓reduceIte, et]
    rw [he, if_pos rfl, hN]
    exact .ret (by simp [SV.bnd, SV.bndL])
/- Join -/
def outJ (ys : List Nat) (p k : Nat) : List Nat := if k ≤ p then ys.take k else ys.take p ++ (ys.take k).drop (p + 1)
theorem outJ_len (ys : List Nat) (p k : Nat) : (outJ ys p k).length ≤ k := by
  unfold outJ
  split
  · simp; omega
  · simp; omega
theorem outJ_lt {ys : List Nat} {p k : Nat} (h : k < ys.length) (hne : k ≠ p) : outJ ys p (k + 1) = outJ ys p k ++ [ys.getD k default] := by
  unfold outJ
  by_cases h1 : k < p
  · rw [if_pos (by omega), if_pos (by omega), take_getD h]
  · rw [if_neg (by omega), if_neg (by omega), take_getD h, List.drop_append_of_le_length (by simp; omega), List.append_assoc]
theorem outJ_at {ys : List Nat} {p : Nat} (h : p < ys.length) : outJ ys p (p + 1) = outJ ys p p := by
  unfold outJ
  rw [if_neg (by omega), if_pos (Nat.le_refl _), List.drop_of_length_le (by simp; omega), List.append_nil]
theorem rjoin_ok (xs : List Nat) (p q : Int) (hk : okP xs = true) : Con Try.prog gl0 (fnv 34) [Po xs, I p, I q] 0 []
    (Ret (if joinE xs p q = 0 then .tup [Po (joinX xs p q), I 0] else .tup [noP, I (joinE xs p q)])) := by
  obtain ⟨hx, hl, h2⟩ := okP_small' hk
  refine Con.of Try.ok34 (nt := 57) (res := [.cell 6 26, .tmp 7]) Try.mixed Try.func34 rfl rfl rfl rfl fun κ xc hκ => hκ.run 300 ?_
  simp (disch := omega) only [exec_succ, runR_next, runR_call, stepS, runOp, toSR, sop, rOf, rNew, sAlloc, sAlloc0, sBox, isArr, sLoadIn, sLoad, ev, evs, svs, Env.get, Heap.get, takeN, cut, aggOf, cellsS, envOf, OutOK_call, Bool.false_eq_true, List.size_toArray, List.length_cons, List.length_nil, List.range, List.range.loop, List.getElem?_toArray, List.getElem?_cons_succ, List.getElem?_cons_zero, List.map_cons, List.map_nil, ↓reduceIte, Nat.reduceAdd, Nat.reduceLT, Nat.reduceEqDiff, Nat.zero_add, Nat.add_one_ne_zero, reduceCtorEq, gl0, Try.sz26, Try.ag26, Try.ze26, Try.ar26]
  refine Does.ret hκ.hP hκ.hgl (rpool_ok xs p) ⟨trivial, by simp [SV.bnd, SV.bndL], by first | (simp [SV.bnd, SV.bndL]; done) | assumption⟩ ?_
  cases hr1 : inR xs p
  · have he : joinE xs p q = 4 := by simp [joinE, hk, hr1]
    refine hκ.run 300 ?_
    simp (disch := omega) only [exec_succ, runR_next, runR_need, runR_fork_true, runR_guard_tf, runR_stop, stepS, runOp, guardS, condS, toSR, sop, rOf, sPick, sLoadIn, sLoad, sStoreIn, sStore, sUn, fillS, evps, sBuild, ev, evs, svs, Env.get, Heap.get, Heap.set, takeN, cut, over, paste, aggOf, cellsS, one, ones, setO, Value.oneCell', OutOK_need, OutOK_stop, undefS, undef, List.size_toArray, List.length_cons, List.length_nil, List.range, List.range.loop, List.getElem?_toArray, List.getElem?_cons_succ, List.getElem?_cons_zero, List.map_cons, List.map_nil, Option.bind_some, ↓reduceIte, Nat.reduceAdd, Nat.reduceLT, Nat.reduceEqDiff, Nat.zero_add, Nat.add_one_ne_zero, Bool.not_false, true_and, and_self, forall_const, reduceCtorEq, gl0, Try.sz26, Try.ag26, Try.ze26, Try.pl26]
    refine hκ.ret _ _ _ _ _ _ trivial rfl ?_
    rw [he, if_neg (by decide)]
    exact .ret (by simp [SV.bnd, SV.bndL])
  refine hκ.run 300 ?_
  simp (disch := omega) only [exec_succ, runR_next, runR_guard_ff, runR_call, stepS, runOp, guardS, toSR, sop, rOf, sLoadIn, sLoad, sUn, ev, evs, Env.get, Heap.get, takeN, cut, aggOf, setO, OutOK_call, undefS, undef, List.getElem?_toArray, List.getElem?_cons_succ, List.getElem?_cons_zero, Option.bind_some, ↓reduceIte, Nat.reduceLT, Nat.reduceEqDiff, Nat.add_one_ne_zero, Bool.not_true, Bool.not_false, and_self, reduceCtorEq, gl0, Try.sz26, Try.ag26]
  refine Does.ret hκ.hP hκ.hgl (rpool_ok xs q) ⟨trivial, by simp [SV.bnd, SV.bndL], by first | (simp [SV.bnd, SV.bndL]; done) | assumption⟩ ?_
  cases hr2 : inR xs q
  · have he : joinE xs p q = 4 := by simp [joinE, hk, hr1, hr2]
    refine hκ.run 300 ?_
    simp (disch := omega) only [exec_succ, runR_next, runR_need, runR_fork_true, runR_guard_ff, runR_stop, stepS, runOp, guardS, condS, toSR, sop, rOf, sPick, sStoreIn, sStore, sUn, fillS, evps, sBuild, ev, svs, Env.get, Heap.get, Heap.set, over, paste, cellsS, one, ones, setO, Value.oneCell', OutOK_need, OutOK_stop, undefS, undef, List.size_toArray, List.length_cons, List.length_nil, List.range, List.range.loop, List.getElem?_toArray, List.getElem?_cons_succ, List.getElem?_cons_zero, List.map_cons, List.map_nil, Option.bind_some, ↓reduceIte, Nat.reduceAdd, Nat.reduceLT, Nat.reduceEqDiff, Nat.zero_add, Bool.not_false, true_and, and_self, forall_const, gl0, Try.sz26, Try.ze26, Try.pl26]
    refine hκ.ret _ _ _ _ _ _ trivial rfl ?_
    rw [he, if_neg (by decide)]
    exact .ret (by simp [SV.bnd, SV.bndL])
  obtain ⟨g1, g2⟩ : 0 ≤ p ∧ p < xs.length := by simpa [inR] using hr1
  obtain ⟨g3, g4⟩ : 0 ≤ q ∧ q < xs.length := by simpa [inR] using hr2
  obtain ⟨i, rfl⟩ := Int.eq_ofNat_of_zero_le g1
  obtain ⟨m, rfl⟩ := Int.eq_ofNat_of_zero_le g3
  have g2 : i < xs.length := by omega
  have g4 : m < xs.length := by omega
  by_cases s1 : i = m
  case pos =>
    have e1 : ((i : Int) = m) = True := by simp only [eq_iff_iff, iff_true]; omega
    have he : joinE xs i m = 2 := by
      simp only [joinE, hk, hr1, hr2, Bool.true_eq_false, Bool.and_self, if_false]
      rw [if_pos (by omega)]
    refine hκ.run 300 ?_
    simp (disch := omega) only [exec_succ, runR_next, runR_need, runR_fork_true, runR_fork_false, runR_guard_ff, runR_stop, stepS, runOp, guardS, condS, toSR, sop, rOf, sPick, sStoreIn, sStore, sInt, sBin, sUn, fillS, evps, sBuild, ev, svs, Env.get, Heap.get, Heap.set, over, paste, cellsS, one, ones, setO, Value.oneCell', OutOK_need, OutOK_stop, undefS, undef, List.size_toArray, List.length_cons, List.length_nil, List.range, List.range.loop, List.getElem?_toArray, List.getElem?_cons_succ, List.getElem?_cons_zero, List.map_cons, List.map_nil, Option.bind_some, ↓reduceIte, Nat.reduceAdd, Nat.reduceLT, Nat.reduceEqDiff, Nat.zero_add, Bool.not_true, Bool.not_false, decide_true, true_and, and_self, forall_const, reduceCtorEq, gl0, Try.sz26, Try.ze26, Try.pl26, e1]
    refine hκ.ret _ _ _ _ _ _ trivial rfl ?_
    rw [he, if_neg (by decide)]
    exact .ret (by simp [SV.bnd, SV.bndL])
  have e1 : ((i : Int) = m) = False := by simp only [eq_iff_iff, iff_false]; omega
  have he : joinE xs i m = 0 := by
    simp only [joinE, hk, hr1, hr2, Bool.true_eq_false, Bool.and_self, if_false]
    rw [if_neg (by omega)]
  have hi := h2 _ (getD_mem g2)
  have hm := h2 _ (getD_mem g4)
  have a1 := add_is _ hm.2 _ hi.2 (and_zero.2 fun c hc => okP_disj hk g4 g2 (Ne.symm s1) hc)
  have q5 : (((xs.getD m default : Nat) : Int) + ((xs.getD i default : Nat) : Int)) = ((xs.getD m default ||| xs.getD i default : Nat) : Int) := by rw [← a1]; omega
  have q6 : xs.getD m default ||| xs.getD i default < 256 := Nat.or_lt_two_pow (n := 8) hm.2 hi.2
  generalize hy : xs.set m (xs.getD m default ||| xs.getD i default) = ys
  have hyl : ys.length = xs.length := by rw [← hy]; simp
  have hym : ys.getD m default = xs.getD m default ||| xs.getD i default := by rw [← hy]; exact getD_set_self g4
  have hyo : ∀ k, m ≠ k → ys.getD k default = xs.getD k default := fun k hk => by rw [← hy]; exact getD_set_other hk
  refine hκ.run 300 ?_
  simp (disch := omega) only [sBuiltin, exec_succ, runR_next, runR_fork_false, runR_guard_ff, runR_stop, stepS, runOp, guardS, condS, toSR, sop, rOf, rNew, sPick, sAlloc, sAlloc0, sLoadIn, sLoad, sInt, sBin, sUn, sFieldAddr, sLen, ev, svs, Env.get, Heap.get, takeN, cut, aggOf, setO, OutOK_stop, undefS, undef, List.size_toArray, List.length_cons, List.length_nil, List.length_map, List.range, List.range.loop, List.getElem?_toArray, List.getElem?_cons_succ, List.getElem?_cons_zero, List.map_cons, List.map_nil, Option.bind_some, ↓reduceIte, Nat.reduceAdd, Nat.reduceLT, Nat.reduceEqDiff, Nat.zero_add, Nat.add_zero, Nat.add_one_ne_zero, Bool.not_true, Bool.not_false, decide_false, and_self, reduceCtorEq, gl0, Try.underlying24, Try.sz24, Try.ag24, Try.ze26, Try.ar26, Try.fd26f0, e1]
  refine Sat.nilCell 2 1 31 26 [] [] rfl ?_
  simp only [Heap.set, List.nil_append, Nat.reduceEqDiff, ↓reduceIte]
  refine Sat.less (Sat.loop (γ := Nat × Nat) (fun g => ([(31, I g.1), (30, I xs.length), (29, .rd 1 (xs.map eS)), (8, .ptr 2 0 0 0), (6, .ptr 1 0 0 0), (3, .ptr 0 0 0 0), (1, I i), (2, I m)], [(2, .own [.sl 3 1 0 (outJ ys i g.1).length g.2] 26), (3, .row 1 g.2 31 ((outJ ys i g.1).map eS)), (1, .own [.v (.slice none 0 0)] 26), (0, .own [.rd 1 (xs.map eS)] 26)], 4)) (fun g => xs.length - g.1)
    (fun g => g.1 ≤ xs.length) ?round (0, 0) (Nat.zero_le _)) (by repeat' (first | exact EnvSub.nil _ | exact HeapSub.nil _ | refine EnvSub.cons rfl ?_ | refine HeapSub.cons rfl ?_ | (refine EnvSub.cons (by simp [Env.get]; done) ?_) | (refine HeapSub.cons (by simp [Heap.get]; done) ?_))) (by repeat' (first | exact EnvSub.nil _ | exact HeapSub.nil _ | refine EnvSub.cons rfl ?_ | refine HeapSub.cons rfl ?_ | (refine EnvSub.cons (by simp [Env.get]; done) ?_) | (refine HeapSub.cons (by simp [Heap.get]; done) ?_)))
  case round =>
    rintro ⟨k, cap⟩ hk2 ih
    dsimp only at hk2 ih ⊢
    refine Sat.room 3 rfl fun hroom => ?_
    rw [List.length_map] at hroom
    have hol := outJ_len ys i k
    by_cases hkl : k < xs.length
    · have e2 : ((k : Int) < xs.length) = True := by simp only [eq_iff_iff, iff_true]; omega
      have hz := fun cap => ih (k + 1, cap) (by dsimp only; omega) (by dsimp only; omega)
      dsimp only at hz
      by_cases k1 : k = m
      · subst k1
        have e3 : ((k : Int) = k) = True := by simp
        have e4 : ((k : Int) = i) = False := by simp only [eq_iff_iff, iff_false]; omega
        rw [outJ_lt (by omega) (by omega), hym] at hz
        generalize outJ ys i k = out at hroom hol hz
        refine hκ.run 300 ?_
        simp (disch := omega) only [sBuiltin, srcS, appArgS, sAppendTo, sAppend, exec_succ, runR_next, runR_need, runR_all, runR_fork_true, runR_stop, stepS, runOp, condS, toSR, sop, rOf, rNew, isArr, sLoadIn, sLoad, sStoreIn, sStore, sInt, sBin, sFieldAddr, sIndexAddr, elemT, sliceT, obind, fillS, evps, repeatL, sBuildSlice, chunk, ev, svs, Env.get, Heap.get, Heap.set, Heap.drop, takeN, cut, over, paste, aggOf, cellsS, one, ones, idFree, idFrees, Value.cells, Value.oneCell', OutOK_need, OutOK_all, OutOK_stop, undefS, undef, Bool.and_true, List.drop_zero, List.take_succ_cons, List.take_nil, List.size_toArray, List.length_cons, List.length_nil, List.length_map, List.range, List.range.loop, List.getElem?_toArray, List.getElem?_cons_succ, List.getElem?_cons_zero, List.map_cons, List.map_nil, List.append_nil, List.toList_toArray, ↓reduceIte, Nat.reduceAdd, Nat.reduceLT, Nat.reduceLeDiff, Nat.reduceEqDiff, Nat.zero_add, Nat.add_zero, Nat.mul_one, Nat.add_one_ne_zero, Int.toNat_natCast, Bool.not_false, decide_true, decide_false, ne_eq, not_false_eq_true, and_true, true_and, and_self, forall_const, reduceCtorEq, getD_map, wrap_i64, wrap_u32, gl0, Try.underlying24, Try.sz24, Try.ag24, Try.fd26f0, Try.sz31, Try.ag31, Try.ze31, Try.by31, e2, e4, q5, eS]
        (repeat (refine ⟨by first | omega | (refine ⟨?_, ?_⟩ <;> omega) | trivial | (simp; done) | decide +kernel, fun _ => ?_⟩))
        intro c
        have hy2 := hz (out.length + 1 + c)
        have et : List.take out.length (List.map eS out) = List.map eS out := List.take_of_length_le (by simp)
        simp only [List.length_append, List.length_cons, List.length_nil, List.length_singleton, List.length_map, List.length_set, List.length_replicate, Nat.zero_add, Nat.add_zero, Int.natCast_add, Int.natCast_one, Int.ofNat_eq_natCast, List.map_append, List.map_cons, List.map_nil, List.take_length, eI, eB] at hy2 ⊢
        rw [et]
        refine Sat.via (fun i => if i = 3 then 5 else i) (hy2) (by intro i j; (repeat (first | omega | split))) (by repeat' (first | exact EnvVia.nil | refine EnvVia.cons (by first | trivial | decide | (simp [SV.bnd, SV.bndL]; done)) rfl ?_)) (by repeat' (first | exact HeapVia.nil | refine HeapVia.cons (by decide) (by first | trivial | (simp [Blk.bnd, SV.bnd, SV.bndL]; done) | exact bndL_mapV _ _ _ | exact LR.bnd (by rw [l2]; simp [bndE, SV.bnd, SV.bndL]) (by rw [l6]; decide)) (by first | rfl | (simp only [Blk.ren, renL_mapV]; rfl) | (rw [LR.ren (by rw [l2] <;> rfl) (by rw [l6] <;> rfl)]; rfl)) ?_)) ⟨by have := hκ.hm; (try dsimp only at this); (first | done | omega), fun i hi => by have := hκ.hm; (try dsimp only at this); (first | omega | (dsimp only; omega) | (rw [if_neg (by omega)]))⟩ ⟨by simp, rfl⟩
      · have e3 : ((k : Int) = m) = False := by simp only [eq_iff_iff, iff_false]; omega
        have hs := hx _ (getD_mem hkl)
        by_cases k2 : k = i
        · subst k2
          have e4 : ((k : Int) = k) = True := by simp
          rw [outJ_at (by omega)] at hz
          generalize outJ ys k k = out at hroom hol hz
          refine hκ.run 300 ?_
          simp (disch := omega) only [exec_succ, runR_next, runR_need, runR_fork_true, runR_fork_false, runR_stop, stepS, runOp, condS, toSR, sop, rOf, sLoad, sInt, sBin, sIndexAddr, elemT, obind, ev, Env.get, takeN, cut, aggOf, OutOK_need, OutOK_stop, List.size_toArray, List.length_cons, List.length_nil, List.length_map, List.range, List.range.loop, List.getElem?_toArray, List.getElem?_cons_succ, List.getElem?_cons_zero, ↓reduceIte, Nat.reduceAdd, Nat.reduceLT, Nat.reduceEqDiff, Nat.zero_add, Int.toNat_natCast, Bool.not_true, decide_true, decide_false, and_true, getD_map, wrap_i64, gl0, Try.underlying24, Try.sz31, Try.ag31, e2, e3, eS]
          (repeat (refine ⟨by first | omega | (refine ⟨?_, ?_⟩ <;> omega) | trivial | (simp; done) | decide +kernel, fun _ => ?_⟩))
          have hy2 := hz cap
          refine Sat.via (fun i => i) (hy2) (by intro i j; (repeat (first | omega | split))) (by repeat' (first | exact EnvVia.nil | refine EnvVia.cons (by first | trivial | decide | (simp [SV.bnd, SV.bndL]; done)) rfl ?_)) (by repeat' (first | exact HeapVia.nil | refine HeapVia.cons (by decide) (by first | trivial | (simp [Blk.bnd, SV.bnd, SV.bndL]; done) | exact bndL_mapV _ _ _ | exact LR.bnd (by rw [l2]; simp [bndE, SV.bnd, SV.bndL]) (by rw [l6]; decide)) (by first | rfl | (simp only [Blk.ren, renL_mapV]; rfl) | (rw [LR.ren (by rw [l2] <;> rfl) (by rw [l6] <;> rfl)]; rfl)) ?_)) ⟨by have := hκ.hm; (try dsimp only at this); (first | done | omega), fun i hi => by have := hκ.hm; (try dsimp only at this); (first | omega | (dsimp only; omega) | (rw [if_neg (by omega)]))⟩ ⟨by simp, rfl⟩
        · have e4 : ((k : Int) = i) = False := by simp only [eq_iff_iff, iff_false]; omega
          rw [outJ_lt (by omega) k2, hyo k (Ne.symm k1)] at hz
          generalize outJ ys i k = out at hroom hol hz
          refine hκ.run 300 ?_
          simp (disch := omega) only [sBuiltin, srcS, appArgS, sAppendTo, sAppend, exec_succ, runR_next, runR_need, runR_all, runR_fork_true, runR_fork_false, runR_stop, stepS, runOp, condS, toSR, sop, rOf, rNew, isArr, sLoadIn, sLoad, sStoreIn, sStore, sInt, sBin, sFieldAddr, sIndexAddr, elemT, sliceT, obind, fillS, evps, repeatL, sBuildSlice, chunk, ev, svs, Env.get, Heap.get, Heap.set, Heap.drop, takeN, cut, over, paste, aggOf, cellsS, one, ones, idFree, idFrees, Value.cells, Value.oneCell', OutOK_need, OutOK_all, OutOK_stop, undefS, undef, Bool.and_true, List.drop_zero, List.take_succ_cons, List.take_nil, List.size_toArray, List.length_cons, List.length_nil, List.length_map, List.range, List.range.loop, List.getElem?_toArray, List.getElem?_cons_succ, List.getElem?_cons_zero, List.map_cons, List.map_nil, List.append_nil, List.toList_toArray, ↓reduceIte, Nat.reduceAdd, Nat.reduceLT, Nat.reduceLeDiff, Nat.reduceEqDiff, Nat.zero_add, Nat.add_zero, Nat.mul_one, Nat.add_one_ne_zero, Int.toNat_natCast, Bool.not_false, decide_true, decide_false, ne_eq, not_false_eq_true, and_true, true_and, and_self, forall_const, reduceCtorEq, getD_map, wrap_i64, gl0, Try.underlying24, Try.sz24, Try.ag24, Try.fd26f0, Try.sz31, Try.ag31, Try.ze31, Try.by31, e2, e3, e4, eS]
          (repeat (refine ⟨by first | omega | (refine ⟨?_, ?_⟩ <;> omega) | trivial | (simp; done) | decide +kernel, fun _ => ?_⟩))
          intro c
          have hy2 := hz (out.length + 1 + c)
          have et : List.take out.length (List.map eS out) = List.map eS out := List.take_of_length_le (by simp)
          simp only [List.length_append, List.length_cons, List.length_nil, List.length_singleton, List.length_map, List.length_set, List.length_replicate, Nat.zero_add, Nat.add_zero, Int.natCast_add, Int.natCast_one, Int.ofNat_eq_natCast, List.map_append, List.map_cons, List.map_nil, List.take_length, eI, eB] at hy2 ⊢
          rw [et]
          refine Sat.via (fun i => if i = 3 then 5 else i) (hy2) (by intro i j; (repeat (first | omega | split))) (by repeat' (first | exact EnvVia.nil | refine EnvVia.cons (by first | trivial | decide | (simp [SV.bnd, SV.bndL]; done)) rfl ?_)) (by repeat' (first | exact HeapVia.nil | refine HeapVia.cons (by decide) (by first | trivial | (simp [Blk.bnd, SV.bnd, SV.bndL]; done) | exact bndL_mapV _ _ _ | exact LR.bnd (by rw [l2]; simp [bndE, SV.bnd, SV.bndL]) (by rw [l6]; decide)) (by first | rfl | (simp only [Blk.ren, renL_mapV]; rfl) | (rw [LR.ren (by rw [l2] <;> rfl) (by rw [l6] <;> rfl)]; rfl)) ?_)) ⟨by have := hκ.hm; (try dsimp only at this); (first | done | omega), fun i hi => by have := hκ.hm; (try dsimp only at this); (first | omega | (dsimp only; omega) | (rw [if_neg (by omega)]))⟩ ⟨by simp, rfl⟩
    · obtain rfl : k = xs.length := by omega
      have e2 : ((xs.length : Int) < xs.length) = False := by simp
      have hX : joinX xs i m = outJ ys i xs.length := by
        rw [joinX, Int.toNat_natCast, Int.toNat_natCast, hy, outJ, if_neg (by omega), ← hyl, List.take_length]
      obtain ⟨out, hout⟩ : ∃ out, joinX xs i m = out := ⟨_, rfl⟩
      rw [← hX, hout] at hroom hol ⊢
      have et : List.take out.length (List.map eS out) = List.map eS out := List.take_of_length_le (by simp)
      refine hκ.run 300 ?_
      simp (disch := omega) only [exec_succ, runR_next, runR_need, runR_fork_false, runR_stop, stepS, runOp, condS, goS, toSR, sop, rOf, sLoadIn, sLoad, sStoreIn, sStore, sInt, sBin, ev, Env.get, Heap.get, Heap.set, takeN, cut, over, paste, aggOf, cellsS, one, ones, exitTo, OutOK_need, OutOK_stop, undefS, undef, List.size_toArray, List.length_cons, List.length_nil, List.range, List.range.loop, List.getElem?_toArray, List.getElem?_cons_succ, List.getElem?_cons_zero, ↓reduceIte, Nat.reduceAdd, Nat.reduceLT, Nat.reduceEqDiff, Nat.zero_add, decide_false, beq_self_eq_true, true_and, and_self, forall_const, gl0, Try.sz26, Try.ag26, e2]
      refine hκ.ret _ _ _ _ _ _ trivial rfl ?_
      refine Post.frz [3] (by first | (simp [lendPL, lendP, lendSlP, dropL, Heap.get, Heap.drop, resV]; done) | (simp [lendPL, lendP, lendSlP, dropL, Heap.get, Heap.drop, resV]; omega)) ?_
      simp only [resV, lendL, lendS, lendSl, dropL, Heap.drop, Heap.get, List.mem_singleton, List.mem_cons, List.not_mem_nil, or_false, or_true, true_or, List.drop_zero, Nat.reduceEqDiff, Nat.one_ne_zero, Nat.zero_ne_one, ↓reduceIte, et]
      rw [he, if_pos rfl, hout]
      exact .ret (by simp [SV.bnd, SV.bndL])
end Go.Proofs.Ytfhiaddbpacgeaa

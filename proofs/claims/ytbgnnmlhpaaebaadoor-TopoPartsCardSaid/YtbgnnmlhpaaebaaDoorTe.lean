/- The document's Near. No condition. -/
import Derived.Test.YtbgnnmlhpaaebaaDoorTd
namespace Go.Proofs.YtbgnnmlhpaaebaaDoor
open Go Go.Sy
set_option maxRecDepth 100000
set_option linter.unusedSimpArgs false
set_option linter.unusedVariables false

/-- Those of a set, of the first ones. -/
def wL (s k : Nat) : List Int := ((List.range k).filter fun (j : Nat) => hasB s (j : Int)).map fun (j : Nat) => (j : Int)
theorem wL_succ (s k : Nat) : wL s (k + 1) = wL s k ++ if hasB s (k : Int) = true then [(k : Int)] else [] := by
  rw [wL, List.range_succ, List.filter_append, List.map_append, ← wL, List.filter_cons, List.filter_nil]
  split <;> simp
theorem wL_len (s k : Nat) : (wL s k).length ≤ k := by
  rw [wL, List.length_map]
  exact Nat.le_trans (List.length_filter_le _ _) (by rw [List.length_range]; exact Nat.le_refl _)
/-- Those told so far. -/
def dL (D : Int → Int) (W : List Int) (s d k : Nat) : List Int := bkt D W d ++ (wL s k).filter fun c => decide (D c = d)
theorem dL_succ (D : Int → Int) (W : List Int) (s d k : Nat) : dL D W s d (k + 1) = dL D W s d k ++ if hasB s (k : Int) = true ∧ D k = d then [(k : Int)] else [] := by
  rw [dL, wL_succ, List.filter_append, ← List.append_assoc, ← dL]
  by_cases h : hasB s (k : Int) = true
  · rw [if_pos h, List.filter_cons, List.filter_nil]
    by_cases e : D k = d
    · rw [if_pos (decide_eq_true e), if_pos ⟨h, e⟩]
    · rw [if_neg (by rw [decide_eq_true_eq]; exact e), if_neg (fun x => e x.2)]
  · rw [if_neg h, if_neg (fun x => h x.1)]; rfl
theorem dL_len (D : Int → Int) (W : List Int) (s d k : Nat) : (dL D W s d k).length ≤ (bkt D W d).length + k := by
  rw [dL, List.length_append]
  have h1 := List.length_filter_le (fun c => decide (D c = d)) (wL s k)
  have h2 := wL_len s k
  omega
theorem bkt_long (D : Int → Int) (W : List Int) : ∀ n, (bkt D W n).length ≤ n * W.length
  | 0 => Nat.zero_le _
  | n + 1 => by
    have ih := bkt_long D W n
    have h1 := List.length_filter_le (fun c => decide (D c = n)) W
    rw [bkt, List.length_append, Nat.add_mul]
    omega
theorem rnear_ok (l : List Sea) (p s : Nat) (hp : p < l.length) (hn : l.length < 2 ^ 40) : Con Tryd.prog gl0 (fnv 18) [To l, I p, S s] 0 [] (Ret (Is (bkt (farK l p) (wL s l.length) 4))) := by
  have hw := wL_len s l.length
  refine Con.of Tryd.ok18 (nt := 37) (res := [.tmp 6]) Tryd.mixed Tryd.func18 rfl rfl rfl rfl fun κ xc hκ => hκ.run 300 ?_
  simp (disch := omega) only [exec_succ, runR_next, runR_stop, stepS, runOp, toSR, sop, rOf, rNew, sBox, isArr, ev, Env.get, cellsS, envOf, OutOK_stop, Bool.false_eq_true, List.size_toArray, List.length_cons, List.length_nil, List.range, List.range.loop, List.getElem?_toArray, List.getElem?_cons_succ, List.getElem?_cons_zero, ↓reduceIte, Nat.reduceAdd, Nat.reduceLT, Nat.zero_add, gl0]
  refine Sat.nilRow 7 1 3 rfl ?_
  refine Sat.less (Sat.loop (γ := Nat × Nat) (fun g => ([(8, I g.1), (7, .sl 1 1 0 (bkt (farK l p) (wL s l.length) g.1).length g.2), (3, .ptr 0 0 0 0), (1, I p), (2, S s)], [(1, .row 1 g.2 3 ((bkt (farK l p) (wL s l.length) g.1).map (eI .i64))), (0, .own [Ss l] 24)], 2)) (fun g => 4 - g.1) (fun g => g.1 ≤ 4 ∧ (bkt (farK l p) (wL s l.length) g.1).length ≤ g.2) ?round (0, 0) ⟨by dsimp only; omega, Nat.le_refl _⟩) (by repeat' (first | exact EnvSub.nil _ | exact HeapSub.nil _ | refine EnvSub.cons rfl ?_ | refine HeapSub.cons rfl ?_ | (refine EnvSub.cons (by simp [Env.get]; done) ?_) | (refine HeapSub.cons (by simp [Heap.get]; done) ?_))) (by repeat' (first | exact EnvSub.nil _ | exact HeapSub.nil _ | refine EnvSub.cons rfl ?_ | refine HeapSub.cons rfl ?_ | (refine EnvSub.cons (by simp [Env.get]; done) ?_) | (refine HeapSub.cons (by simp [Heap.get]; done) ?_)))
  case round =>
    rintro ⟨d, cap⟩ ⟨hd, hcap⟩ ih
    dsimp only at hd hcap ih ⊢
    have hbl := bkt_long (farK l p) (wL s l.length) d
    have hbl : (bkt (farK l p) (wL s l.length) d).length ≤ 4 * l.length := Nat.le_trans hbl (Nat.mul_le_mul hd hw)
    refine hκ.run 300 ?_
    simp (disch := omega) only [exec_succ, runR_next, stepS, runOp, condS, toSR, sop, rOf, sInt, sBin, ev, Env.get, List.size_toArray, List.length_cons, List.length_nil, List.range, List.range.loop, List.getElem?_toArray, List.getElem?_cons_succ, List.getElem?_cons_zero, ↓reduceIte, Nat.reduceAdd, Nat.reduceLT, Nat.zero_add, gl0]
    refine OutOK_fork (fun h => ?_) (fun h => ?_) <;> try simp only [Bool.not_true, Bool.not_false, decide_eq_true_eq, decide_eq_false_iff_not, Bool.not_eq_true', Bool.not_eq_false', Bool.and_eq_true, Bool.or_eq_false_iff, Bool.or_eq_true, Bool.and_eq_false_iff] at h
    · have hz := fun cap h => ih (d + 1, cap) ⟨by dsimp only; omega, h⟩ (by dsimp only; omega)
      have e0 : dL (farK l p) (wL s l.length) s d 0 = bkt (farK l p) (wL s l.length) d := by rw [dL, show wL s 0 = [] from rfl]; simp
      have e1 : dL (farK l p) (wL s l.length) s d l.length = bkt (farK l p) (wL s l.length) (d + 1) := by rw [dL, bkt]
      dsimp only at hz
      have hln := fun k => dL_len (farK l p) (wL s l.length) s d k
      rw [← e0] at hcap ⊢
      rw [← e1] at hz
      clear ih
      simp (disch := omega) only [sBuiltin, exec_succ, runR_next, runR_stop, stepS, runOp, toSR, sop, rOf, sLoadIn, sLoad, sFieldAddr, sLen, ev, Env.get, Heap.get, takeN, cut, aggOf, OutOK_stop, List.size_toArray, List.length_cons, List.length_nil, List.length_map, List.range, List.range.loop, List.getElem?_toArray, List.getElem?_cons_succ, List.getElem?_cons_zero, ↓reduceIte, Nat.reduceAdd, Nat.reduceLT, Nat.reduceEqDiff, Nat.zero_add, Nat.add_zero, Nat.add_one_ne_zero, Tryd.underlying22, Tryd.sz22, Tryd.ag22, Tryd.fd24f0]
      refine Sat.less (Sat.loop (γ := Nat × Nat) (fun g => ([(17, I g.1), (16, I l.length), (8, I d), (7, .sl 1 1 0 (dL (farK l p) (wL s l.length) s d g.1).length g.2), (3, .ptr 0 0 0 0), (1, I p), (2, S s)], [(1, .row 1 g.2 3 ((dL (farK l p) (wL s l.length) s d g.1).map (eI .i64))), (0, .own [Ss l] 24)], 2)) (fun g => l.length - g.1) (fun g => g.1 ≤ l.length ∧ (dL (farK l p) (wL s l.length) s d g.1).length ≤ g.2) ?inner (0, cap) ⟨Nat.zero_le _, hcap⟩) (by repeat' (first | exact EnvSub.nil _ | exact HeapSub.nil _ | refine EnvSub.cons rfl ?_ | refine HeapSub.cons rfl ?_ | (refine EnvSub.cons (by simp [Env.get]; done) ?_) | (refine HeapSub.cons (by simp [Heap.get]; done) ?_))) (by repeat' (first | exact EnvSub.nil _ | exact HeapSub.nil _ | refine EnvSub.cons rfl ?_ | refine HeapSub.cons rfl ?_ | (refine EnvSub.cons (by simp [Env.get]; done) ?_) | (refine HeapSub.cons (by simp [Heap.get]; done) ?_)))
      case inner =>
        rintro ⟨k, cap1⟩ ⟨hk, hcap1⟩ ihj
        dsimp only at hk hcap1 ihj ⊢
        have hln := hln k
        refine hκ.run 300 ?_
        simp (disch := omega) only [exec_succ, runR_next, stepS, runOp, condS, toSR, sop, sInt, sBin, ev, Env.get, List.size_toArray, List.length_cons, List.length_nil, List.range, List.range.loop, List.getElem?_toArray, List.getElem?_cons_zero, ↓reduceIte, Nat.reduceLT, Nat.reduceEqDiff, Nat.zero_add, gl0]
        refine OutOK_fork (fun h => ?_) (fun h => ?_) <;> try simp only [Bool.not_true, Bool.not_false, decide_eq_true_eq, decide_eq_false_iff_not, Bool.not_eq_true', Bool.not_eq_false', Bool.and_eq_true, Bool.or_eq_false_iff, Bool.or_eq_true, Bool.and_eq_false_iff] at h
        · have hy := fun cap h => ihj (k + 1, cap) ⟨by dsimp only; omega, h⟩ (by dsimp only; omega)
          dsimp only at hy
          rw [dL_succ] at hy
          have hfar : farK l p k = distN l p k := by rw [farK, Int.toNat_natCast]
          generalize dL (farK l p) (wL s l.length) s d k = pre at hy hcap1 hln ⊢
          have et : List.take pre.length (List.map (eI .i64) pre) = List.map (eI .i64) pre := List.take_of_length_le (by simp)
          rw [hfar] at hy
          simp (disch := omega) only [exec_succ, runR_next, runR_call, stepS, runOp, toSR, sop, rOf, ev, evs, Env.get, OutOK_call, List.size_toArray, List.length_cons, List.length_nil, List.range, List.range.loop, List.getElem?_toArray, List.getElem?_cons_succ, List.getElem?_cons_zero, ↓reduceIte, Nat.reduceAdd, Nat.reduceLT, Nat.reduceEqDiff, Nat.zero_add]
          refine Does.ret hκ.hP hκ.hgl (rhas_ok s k) ⟨trivial, by simp [SV.bnd, SV.bndL], by first | (simp [SV.bnd, SV.bndL]; done) | assumption⟩ ?_
          cases hb : hasB s k
          · rw [hb, if_neg (fun h => by cases h.1), List.append_nil] at hy
            have hx := hy cap1 hcap1
            refine hκ.run 300 ?_
            simp (disch := omega) only [exec_succ, runR_next, runR_fork_false, runR_guard_ft, runR_stop, stepS, runOp, guardS, condS, toSR, sop, rOf, sPick, sLoadIn, sLoad, sInt, sEq, sEqR, sBin, ev, evs, Env.get, Heap.get, takeN, cut, aggOf, setO, OutOK_stop, undefS, undef, List.size_toArray, List.length_cons, List.length_nil, List.range, List.range.loop, List.getElem?_toArray, List.getElem?_cons_succ, List.getElem?_cons_zero, Option.bind_some, ↓reduceIte, Nat.reduceAdd, Nat.reduceLT, Nat.reduceEqDiff, Nat.zero_add, Nat.add_one_ne_zero, Bool.not_true, and_self, wrap_i64, gl0, Tryd.sz24, Tryd.ag24]
            exact hx.less (by repeat' (first | exact EnvSub.nil _ | exact HeapSub.nil _ | refine EnvSub.cons rfl ?_ | refine HeapSub.cons rfl ?_ | (refine EnvSub.cons (by simp [Env.get]; done) ?_) | (refine HeapSub.cons (by simp [Heap.get]; done) ?_))) (by repeat' (first | exact EnvSub.nil _ | exact HeapSub.nil _ | refine EnvSub.cons rfl ?_ | refine HeapSub.cons rfl ?_ | (refine EnvSub.cons (by simp [Env.get]; done) ?_) | (refine HeapSub.cons (by simp [Heap.get]; done) ?_)))
          · refine hκ.run 300 ?_
            simp (disch := omega) only [exec_succ, runR_next, runR_guard_tt, runR_call, stepS, runOp, guardS, toSR, sop, rOf, sLoadIn, sLoad, ev, evs, Env.get, Heap.get, takeN, cut, aggOf, setO, OutOK_call, undefS, undef, List.getElem?_toArray, List.getElem?_cons_succ, List.getElem?_cons_zero, Option.bind_some, ↓reduceIte, Nat.reduceLT, Nat.reduceEqDiff, Nat.add_one_ne_zero, Bool.not_true, and_self, gl0, Tryd.sz24, Tryd.ag24]
            refine Does.ret hκ.hP hκ.hgl (trdist_ok l p k hp (by omega) hn) ⟨trivial, by simp [SV.bnd, SV.bndL], by first | (simp [SV.bnd, SV.bndL]; done) | assumption⟩ ?_
            rw [hb] at hy
            generalize distN l p k = q at hy ⊢
            by_cases e : q = d
            · rw [if_pos ⟨rfl, e⟩] at hy
              have e2 : (q = (d : Int)) = True := by first | (simp only [eq_iff_iff, iff_true]; first | assumption | omega) | (simp; omega)
              refine hκ.run 300 ?_
              simp (disch := omega) only [sBuiltin, srcS, appArgS, sAppendTo, sAppend, exec_succ, runR_next, runR_need, runR_all, runR_fork_true, runR_guard_tt, runR_stop, stepS, runOp, guardS, condS, toSR, sop, rOf, rNew, sPick, isArr, sInt, sBin, sliceT, obind, fillS, evps, repeatL, sBuildSlice, chunk, ev, svs, Env.get, Heap.get, Heap.drop, over, paste, cellsS, one, ones, idFree, idFrees, setO, Value.cells, Value.oneCell', OutOK_need, OutOK_all, OutOK_stop, undefS, undef, Bool.and_true, List.drop_zero, List.take_succ_cons, List.take_nil, List.size_toArray, List.length_cons, List.length_nil, List.length_map, List.range, List.range.loop, List.getElem?_toArray, List.getElem?_cons_succ, List.getElem?_cons_zero, List.map_cons, List.map_nil, List.append_nil, Option.bind_some, List.toList_toArray, ↓reduceIte, Nat.reduceAdd, Nat.reduceLT, Nat.reduceLeDiff, Nat.reduceEqDiff, Nat.zero_add, Nat.mul_one, Nat.add_one_ne_zero, Bool.not_true, decide_true, ne_eq, not_false_eq_true, true_and, and_self, forall_const, reduceCtorEq, wrap_i64, gl0, Tryd.sz3, Tryd.ze3, Tryd.by3, Tryd.underlying38, e2]
              (repeat (refine ⟨by first | omega | (refine ⟨?_, ?_⟩ <;> omega) | trivial | (simp; done) | decide +kernel, fun _ => ?_⟩))
              intro c
              have hx := hy (pre.length + 1 + c) (by first | (simp; done) | (simp; omega))
              simp only [List.length_append, List.length_cons, List.length_nil, List.length_singleton, List.length_map, List.length_set, List.length_replicate, Nat.zero_add, Nat.add_zero, Int.natCast_add, Int.natCast_one, Int.ofNat_eq_natCast, List.map_append, List.map_cons, List.map_nil, List.take_length, eI, eB] at hx ⊢
              rw [et]
              refine Sat.via (fun i => if i = 1 then 3 else i) (hx) (by intro i j; (repeat (first | omega | split))) (by repeat' (first | exact EnvVia.nil | refine EnvVia.cons (by first | trivial | decide | (simp [SV.bnd, SV.bndL]; done)) rfl ?_)) (by repeat' (first | exact HeapVia.nil | refine HeapVia.cons (by decide) (by first | trivial | (simp [Blk.bnd, SV.bnd, SV.bndL]; done) | exact bndL_mapV _ _ _ | exact LR.bnd (by rw [l2]; simp [bndE, SV.bnd, SV.bndL]) (by rw [l6]; decide)) (by first | rfl | (simp only [Blk.ren, renL_mapV]; rfl) | (rw [LR.ren (by rw [l2] <;> rfl) (by rw [l6] <;> rfl)]; rfl)) ?_)) ⟨by have := hκ.hm; (try dsimp only at this); (first | done | omega), fun i hi => by have := hκ.hm; (try dsimp only at this); (first | omega | (dsimp only; omega) | (rw [if_neg (by omega)]))⟩ ⟨by simp, rfl⟩
            · rw [if_neg (fun h => e h.2), List.append_nil] at hy
              have hx := hy cap1 hcap1
              have e2 : (q = (d : Int)) = False := by first | (simp only [eq_iff_iff, iff_false]; first | assumption | omega) | (simp; omega)
              refine hκ.run 300 ?_
              simp (disch := omega) only [exec_succ, runR_next, runR_fork_false, runR_guard_tt, runR_stop, stepS, runOp, guardS, condS, toSR, sop, rOf, sPick, sInt, sBin, ev, Env.get, setO, OutOK_stop, undefS, undef, List.size_toArray, List.length_cons, List.length_nil, List.range, List.range.loop, List.getElem?_toArray, List.getElem?_cons_succ, List.getElem?_cons_zero, Option.bind_some, ↓reduceIte, Nat.reduceAdd, Nat.reduceLT, Nat.reduceEqDiff, Nat.zero_add, Bool.not_true, decide_false, and_self, wrap_i64, gl0, e2]
              exact hx.less (by repeat' (first | exact EnvSub.nil _ | exact HeapSub.nil _ | refine EnvSub.cons rfl ?_ | refine HeapSub.cons rfl ?_ | (refine EnvSub.cons (by simp [Env.get]; done) ?_) | (refine HeapSub.cons (by simp [Heap.get]; done) ?_))) (by repeat' (first | exact EnvSub.nil _ | exact HeapSub.nil _ | refine EnvSub.cons rfl ?_ | refine HeapSub.cons rfl ?_ | (refine EnvSub.cons (by simp [Env.get]; done) ?_) | (refine HeapSub.cons (by simp [Heap.get]; done) ?_)))
        · simp (disch := omega) only [exec_succ, runR_next, runR_stop, stepS, runOp, goS, toSR, sop, rOf, sInt, sBin, ev, Env.get, exitTo, OutOK_stop, List.size_toArray, List.length_cons, List.length_nil, List.range, List.range.loop, List.getElem?_toArray, List.getElem?_cons_succ, List.getElem?_cons_zero, ↓reduceIte, Nat.reduceAdd, Nat.reduceLT, Nat.reduceEqDiff, Nat.zero_add, beq_self_eq_true, wrap_i64]
          obtain rfl : k = l.length := by omega
          have hx := hz cap1 hcap1
          exact hx.less (by repeat' (first | exact EnvSub.nil _ | exact HeapSub.nil _ | refine EnvSub.cons rfl ?_ | refine HeapSub.cons rfl ?_ | (refine EnvSub.cons (by simp [Env.get]; done) ?_) | (refine HeapSub.cons (by simp [Heap.get]; done) ?_))) (by repeat' (first | exact EnvSub.nil _ | exact HeapSub.nil _ | refine EnvSub.cons rfl ?_ | refine HeapSub.cons rfl ?_ | (refine EnvSub.cons (by simp [Env.get]; done) ?_) | (refine HeapSub.cons (by simp [Heap.get]; done) ?_)))
    · simp (disch := omega) only [exec_succ, runR_next, runR_stop, stepS, runOp, goS, toSR, sop, rOf, ev, Env.get, exitTo, OutOK_stop, List.size_toArray, List.length_cons, List.length_nil, List.range, List.range.loop, List.getElem?_toArray, List.getElem?_cons_succ, List.getElem?_cons_zero, ↓reduceIte, Nat.reduceAdd, Nat.reduceLT, Nat.reduceEqDiff, Nat.zero_add, beq_self_eq_true]
      obtain rfl : d = 4 := by omega
      have et : List.take (bkt (farK l p) (wL s l.length) 4).length (List.map (eI .i64) (bkt (farK l p) (wL s l.length) 4)) = List.map (eI .i64) (bkt (farK l p) (wL s l.length) 4) := List.take_of_length_le (by simp)
      refine hκ.ret _ _ _ _ _ _ trivial rfl ?_
      refine Post.frz [1] (by first | (simp [lendPL, lendP, lendSlP, dropL, Heap.get, Heap.drop, resV]; done) | (simp [lendPL, lendP, lendSlP, dropL, Heap.get, Heap.drop, resV]; omega) | (simp [lendPL, lendP, lendSlP, dropL, Heap.get, Heap.drop, resV, -List.length_eq_zero_iff]; omega)) ?_
      simp only [resV, lendL, lendS, lendSl, dropL, Heap.drop, Heap.get, List.mem_singleton, List.mem_cons, List.not_mem_nil, or_false, or_true, true_or, List.drop_zero, Nat.reduceEqDiff, Nat.one_ne_zero, Nat.zero_ne_one, ↓reduceIte, et]
      exact .ret (by simp [SV.bnd, SV.bndL])
/-- The same ones are told. -/
theorem wL_all {l : List Sea} (h : okTs l = true) (s : Nat) : wL s l.length = bits (s &&& qset (fun _ => true) l) := by
  have hl := ((okTs_iff l).1 h).2.2
  rw [wL, bits]
  congr 1
  have e : List.range 8 = List.range l.length ++ (List.range (8 - l.length)).map (l.length + ·) := by
    rw [← List.range_add]; congr 1; omega
  rw [e, List.filter_append]
  have e2 : (((List.range (8 - l.length)).map (l.length + ·)).filter fun c => (s &&& qset (fun _ => true) l).testBit c) = [] := by
    rw [List.filter_eq_nil_iff]
    intro c hc h2
    obtain ⟨j, hj, rfl⟩ := List.mem_map.1 hc
    rw [Nat.testBit_and, qset, if_pos h, setK_bit, decide_eq_false (show ¬ (l.length + j < l.length) by omega)] at h2
    simp at h2
  rw [e2, List.append_nil]
  refine List.filter_congr fun j hj => ?_
  have hj := List.mem_range.1 hj
  rw [hasB_nat (by omega), Nat.testBit_and, qset, if_pos h, setK_bit, decide_eq_true hj]
  simp
theorem near_same {l : List Sea} (h : okTs l = true) (p s : Nat) : bkt (farK l p) (wL s l.length) 4 = nearL l p s := by
  rw [wL_all h, nearL, sort_all fun c _ => by have := distN_bd l p c.toNat; rw [farK]; omega]
end Go.Proofs.YtbgnnmlhpaaebaaDoor

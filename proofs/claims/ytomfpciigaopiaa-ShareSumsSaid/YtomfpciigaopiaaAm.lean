/- Who is full: the program's walk. No condition. -/
import Derived.Test.YtomfpciigaopiaaAl
namespace Go.Proofs.Ytomfpciigaopiaa
open Go Go.Sy
set_option maxRecDepth 100000
set_option linter.unusedSimpArgs false
set_option linter.unusedVariables false

abbrev fnOthers (i : Nat) : SV := .fn (.func 51) [] [.ptr i 0 0 0]
abbrev BI (r n cap : Nat) : Blk := .own [.sl r 1 0 n cap] 28
theorem sumF_ok (l : List Pt) (b : List Bool) (hr : rightP l = true) (hb : b.length = l.length) : Con Try.prog gl0 (fnv 29) [Ps l, fnOthers 1] 2 [(0, .row 1 l.length 4 (Bs b)), (1, BI 0 l.length l.length)] (RetS (I (wtF l b)) [(0, .row 1 l.length 4 (Bs b)), (1, BI 0 l.length l.length)] 2) := by
  obtain ⟨hn, hall, -⟩ := (rightP_iff l).1 hr
  refine Con.of Try.ok29 (nt := 23) (res := [.tmp 4]) Try.mixed Try.func29 rfl rfl rfl rfl fun κ xc hκ => hκ.run 300 ?_
  simp (disch := omega) only [sBuiltin, exec_succ, runR_next, runR_stop, stepS, runOp, toSR, sop, rOf, sLen, ev, Env.get, envOf, OutOK_stop, List.size_toArray, List.length_cons, List.length_nil, List.length_map, List.range, List.range.loop, List.getElem?_toArray, List.getElem?_cons_succ, List.getElem?_cons_zero, ↓reduceIte, Nat.reduceAdd, Nat.reduceLT, Nat.zero_add, Nat.add_one_ne_zero, gl0, Try.underlying22]
  refine Sat.less (Sat.loop (γ := Nat) (fun k => ([(10, I k), (9, I l.length), (8, Ps l), (5, I (sumZ zW (l.take k) (b.take k))), (1, fnOthers 1)], [(0, .row 1 l.length 4 (Bs b)), (1, BI 0 l.length l.length)], 2)) (fun k => l.length - k) (fun k => k ≤ l.length) ?round 0 (Nat.zero_le _)) (by repeat' (first | exact EnvSub.nil _ | exact HeapSub.nil _ | refine EnvSub.cons rfl ?_ | refine HeapSub.cons rfl ?_ | (refine EnvSub.cons (by simp [Env.get]; done) ?_) | (refine HeapSub.cons (by simp [Heap.get]; done) ?_))) (by repeat' (first | exact EnvSub.nil _ | exact HeapSub.nil _ | refine EnvSub.cons rfl ?_ | refine HeapSub.cons rfl ?_ | (refine EnvSub.cons (by simp [Env.get]; done) ?_) | (refine HeapSub.cons (by simp [Heap.get]; done) ?_)))
  case round =>
    intro k hk ih
    dsimp only at ih ⊢
    refine hκ.run 300 ?_
    simp (disch := omega) only [exec_succ, runR_next, stepS, runOp, condS, toSR, sop, sInt, sBin, ev, Env.get, List.size_toArray, List.length_cons, List.length_nil, List.range, List.range.loop, List.getElem?_toArray, List.getElem?_cons_zero, ↓reduceIte, Nat.reduceLT, Nat.reduceEqDiff, Nat.zero_add, gl0]
    refine OutOK_fork (fun h => ?_) (fun h => ?_) <;> try simp only [Bool.not_true, Bool.not_false, decide_eq_true_eq, decide_eq_false_iff_not, Bool.not_eq_true', Bool.not_eq_false', Bool.and_eq_true, Bool.or_eq_false_iff, Bool.or_eq_true, Bool.and_eq_false_iff] at h
    · have hz := ih (k + 1) (by omega) (by omega)
      rw [sumZ_take (by omega) hb] at hz
      have hp := (okP_iff _).1 (hall _ (getD_mem (show k < l.length by omega)))
      have hs := sumZ_bd (b := b.take k) (zW_bd (take_all hall k)) (by decide)
      rw [List.length_take] at hs
      have g1 : (List.map eP l).getD k [] = eP (l.getD k default) := getD_map _ _ _ (by omega)
      have g2 := Bs_get (b := b) (show k < b.length by omega)
      have hlen : (Bs b).length = l.length := by simp; omega
      generalize l.getD k default = p at *
      generalize b.getD k default = x at *
      generalize sumZ zW (l.take k) (b.take k) = n at *
      cases x
      · rw [show zW (p, false) = p.1 from rfl] at hz
        simp (disch := omega) only [exec_succ, runR_next, runR_need, runR_call, stepS, runOp, toSR, sop, rOf, rNew, sAlloc, sAlloc0, sLoadIn, sLoad, sStoreIn, sStore, sIndexAddr, elemT, obind, ev, evs, svs, Env.get, Heap.get, Heap.set, takeN, cut, over, paste, aggOf, cellsS, one, ones, Value.oneCell', OutOK_need, OutOK_call, undefS, undef, List.size_toArray, List.length_cons, List.length_nil, List.length_map, List.range, List.range.loop, List.getElem?_toArray, List.getElem?_cons_succ, List.getElem?_cons_zero, List.map_cons, List.map_nil, ↓reduceIte, Nat.reduceAdd, Nat.reduceLT, Nat.reduceEqDiff, Nat.zero_add, Int.toNat_natCast, true_and, and_self, forall_const, Try.underlying22, Try.sz54, Try.ag54, Try.ze54, Try.ar54, g1, eP]
        (repeat (refine ⟨by first | omega | (refine ⟨?_, ?_⟩ <;> omega) | trivial | (simp; done) | decide +kernel, fun _ => ?_⟩))
        refine Does.inlc hκ.hP hκ.hgl Try.ok51 (nt := 12) (res := [.tmp 5]) Try.mixed Try.func51 rfl rfl rfl rfl fun κ_h2 x_h2 h2 => h2.run 300 ?_
        simp (disch := omega) only [exec_succ, runR_next, runR_need, runR_fork_false, runR_stop, stepS, runOp, condS, toSR, sop, rOf, rNew, sBox, isArr, sLoadIn, sLoad, sFieldAddr, sIndexAddr, elemT, obind, ev, Env.get, Heap.get, takeN, cut, aggOf, cellsS, envOf, OutOK_need, OutOK_stop, Bool.false_eq_true, List.size_toArray, List.length_cons, List.length_nil, List.range, List.range.loop, List.getElem?_toArray, List.getElem?_cons_succ, List.getElem?_cons_zero, List.cons_append, List.nil_append, ↓reduceIte, Nat.reduceAdd, Nat.reduceLT, Nat.reduceEqDiff, Nat.zero_add, Nat.add_zero, Nat.add_one_ne_zero, Int.toNat_natCast, reduceCtorEq, gl0, Try.sz3, Try.ag3, Try.sz4, Try.ag4, Try.underlying28, Try.sz28, Try.ag28, Try.fd54f0, g2, hlen]
        (repeat (refine ⟨by first | omega | (refine ⟨?_, ?_⟩ <;> omega) | trivial | (simp; done) | decide +kernel, fun _ => ?_⟩))
        refine h2.ret _ _ _ _ _ _ trivial rfl ?_
        refine hκ.run 300 ?_
        simp (disch := omega) only [exec_succ, runR_next, runR_stop, stepS, runOp, toSR, sop, rOf, sInt, sBin, ev, Env.get, setO, OutOK_stop, dropL, resV, List.size_toArray, List.length_cons, List.length_nil, List.range, List.range.loop, List.getElem?_toArray, List.getElem?_cons_succ, List.getElem?_cons_zero, ↓reduceIte, Nat.reduceAdd, Nat.reduceLT, Nat.reduceEqDiff, Nat.zero_add, wrap_i64, gl0]
        (repeat (refine ⟨by first | omega | (refine ⟨?_, ?_⟩ <;> omega) | trivial | (simp; done) | decide +kernel, fun _ => ?_⟩))
        refine Sat.via (fun i => i) (hz) (by intro i j; (repeat (first | omega | split))) (by repeat' (first | exact EnvVia.nil | refine EnvVia.cons (by first | trivial | decide | (simp [SV.bnd, SV.bndL]; done)) rfl ?_)) (by repeat' (first | exact HeapVia.nil | refine HeapVia.cons (by decide) (by first | trivial | (simp [Blk.bnd, SV.bnd, SV.bndL]; done) | exact bndL_mapV _ _ _ | exact LR.bnd (by rw [l2]; simp [bndE, SV.bnd, SV.bndL]) (by rw [l6]; decide)) (by first | rfl | (simp only [Blk.ren, renL_mapV]; rfl) | (rw [LR.ren (by rw [l2] <;> rfl) (by rw [l6] <;> rfl)]; rfl)) ?_)) ⟨by have := hκ.hm; (try dsimp only at this); (first | done | omega), fun i hi => by have := hκ.hm; (try dsimp only at this); (first | omega | (dsimp only; omega) | (rw [if_neg (by omega)]))⟩ ⟨by simp, rfl⟩
      · rw [show zW (p, true) = 0 from rfl, Int.add_zero] at hz
        simp (disch := omega) only [exec_succ, runR_next, runR_need, runR_call, stepS, runOp, toSR, sop, rOf, rNew, sAlloc, sAlloc0, sLoadIn, sLoad, sStoreIn, sStore, sIndexAddr, elemT, obind, ev, evs, svs, Env.get, Heap.get, Heap.set, takeN, cut, over, paste, aggOf, cellsS, one, ones, Value.oneCell', OutOK_need, OutOK_call, undefS, undef, List.size_toArray, List.length_cons, List.length_nil, List.length_map, List.range, List.range.loop, List.getElem?_toArray, List.getElem?_cons_succ, List.getElem?_cons_zero, List.map_cons, List.map_nil, ↓reduceIte, Nat.reduceAdd, Nat.reduceLT, Nat.reduceEqDiff, Nat.zero_add, Int.toNat_natCast, true_and, and_self, forall_const, Try.underlying22, Try.sz54, Try.ag54, Try.ze54, Try.ar54, g1, eP]
        (repeat (refine ⟨by first | omega | (refine ⟨?_, ?_⟩ <;> omega) | trivial | (simp; done) | decide +kernel, fun _ => ?_⟩))
        refine Does.inlc hκ.hP hκ.hgl Try.ok51 (nt := 12) (res := [.tmp 5]) Try.mixed Try.func51 rfl rfl rfl rfl fun κ_h2 x_h2 h2 => h2.run 300 ?_
        simp (disch := omega) only [exec_succ, runR_next, runR_need, runR_fork_true, runR_stop, stepS, runOp, condS, toSR, sop, rOf, rNew, sBox, isArr, sLoadIn, sLoad, sIndexAddr, elemT, obind, ev, Env.get, Heap.get, takeN, cut, aggOf, cellsS, envOf, OutOK_need, OutOK_stop, Bool.false_eq_true, List.size_toArray, List.length_cons, List.length_nil, List.range, List.range.loop, List.getElem?_toArray, List.getElem?_cons_succ, List.getElem?_cons_zero, List.cons_append, List.nil_append, ↓reduceIte, Nat.reduceAdd, Nat.reduceLT, Nat.reduceEqDiff, Nat.zero_add, Nat.add_one_ne_zero, Int.toNat_natCast, reduceCtorEq, gl0, Try.sz4, Try.ag4, Try.underlying28, Try.sz28, Try.ag28, g2, hlen]
        (repeat (refine ⟨by first | omega | (refine ⟨?_, ?_⟩ <;> omega) | trivial | (simp; done) | decide +kernel, fun _ => ?_⟩))
        refine h2.ret _ _ _ _ _ _ trivial rfl ?_
        refine hκ.run 300 ?_
        simp (disch := omega) only [exec_succ, runR_next, runR_stop, stepS, runOp, toSR, sop, rOf, sInt, sBin, ev, Env.get, setO, OutOK_stop, dropL, resV, Int.add_zero, List.size_toArray, List.length_cons, List.length_nil, List.range, List.range.loop, List.getElem?_toArray, List.getElem?_cons_succ, List.getElem?_cons_zero, ↓reduceIte, Nat.reduceAdd, Nat.reduceLT, Nat.reduceEqDiff, Nat.zero_add, wrap_i64, gl0]
        (repeat (refine ⟨by first | omega | (refine ⟨?_, ?_⟩ <;> omega) | trivial | (simp; done) | decide +kernel, fun _ => ?_⟩))
        refine Sat.via (fun i => i) (hz) (by intro i j; (repeat (first | omega | split))) (by repeat' (first | exact EnvVia.nil | refine EnvVia.cons (by first | trivial | decide | (simp [SV.bnd, SV.bndL]; done)) rfl ?_)) (by repeat' (first | exact HeapVia.nil | refine HeapVia.cons (by decide) (by first | trivial | (simp [Blk.bnd, SV.bnd, SV.bndL]; done) | exact bndL_mapV _ _ _ | exact LR.bnd (by rw [l2]; simp [bndE, SV.bnd, SV.bndL]) (by rw [l6]; decide)) (by first | rfl | (simp only [Blk.ren, renL_mapV]; rfl) | (rw [LR.ren (by rw [l2] <;> rfl) (by rw [l6] <;> rfl)]; rfl)) ?_)) ⟨by have := hκ.hm; (try dsimp only at this); (first | done | omega), fun i hi => by have := hκ.hm; (try dsimp only at this); (first | omega | (dsimp only; omega) | (rw [if_neg (by omega)]))⟩ ⟨by simp, rfl⟩
    · simp (disch := omega) only [exec_succ, runR_next, runR_stop, stepS, runOp, goS, toSR, sop, rOf, ev, Env.get, exitTo, OutOK_stop, List.size_toArray, List.length_cons, List.length_nil, List.range, List.range.loop, List.getElem?_toArray, List.getElem?_cons_succ, List.getElem?_cons_zero, ↓reduceIte, Nat.reduceAdd, Nat.reduceLT, Nat.reduceEqDiff, Nat.zero_add, beq_self_eq_true]
      obtain rfl : k = l.length := by omega
      rw [List.take_length, List.take_of_length_le (by omega)]
      refine hκ.ret _ _ _ _ _ _ trivial rfl ?_
      exact Post.look (by simp [SV.bnd]) (by repeat' (first | exact HeapVia.nil | refine HeapVia.cons (by decide) (by first | trivial | (simp [Blk.bnd, SV.bnd, SV.bndL]; done) | exact bndL_mapV _ _ _ | exact LR.bnd (by rw [l2]; simp [bndE, SV.bnd, SV.bndL]) (by rw [l6]; decide)) (by first | rfl | (simp only [Blk.ren, renL_mapV]; rfl) | (rw [LR.ren (by rw [l2] <;> rfl) (by rw [l6] <;> rfl)]; rfl)) ?_))
theorem Bs_no (l : List Pt) : List.replicate l.length [SV.v (.bool false)] = Bs (no0 l) := by rw [Bs, no0, List.map_replicate]
theorem mix_flag {a b : List Bool} {n k : Nat} (ha : a.length = n) (hb : b.length = n) (hk : k < n) (h : a.getD k default = true) (h2 : b.getD k default = false) : decide (mixB a b (k + 1) ≠ b) = true := decide_eq_true fun e => by
  have := mixB_get ha hb (show k + 1 ≤ n by omega) hk
  rw [e, if_pos (by omega), h, h2] at this; cases this
/-- What is changed. -/
def chB (a b : List Bool) (k : Nat) : Bool := decide (mixB a b k ≠ b)
theorem chB_zero (a b : List Bool) : chB a b 0 = false := by rw [chB, mixB_zero]; simp
set_option maxHeartbeats 4000000 in
theorem full_ok (l : List Pt) (m : Int) (hr : rightP l = true) (hm : 1 ≤ m ∧ m ≤ 8) : Con Try.prog gl0 (fnv 34) [Ps l, I m] 0 [] (Ret (.tup [.rd 1 (Bs (fullV l m)), I (max (leftF l (fullV l m) m) 0), I (wtF l (fullV l m))])) := by
  obtain ⟨hn, hall, -⟩ := (rightP_iff l).1 hr
  have hV : fullN l m l.length (no0 l) = fullV l m := rfl
  have hVl := fullV_len l m
  have hleft := left_no (l := l) (m := m)
  generalize fullV l m = V at *
  refine Con.of Try.ok34 (nt := 79) (res := [.tmp 4, .tmp 5, .tmp 6]) Try.mixed Try.func34 rfl rfl rfl rfl fun κ xc hκ => hκ.run 300 ?_
  simp (disch := omega) only [sBuiltin, sMakeSlice, exec_succ, runR_next, runR_need, runR_stop, stepS, runOp, toSR, sop, rOf, rNew, sAlloc, sAlloc0, sStoreIn, sStore, sMakeFunc, sLen, sliceT, obind, ev, evs, svs, Env.get, Heap.get, Heap.set, over, paste, cellsS, one, ones, envOf, Value.oneCell', OutOK_need, OutOK_stop, undefS, undef, Int.cast_ofNat_Int, List.all_cons, List.all_nil, Bool.and_true, List.size_toArray, List.length_cons, List.length_nil, List.length_map, List.range, List.range.loop, List.getElem?_toArray, List.getElem?_cons_succ, List.getElem?_cons_zero, List.map_cons, List.map_nil, ↓reduceIte, Nat.reduceAdd, Nat.reduceLT, Nat.reduceEqDiff, Nat.zero_add, Nat.add_one_ne_zero, Int.toNat_natCast, and_true, true_and, and_self, forall_const, reduceCtorEq, gl0, Try.sz4, Try.ze4, Try.by4, Try.underlying22, Try.underlying28, Try.sz28, Try.ze28, Try.ar28]
  (repeat (refine ⟨by first | omega | (refine ⟨?_, ?_⟩ <;> omega) | trivial | (simp; done) | decide +kernel, fun _ => ?_⟩))
  rw [Bs_no]
  refine Sat.less (Sat.loop (γ := Nat × List Bool) (fun k => ([(23, I k.1), (22, I l.length), (9, fnOthers 1), (8, I (leftF l k.2 m)), (7, .ptr 1 0 0 0), (1, I m), (0, Ps l)], [(1, BI 0 l.length l.length), (0, .row 1 l.length 4 (Bs k.2))], 2)) (fun k => l.length - k.1) (fun k => k.1 ≤ l.length ∧ k.2.length = l.length ∧ fullN l m (l.length - k.1) k.2 = V) ?round (0, no0 l) ⟨Nat.zero_le _, no0_len l, hV⟩) (by rw [hleft]; exact (by repeat' (first | exact EnvSub.nil _ | exact HeapSub.nil _ | refine EnvSub.cons rfl ?_ | refine HeapSub.cons rfl ?_ | (refine EnvSub.cons (by simp [Env.get]; done) ?_) | (refine HeapSub.cons (by simp [Heap.get]; done) ?_)))) (by repeat' (first | exact EnvSub.nil _ | exact HeapSub.nil _ | refine EnvSub.cons rfl ?_ | refine HeapSub.cons rfl ?_ | (refine EnvSub.cons (by simp [Env.get]; done) ?_) | (refine HeapSub.cons (by simp [Heap.get]; done) ?_)))
  case round =>
    rintro ⟨n, b⟩ ⟨hk, hb, hfn⟩ ih
    dsimp only at hk hb hfn ih ⊢
    refine hκ.run 300 ?_
    simp (disch := omega) only [exec_succ, runR_next, stepS, runOp, condS, toSR, sop, sInt, sBin, ev, Env.get, List.size_toArray, List.length_cons, List.length_nil, List.range, List.range.loop, List.getElem?_toArray, List.getElem?_cons_zero, ↓reduceIte, Nat.reduceLT, Nat.reduceEqDiff, Nat.zero_add, gl0]
    refine OutOK_fork (fun h => ?_) (fun h => ?_) <;> try simp only [Bool.not_true, Bool.not_false, decide_eq_true_eq, decide_eq_false_iff_not, Bool.not_eq_true', Bool.not_eq_false', Bool.and_eq_true, Bool.or_eq_false_iff, Bool.or_eq_true, Bool.and_eq_false_iff] at h
    · rw [show l.length - n = (l.length - n - 1) + 1 by omega, fullN] at hfn
      have hz := fun b h1 h2 => ih (n + 1, b) ⟨by dsimp only; omega, h1, h2⟩ (by dsimp only; omega)
      dsimp only at hz
      rw [show l.length - (n + 1) = l.length - n - 1 by omega] at hz
      have hL := leftF_bd (b := b) (m := m) hr
      have hW := wtF_bd (b := b) hr
      have ha : (stepF l m b).length = l.length := stepF_len hb
      have hget := fun k hk => stepF_get (l := l) (m := m) (b := b) (k := k) hk hb
      have c1 := sumF_ok l b hr hb
      generalize stepF l m b = a at *
      generalize wtF l b = w at *
      simp (disch := omega) only [exec_succ, runR_next, runR_call, stepS, runOp, toSR, sop, rOf, ev, evs, Env.get, OutOK_call, List.size_toArray, List.length_cons, List.length_nil, List.range, List.range.loop, List.getElem?_toArray, List.getElem?_cons_succ, List.getElem?_cons_zero, ↓reduceIte, Nat.reduceAdd, Nat.reduceLT, Nat.reduceEqDiff, Nat.zero_add, Nat.add_one_ne_zero]
      (repeat (refine ⟨by first | omega | (refine ⟨?_, ?_⟩ <;> omega) | trivial | (simp; done) | decide +kernel, fun _ => ?_⟩))
      refine (Does.look hκ.hP hκ.hgl 2 (fun i => i) [0, 1] [Ps l, fnOthers 1] [(0, .row 1 l.length 4 (Bs b)), (1, BI 0 l.length l.length)] (c1) rfl ⟨trivial, by simp [SV.bnd, SV.bndL, eP], by simp [SV.bnd, SV.bndL]⟩ (by intro i hi; (repeat (first | omega | (dsimp only; omega) | split))) (by intro i j; (repeat (first | omega | split))) (by repeat' (first | exact HeapIn.nil | refine HeapIn.cons (by decide) (by simp [Blk.bnd, SV.bnd, SV.bndL, eP]) (by simp) rfl ?_)) (by repeat' (first | exact Once.nil | refine Once.cons (by simp) ?_)) ?_)
      simp only [renH, Blk.ren, SV.renL, SV.ren, tau, without, List.mem_singleton, List.mem_cons, List.not_mem_nil, or_false, or_true, true_or, Nat.reduceEqDiff, Nat.reduceLT, Nat.zero_lt_one, Nat.one_ne_zero, Nat.zero_ne_one, Nat.zero_lt_succ, ↓reduceIte, List.cons_append, List.nil_append, List.append_nil]
      refine hκ.run 300 ?_
      simp (disch := omega) only [sBuiltin, srcS, appArgS, sAppendTo, sAppend, exec_succ, runR_next, runR_need, runR_all, runR_stop, stepS, runOp, toSR, sop, rOf, rNew, sLoadIn, sLoad, sLen, sliceT, obind, fillS, evps, repeatL, sBuildSlice, chunk, ev, svs, Env.get, Heap.get, Heap.drop, takeN, cut, aggOf, ones, idFrees, setO, OutOK_need, OutOK_all, OutOK_stop, List.drop_zero, List.take_nil, List.size_toArray, List.length_cons, List.length_nil, List.length_map, List.range, List.range.loop, List.getElem?_toArray, List.getElem?_cons_succ, List.getElem?_cons_zero, List.map_nil, List.nil_append, ↓reduceIte, Nat.reduceAdd, Nat.reduceLT, Nat.reduceLeDiff, Nat.reduceEqDiff, Nat.zero_add, Nat.mul_one, Nat.add_one_ne_zero, ne_eq, true_and, and_self, forall_const, reduceCtorEq, gl0, Try.sz4, Try.ze4, Try.by4, Try.underlying22, Try.underlying28, Try.sz28, Try.ag28]
      have et : List.take l.length (Bs b) = Bs b := List.take_of_length_le (by simp; omega)
      have hlen : (Bs b).length = l.length := by simp; omega
      rw [et]
      refine ⟨⟨⟨by omega, Nat.le_refl _, by omega⟩, by omega, by omega⟩, fun _ => ?_⟩
      intro cap
      rw [hlen]
      refine Sat.less (Sat.loop (γ := Nat) (fun k => ([(34, I k), (33, I l.length), (32, Ps l), (13, .sl 3 1 0 l.length (l.length + cap)), (12, Bo (chB a b k)), (11, I (leftF l b m)), (10, I w), (8, I (leftF l (mixB a b k) m)), (23, I n), (22, I l.length), (9, fnOthers 1), (7, .ptr 1 0 0 0), (1, I m), (0, Ps l)], [(3, .row 1 (l.length + cap) 4 (Bs (mixB a b k))), (0, .row 1 l.length 4 (Bs b)), (1, BI 0 l.length l.length)], 4)) (fun k => l.length - k) (fun k => k ≤ l.length) ?round2 0 (Nat.zero_le _)) (by rw [chB_zero, mixB_zero]; exact (by repeat' (first | exact EnvSub.nil _ | exact HeapSub.nil _ | refine EnvSub.cons rfl ?_ | refine HeapSub.cons rfl ?_ | (refine EnvSub.cons (by simp [Env.get]; done) ?_) | (refine HeapSub.cons (by simp [Heap.get]; done) ?_)))) (by rw [mixB_zero]; exact (by repeat' (first | exact EnvSub.nil _ | exact HeapSub.nil _ | refine EnvSub.cons rfl ?_ | refine HeapSub.cons rfl ?_ | (refine EnvSub.cons (by simp [Env.get]; done) ?_) | (refine HeapSub.cons (by simp [Heap.get]; done) ?_))))
      case round2 =>
        intro k hk2 ih2
        dsimp only at ih2 ⊢
        refine hκ.run 300 ?_
        simp (disch := omega) only [exec_succ, runR_next, stepS, runOp, condS, toSR, sop, sInt, sBin, ev, Env.get, List.size_toArray, List.length_cons, List.length_nil, List.range, List.range.loop, List.getElem?_toArray, List.getElem?_cons_zero, ↓reduceIte, Nat.reduceLT, Nat.reduceEqDiff, Nat.zero_add, gl0]
        refine OutOK_fork (fun h => ?_) (fun h => ?_) <;> try simp only [Bool.not_true, Bool.not_false, decide_eq_true_eq, decide_eq_false_iff_not, Bool.not_eq_true', Bool.not_eq_false', Bool.and_eq_true, Bool.or_eq_false_iff, Bool.or_eq_true, Bool.and_eq_false_iff] at h
        · have hz2 := ih2 (k + 1) (by omega) (by omega)
          have hp := (okP_iff _).1 (hall _ (getD_mem (show k < l.length by omega)))
          have g1 : (List.map eP l).getD k [] = eP (l.getD k default) := getD_map _ _ _ (by omega)
          have g2 := Bs_get (b := b) (show k < b.length by omega)
          have hg := hget k (by omega)
          have hmr := leftF_bd (b := mixB a b k) (m := m) hr
          have hml := mixB_len ha hb (show k ≤ l.length by omega)
          have g3 := Bs_get (b := mixB a b k) (show k < (mixB a b k).length by omega)
          have hmg := mixB_get ha hb (show k ≤ l.length by omega) (show k < l.length by omega)
          rw [if_neg (Nat.lt_irrefl _)] at hmg
          have b1 := smul_bd (A := 65535) (B := 64) (show 0 ≤ (l.getD k default).1 by omega) hp.1.2 (show -64 ≤ leftF l b m by omega) (by omega) (by decide)
          have b2 := mul_bd (by omega) hp.2.2 hW.1 hW.2
          have hlen2 : (Bs (mixB a b k)).length = l.length := by simp; omega
          cases hx : b.getD k default
          · rw [hx] at g2 hg hmg
            rw [hmg] at g3
            by_cases hc : (l.getD k default).2 * w ≤ (l.getD k default).1 * leftF l b m
            · rw [decide_eq_true hc, Bool.false_or] at hg
              have hs := mixB_set ha hb (show k < l.length by omega) hg
              have hls := leftF_set (m := m) (show k < l.length by omega) hml hmg
              rw [hs] at hls
              have hbs : (Bs (mixB a b k)).set k [Bo true] = Bs (mixB a b (k + 1)) := by
                rw [← hs, Bs, Bs, List.map_set]
              have hf := mix_flag ha hb (show k < l.length by omega) hg hx
              rw [chB, hf, hls] at hz2
              simp (disch := omega) only [exec_succ, runR_next, runR_need, runR_fork_true, runR_guard_tt, runR_stop, stepS, runOp, guardS, condS, toSR, sop, rOf, rNew, sPick, sAlloc, sAlloc0, sLoadIn, sLoad, sStoreIn, sStore, sInt, sBin, sUn, sFieldAddr, sIndexAddr, elemT, obind, ev, svs, Env.get, Heap.get, Heap.set, takeN, cut, over, paste, aggOf, cellsS, one, ones, idFree, idFrees, Value.cells, Value.oneCell', OutOK_need, OutOK_stop, undefS, undef, Bool.and_true, List.size_toArray, List.length_cons, List.length_nil, List.length_map, List.range, List.range.loop, List.getElem?_toArray, List.getElem?_cons_succ, List.getElem?_cons_zero, List.map_cons, List.map_nil, Option.bind_some, List.toList_toArray, ↓reduceIte, Nat.reduceAdd, Nat.reduceLT, Nat.reduceEqDiff, Nat.zero_add, Nat.add_zero, Nat.add_one_ne_zero, Int.toNat_natCast, Bool.not_true, Bool.not_false, decide_true, and_true, true_and, and_self, forall_const, reduceCtorEq, wrap_i64, Try.sz3, Try.ag3, Try.sz4, Try.ag4, Try.underlying22, Try.underlying28, Try.sz28, Try.ag28, Try.sz54, Try.ag54, Try.ze54, Try.ar54, Try.fd54f0, Try.fd54f1, g1, g2, g3, eP, hlen, hlen2, hc, hbs]
              (repeat (refine ⟨by first | omega | (refine ⟨?_, ?_⟩ <;> omega) | trivial | (simp; done) | decide +kernel, fun _ => ?_⟩))
              refine Sat.via (fun i => i) (hz2) (by intro i j; (repeat (first | omega | split))) (by repeat' (first | exact EnvVia.nil | refine EnvVia.cons (by first | trivial | decide | (simp [SV.bnd, SV.bndL]; done)) rfl ?_)) (by repeat' (first | exact HeapVia.nil | refine HeapVia.cons (by decide) (by first | trivial | (simp [Blk.bnd, SV.bnd, SV.bndL]; done) | exact bndL_mapV _ _ _ | exact LR.bnd (by rw [l2]; simp [bndE, SV.bnd, SV.bndL]) (by rw [l6]; decide)) (by first | rfl | (simp only [Blk.ren, renL_mapV]; rfl) | (rw [LR.ren (by rw [l2] <;> rfl) (by rw [l6] <;> rfl)]; rfl)) ?_)) ⟨by have := hκ.hm; (try dsimp only at this); (first | done | omega), fun i hi => by have := hκ.hm; (try dsimp only at this); (first | omega | (dsimp only; omega) | (rw [if_neg (by omega)]))⟩ ⟨by simp, rfl⟩
            · rw [decide_eq_false hc, Bool.false_or] at hg
              have hs := mixB_same ha hb (show k < l.length by omega) (hg.trans hx.symm)
              rw [chB, hs, ← chB] at hz2
              simp (disch := omega) only [exec_succ, runR_next, runR_need, runR_fork_false, runR_guard_tt, runR_stop, stepS, runOp, guardS, condS, toSR, sop, rOf, rNew, sPick, sAlloc, sAlloc0, sLoadIn, sLoad, sStoreIn, sStore, sInt, sBin, sUn, sFieldAddr, sIndexAddr, elemT, obind, ev, svs, Env.get, Heap.get, Heap.set, takeN, cut, over, paste, aggOf, cellsS, one, ones, Value.oneCell', OutOK_need, OutOK_stop, undefS, undef, List.size_toArray, List.length_cons, List.length_nil, List.length_map, List.range, List.range.loop, List.getElem?_toArray, List.getElem?_cons_succ, List.getElem?_cons_zero, List.map_cons, List.map_nil, Option.bind_some, ↓reduceIte, Nat.reduceAdd, Nat.reduceLT, Nat.reduceEqDiff, Nat.zero_add, Nat.add_zero, Nat.add_one_ne_zero, Int.toNat_natCast, Bool.not_true, Bool.not_false, decide_false, true_and, and_self, forall_const, reduceCtorEq, wrap_i64, Try.sz3, Try.ag3, Try.sz4, Try.ag4, Try.underlying22, Try.underlying28, Try.sz28, Try.ag28, Try.sz54, Try.ag54, Try.ze54, Try.ar54, Try.fd54f0, Try.fd54f1, g1, g2, eP, hlen, hc]
              (repeat (refine ⟨by first | omega | (refine ⟨?_, ?_⟩ <;> omega) | trivial | (simp; done) | decide +kernel, fun _ => ?_⟩))
              refine Sat.via (fun i => i) (hz2) (by intro i j; (repeat (first | omega | split))) (by repeat' (first | exact EnvVia.nil | refine EnvVia.cons (by first | trivial | decide | (simp [SV.bnd, SV.bndL]; done)) rfl ?_)) (by repeat' (first | exact HeapVia.nil | refine HeapVia.cons (by decide) (by first | trivial | (simp [Blk.bnd, SV.bnd, SV.bndL]; done) | exact bndL_mapV _ _ _ | exact LR.bnd (by rw [l2]; simp [bndE, SV.bnd, SV.bndL]) (by rw [l6]; decide)) (by first | rfl | (simp only [Blk.ren, renL_mapV]; rfl) | (rw [LR.ren (by rw [l2] <;> rfl) (by rw [l6] <;> rfl)]; rfl)) ?_)) ⟨by have := hκ.hm; (try dsimp only at this); (first | done | omega), fun i hi => by have := hκ.hm; (try dsimp only at this); (first | omega | (dsimp only; omega) | (rw [if_neg (by omega)]))⟩ ⟨by simp, rfl⟩
          · rw [hx] at g2 hg hmg
            rw [Bool.true_or] at hg
            have hs := mixB_same ha hb (show k < l.length by omega) (hg.trans hx.symm)
            rw [chB, hs, ← chB] at hz2
            simp (disch := omega) only [exec_succ, runR_next, runR_need, runR_fork_false, runR_guard_ft, runR_stop, stepS, runOp, guardS, condS, toSR, sop, rOf, rNew, sPick, sAlloc, sAlloc0, sLoadIn, sLoad, sStoreIn, sStore, sInt, sBin, sUn, sFieldAddr, sIndexAddr, elemT, obind, ev, svs, Env.get, Heap.get, Heap.set, takeN, cut, over, paste, aggOf, cellsS, one, ones, Value.oneCell', OutOK_need, OutOK_stop, undefS, undef, List.size_toArray, List.length_cons, List.length_nil, List.length_map, List.range, List.range.loop, List.getElem?_toArray, List.getElem?_cons_succ, List.getElem?_cons_zero, List.map_cons, List.map_nil, Option.bind_some, ↓reduceIte, Nat.reduceAdd, Nat.reduceLT, Nat.reduceEqDiff, Nat.zero_add, Nat.add_zero, Nat.add_one_ne_zero, Int.toNat_natCast, Bool.not_true, true_and, and_self, forall_const, reduceCtorEq, wrap_i64, Try.sz4, Try.ag4, Try.underlying22, Try.underlying28, Try.sz28, Try.ag28, Try.sz54, Try.ag54, Try.ze54, Try.ar54, Try.fd54f0, Try.fd54f1, g1, g2, eP, hlen]
            (repeat (refine ⟨by first | omega | (refine ⟨?_, ?_⟩ <;> omega) | trivial | (simp; done) | decide +kernel, fun _ => ?_⟩))
            refine Sat.via (fun i => i) (hz2) (by intro i j; (repeat (first | omega | split))) (by repeat' (first | exact EnvVia.nil | refine EnvVia.cons (by first | trivial | decide | (simp [SV.bnd, SV.bndL]; done)) rfl ?_)) (by repeat' (first | exact HeapVia.nil | refine HeapVia.cons (by decide) (by first | trivial | (simp [Blk.bnd, SV.bnd, SV.bndL]; done) | exact bndL_mapV _ _ _ | exact LR.bnd (by rw [l2]; simp [bndE, SV.bnd, SV.bndL]) (by rw [l6]; decide)) (by first | rfl | (simp only [Blk.ren, renL_mapV]; rfl) | (rw [LR.ren (by rw [l2] <;> rfl) (by rw [l6] <;> rfl)]; rfl)) ?_)) ⟨by have := hκ.hm; (try dsimp only at this); (first | done | omega), fun i hi => by have := hκ.hm; (try dsimp only at this); (first | omega | (dsimp only; omega) | (rw [if_neg (by omega)]))⟩ ⟨by simp, rfl⟩
        · obtain rfl : k = l.length := by omega
          have hlen2 : (Bs a).length = l.length := by simp; omega
          have et2 : List.take l.length (Bs a) = Bs a := List.take_of_length_le (by omega)
          have hd : List.drop l.length (Bs b) = [] := List.drop_of_length_le (by omega)
          rw [chB, mixB_full ha hb]
          have hL2 := leftF_bd (b := a) (m := m) hr
          by_cases he : a = b
          · rw [if_pos (.inl he)] at hfn
            subst hfn
            rw [decide_eq_false (show ¬ a ≠ b from fun h => h he)]
            simp (disch := omega) only [sBuiltin, srcS, sCopy, allQuiet, quietOp, drawS, exec_succ, runR_next, runR_need, runR_fork_true, runR_guard_tf, runR_stop, stepS, runOp, guardS, condS, goS, toSR, sop, rOf, sPick, sLoadIn, sLoad, sBin, sUn, sliceT, obind, ev, Env.get, Heap.get, Heap.set, takeN, cut, aggOf, exitTo, OutOK_need, OutOK_stop, Option.isNone_none, undefS, undef, Bool.and_true, Bool.and_false, List.drop_zero, List.take_zero, Bool.false_eq_true, List.size_toArray, List.length_cons, List.length_nil, List.range, List.range.loop, List.getElem?_toArray, List.getElem?_cons_succ, List.getElem?_cons_zero, List.append_nil, List.nil_append, Option.bind_some, ↓reduceIte, Nat.reduceAdd, Nat.reduceLT, Nat.reduceEqDiff, Nat.zero_add, Nat.add_one_ne_zero, Nat.reduceBEq, Bool.not_false, beq_self_eq_true, ne_eq, and_self, reduceCtorEq, Try.sz4, Try.underlying28, Try.sz28, Try.ag28, hlen, hlen2, et2, Nat.min_self, hd]
            (repeat (refine ⟨by first | omega | (refine ⟨?_, ?_⟩ <;> omega) | trivial | (simp; done) | decide +kernel, fun _ => ?_⟩))
            have c9 := sumF_ok l a hr ha
            refine hκ.draw (.q 0 (.q 1 (.q 2 (.q 3 (.q 4 (.l 5 [0] (.q 6 (.q 7 (.q 8 (.fin)))))))))) [0, 1, 2, 3, 4, 6, 7, 8] (by kernel_rfl) (by kernel_rfl) rfl ?_
            simp (disch := omega) only [sBuiltin, sMinMax, sop, rOf, sLoadIn, sLoad, ev, evs, Env.get, Heap.get, takeN, cut, aggOf, setO, drawP_q, drawP_l, dq, dqn, dl, guardP, R1Q, dstOK, loudP, List.getElem?_toArray, List.getElem?_cons_succ, List.getElem?_cons_zero, List.map_cons, List.map_nil, ↓reduceIte, Nat.reduceLT, Nat.reduceEqDiff, Nat.add_one_ne_zero, true_and, reduceCtorEq, gl0, Try.sz28, Try.ag28]
            refine DCall.of (Does.look hκ.hP hκ.hgl 2 (fun i => i) [0, 1] [Ps l, fnOthers 1] [(0, .row 1 l.length 4 (Bs a)), (1, BI 0 l.length l.length)] (c9) rfl ⟨trivial, by simp [SV.bnd, SV.bndL, eP], by simp [SV.bnd, SV.bndL]⟩ (by intro i hi; (repeat (first | omega | (dsimp only; omega) | split))) (by intro i j; (repeat (first | omega | split))) (by repeat' (first | exact HeapIn.nil | refine HeapIn.cons (by decide) (by simp [Blk.bnd, SV.bnd, SV.bndL, eP]) (by simp) rfl ?_)) (by repeat' (first | exact Once.nil | refine Once.cons (by simp) ?_)) ?_)
            simp only [renH, Blk.ren, SV.renL, SV.ren, tau, without, List.mem_singleton, List.mem_cons, List.not_mem_nil, or_false, or_true, true_or, Nat.reduceEqDiff, Nat.reduceLT, Nat.zero_lt_one, Nat.one_ne_zero, Nat.zero_ne_one, Nat.zero_lt_succ, ↓reduceIte, List.cons_append, List.nil_append, List.append_nil]
            simp (disch := omega) only [sop, rOf, sLoadIn, sLoad, ev, Env.get, Heap.get, takeN, cut, aggOf, setO, drawP_fin, drawP_q, dnext, dq, dqn, slotR, ag, guardP, R1Q, dstOK, again, again1, slotIs, R1OK, List.getElem?_toArray, List.getElem?_cons_succ, List.getElem?_cons_zero, ↓reduceIte, Nat.reduceLT, Nat.reduceEqDiff, true_and, and_self, reduceCtorEq, Try.sz28, Try.ag28]
            refine hκ.run 300 ?_
            simp (disch := omega) only [exec_succ, runR_stop, stepS, OutOK_stop, gl0]
            refine hκ.ret _ _ _ _ _ _ trivial rfl ?_
            refine Post.frz [0] (by first | (simp [lendPL, lendP, lendSlP, dropL, Heap.get, Heap.drop, resV]; done) | (simp [lendPL, lendP, lendSlP, dropL, Heap.get, Heap.drop, resV]; omega) | (simp [lendPL, lendP, lendSlP, dropL, Heap.get, Heap.drop, resV, -List.length_eq_zero_iff]; omega)) ?_
            simp only [resV, lendL, lendS, lendSl, dropL, Heap.drop, Heap.get, List.mem_singleton, List.mem_cons, List.not_mem_nil, or_false, or_true, true_or, List.drop_zero, Nat.reduceEqDiff, Nat.one_ne_zero, Nat.zero_ne_one, ↓reduceIte]
            rw [show List.take l.length (Bs a) = Bs a from List.take_of_length_le (by omega)]
            exact .ret (by simp [SV.bnd, SV.bndL])
          · by_cases hl0 : leftF l a m ≤ 0
            · rw [if_pos (.inr hl0)] at hfn
              subst hfn
              rw [decide_eq_true he]
              simp (disch := omega) only [sBuiltin, srcS, sCopy, allQuiet, quietOp, drawS, exec_succ, runR_next, runR_need, runR_fork_true, runR_guard_ff, runR_stop, stepS, runOp, guardS, condS, goS, toSR, sop, rOf, sPick, sLoadIn, sLoad, sInt, sBin, sUn, sliceT, obind, ev, Env.get, Heap.get, Heap.set, takeN, cut, aggOf, exitTo, OutOK_need, OutOK_stop, Option.isNone_none, undefS, undef, Bool.and_true, Bool.and_false, List.drop_zero, List.take_zero, Bool.false_eq_true, List.size_toArray, List.length_cons, List.length_nil, List.range, List.range.loop, List.getElem?_toArray, List.getElem?_cons_succ, List.getElem?_cons_zero, List.append_nil, List.nil_append, Option.bind_some, ↓reduceIte, Nat.reduceAdd, Nat.reduceLT, Nat.reduceEqDiff, Nat.zero_add, Nat.add_one_ne_zero, Nat.reduceBEq, Bool.not_true, Bool.not_false, decide_true, beq_self_eq_true, ne_eq, and_self, reduceCtorEq, Try.sz4, Try.underlying28, Try.sz28, Try.ag28, hlen, hlen2, et2, hl0, Nat.min_self, hd]
              (repeat (refine ⟨by first | omega | (refine ⟨?_, ?_⟩ <;> omega) | trivial | (simp; done) | decide +kernel, fun _ => ?_⟩))
              have c9 := sumF_ok l a hr ha
              refine hκ.draw (.q 0 (.q 1 (.q 2 (.q 3 (.q 4 (.l 5 [0] (.q 6 (.q 7 (.q 8 (.fin)))))))))) [0, 1, 2, 3, 4, 6, 7, 8] (by kernel_rfl) (by kernel_rfl) rfl ?_
              simp (disch := omega) only [sBuiltin, sMinMax, sop, rOf, sLoadIn, sLoad, ev, evs, Env.get, Heap.get, takeN, cut, aggOf, setO, drawP_q, drawP_l, dq, dqn, dl, guardP, R1Q, dstOK, loudP, List.getElem?_toArray, List.getElem?_cons_succ, List.getElem?_cons_zero, List.map_cons, List.map_nil, ↓reduceIte, Nat.reduceLT, Nat.reduceEqDiff, Nat.add_one_ne_zero, true_and, reduceCtorEq, gl0, Try.sz28, Try.ag28]
              refine DCall.of (Does.look hκ.hP hκ.hgl 2 (fun i => i) [0, 1] [Ps l, fnOthers 1] [(0, .row 1 l.length 4 (Bs a)), (1, BI 0 l.length l.length)] (c9) rfl ⟨trivial, by simp [SV.bnd, SV.bndL, eP], by simp [SV.bnd, SV.bndL]⟩ (by intro i hi; (repeat (first | omega | (dsimp only; omega) | split))) (by intro i j; (repeat (first | omega | split))) (by repeat' (first | exact HeapIn.nil | refine HeapIn.cons (by decide) (by simp [Blk.bnd, SV.bnd, SV.bndL, eP]) (by simp) rfl ?_)) (by repeat' (first | exact Once.nil | refine Once.cons (by simp) ?_)) ?_)
              simp only [renH, Blk.ren, SV.renL, SV.ren, tau, without, List.mem_singleton, List.mem_cons, List.not_mem_nil, or_false, or_true, true_or, Nat.reduceEqDiff, Nat.reduceLT, Nat.zero_lt_one, Nat.one_ne_zero, Nat.zero_ne_one, Nat.zero_lt_succ, ↓reduceIte, List.cons_append, List.nil_append, List.append_nil]
              simp (disch := omega) only [sop, rOf, sLoadIn, sLoad, ev, Env.get, Heap.get, takeN, cut, aggOf, setO, drawP_fin, drawP_q, dnext, dq, dqn, slotR, ag, guardP, R1Q, dstOK, again, again1, slotIs, R1OK, List.getElem?_toArray, List.getElem?_cons_succ, List.getElem?_cons_zero, ↓reduceIte, Nat.reduceLT, Nat.reduceEqDiff, true_and, and_self, reduceCtorEq, Try.sz28, Try.ag28]
              refine hκ.run 300 ?_
              simp (disch := omega) only [exec_succ, runR_stop, stepS, OutOK_stop, gl0]
              refine hκ.ret _ _ _ _ _ _ trivial rfl ?_
              refine Post.frz [0] (by first | (simp [lendPL, lendP, lendSlP, dropL, Heap.get, Heap.drop, resV]; done) | (simp [lendPL, lendP, lendSlP, dropL, Heap.get, Heap.drop, resV]; omega) | (simp [lendPL, lendP, lendSlP, dropL, Heap.get, Heap.drop, resV, -List.length_eq_zero_iff]; omega)) ?_
              simp only [resV, lendL, lendS, lendSl, dropL, Heap.drop, Heap.get, List.mem_singleton, List.mem_cons, List.not_mem_nil, or_false, or_true, true_or, List.drop_zero, Nat.reduceEqDiff, Nat.one_ne_zero, Nat.zero_ne_one, ↓reduceIte]
              rw [show List.take l.length (Bs a) = Bs a from List.take_of_length_le (by omega)]
              exact .ret (by simp [SV.bnd, SV.bndL])
            · rw [if_neg (by rintro (h | h) <;> contradiction)] at hfn
              rw [decide_eq_true he]
              have hy := hz a ha hfn
              simp (disch := omega) only [sBuiltin, srcS, sCopy, exec_succ, runR_next, runR_need, runR_fork_false, runR_guard_ff, runR_stop, stepS, runOp, guardS, condS, goS, toSR, sop, rOf, sPick, sLoadIn, sLoad, sInt, sBin, sUn, sliceT, obind, ev, Env.get, Heap.get, Heap.set, takeN, cut, aggOf, exitTo, OutOK_need, OutOK_stop, undefS, undef, List.drop_zero, List.take_zero, List.size_toArray, List.length_cons, List.length_nil, List.range, List.range.loop, List.getElem?_toArray, List.getElem?_cons_succ, List.getElem?_cons_zero, List.append_nil, List.nil_append, Option.bind_some, ↓reduceIte, Nat.reduceAdd, Nat.reduceLT, Nat.reduceEqDiff, Nat.zero_add, Nat.add_one_ne_zero, Bool.not_true, Bool.not_false, decide_false, beq_self_eq_true, ne_eq, and_self, reduceCtorEq, wrap_i64, Try.sz4, Try.underlying28, Try.sz28, Try.ag28, hlen, hlen2, et2, hl0, Nat.min_self, hd]
              (repeat (refine ⟨by first | omega | (refine ⟨?_, ?_⟩ <;> omega) | trivial | (simp; done) | decide +kernel, fun _ => ?_⟩))
              refine Sat.via (fun i => i) (hy) (by intro i j; (repeat (first | omega | split))) (by repeat' (first | exact EnvVia.nil | refine EnvVia.cons (by first | trivial | decide | (simp [SV.bnd, SV.bndL]; done)) rfl ?_)) (by repeat' (first | exact HeapVia.nil | refine HeapVia.cons (by decide) (by first | trivial | (simp [Blk.bnd, SV.bnd, SV.bndL]; done) | exact bndL_mapV _ _ _ | exact LR.bnd (by rw [l2]; simp [bndE, SV.bnd, SV.bndL]) (by rw [l6]; decide)) (by first | rfl | (simp only [Blk.ren, renL_mapV]; rfl) | (rw [LR.ren (by rw [l2] <;> rfl) (by rw [l6] <;> rfl)]; rfl)) ?_)) ⟨by have := hκ.hm; (try dsimp only at this); (first | done | omega), fun i hi => by have := hκ.hm; (try dsimp only at this); (first | omega | (dsimp only; omega) | (rw [if_neg (by omega)]))⟩ ⟨by simp, rfl⟩
    · obtain rfl : n = l.length := by omega
      rw [Nat.sub_self, fullN] at hfn
      subst hfn
      have hL := leftF_bd (b := b) (m := m) hr
      have hlen : (Bs b).length = l.length := by simp; omega
      simp (disch := omega) only [allQuiet, quietOp, drawS, exec_succ, runR_next, runR_stop, stepS, goS, exitTo, OutOK_stop, Option.isNone_none, Bool.and_true, Bool.and_false, ↓reduceIte, beq_self_eq_true]
      have c9 := sumF_ok l b hr hb
      refine hκ.draw (.q 0 (.q 1 (.q 2 (.q 3 (.q 4 (.l 5 [0] (.q 6 (.q 7 (.q 8 (.fin)))))))))) [0, 1, 2, 3, 4, 6, 7, 8] (by kernel_rfl) (by kernel_rfl) rfl ?_
      simp (disch := omega) only [sBuiltin, sMinMax, sop, rOf, sLoadIn, sLoad, ev, evs, Env.get, Heap.get, takeN, cut, aggOf, setO, drawP_q, drawP_l, dq, dqn, dl, guardP, R1Q, dstOK, loudP, List.getElem?_toArray, List.getElem?_cons_succ, List.getElem?_cons_zero, List.map_cons, List.map_nil, ↓reduceIte, Nat.reduceLT, Nat.reduceEqDiff, Nat.add_one_ne_zero, true_and, gl0, Try.sz28, Try.ag28]
      refine DCall.of (Does.look hκ.hP hκ.hgl 2 (fun i => i) [0, 1] [Ps l, fnOthers 1] [(0, .row 1 l.length 4 (Bs b)), (1, BI 0 l.length l.length)] (c9) rfl ⟨trivial, by simp [SV.bnd, SV.bndL, eP], by simp [SV.bnd, SV.bndL]⟩ (by intro i hi; (repeat (first | omega | (dsimp only; omega) | split))) (by intro i j; (repeat (first | omega | split))) (by repeat' (first | exact HeapIn.nil | refine HeapIn.cons (by decide) (by simp [Blk.bnd, SV.bnd, SV.bndL, eP]) (by simp) rfl ?_)) (by repeat' (first | exact Once.nil | refine Once.cons (by simp) ?_)) ?_)
      simp only [renH, Blk.ren, SV.renL, SV.ren, tau, without, List.mem_singleton, List.mem_cons, List.not_mem_nil, or_false, or_true, true_or, Nat.reduceEqDiff, Nat.reduceLT, Nat.zero_lt_one, Nat.one_ne_zero, Nat.zero_ne_one, Nat.zero_lt_succ, ↓reduceIte, List.cons_append, List.nil_append, List.append_nil]
      simp (disch := omega) only [sop, rOf, sLoadIn, sLoad, ev, Env.get, Heap.get, takeN, cut, aggOf, setO, drawP_fin, drawP_q, dnext, dq, dqn, slotR, ag, guardP, R1Q, dstOK, again, again1, slotIs, R1OK, List.getElem?_toArray, List.getElem?_cons_succ, List.getElem?_cons_zero, ↓reduceIte, Nat.reduceLT, Nat.reduceEqDiff, true_and, and_self, reduceCtorEq, Try.sz28, Try.ag28]
      refine hκ.run 300 ?_
      simp (disch := omega) only [exec_succ, runR_stop, stepS, OutOK_stop, gl0]
      refine hκ.ret _ _ _ _ _ _ trivial rfl ?_
      refine Post.frz [0] (by first | (simp [lendPL, lendP, lendSlP, dropL, Heap.get, Heap.drop, resV]; done) | (simp [lendPL, lendP, lendSlP, dropL, Heap.get, Heap.drop, resV]; omega) | (simp [lendPL, lendP, lendSlP, dropL, Heap.get, Heap.drop, resV, -List.length_eq_zero_iff]; omega)) ?_
      simp only [resV, lendL, lendS, lendSl, dropL, Heap.drop, Heap.get, List.mem_singleton, List.mem_cons, List.not_mem_nil, or_false, or_true, true_or, List.drop_zero, Nat.reduceEqDiff, Nat.one_ne_zero, Nat.zero_ne_one, ↓reduceIte]
      rw [show List.take l.length (Bs b) = Bs b from List.take_of_length_le (by omega)]
      exact .ret (by simp [SV.bnd, SV.bndL])
end Go.Proofs.Ytomfpciigaopiaa

/- Watches that are the same; too long ones; copies. No condition. -/
import Derived.Test.YtbjhphjpdeblnaaDoorAd
namespace Go.Proofs.YtbjhphjpdeblnaaDoor
open Go Go.Sy
set_option maxRecDepth 100000
set_option linter.unusedSimpArgs false
set_option linter.unusedVariables false

/-- Are these the same, cell by cell? -/
def eqX (x y : Se) : Bool := decide (x.v = y.v) && (decide (x.d = y.d) && (decide (x.g = y.g) && (decide (x.p = y.p) && (decide (x.c = y.c) && ((x.r == y.r) && ((x.k == y.k) && (decide ((x.m : Int) = y.m) && (decide (x.w = y.w) && (decide (x.n = y.n) && decide (x.a = y.a))))))))))
theorem eqX_eq (x y : Se) : eqX x y = decide (x = y) := by
  rw [Bool.eq_iff_iff]
  simp only [eqX, Bool.and_eq_true, decide_eq_true_eq, beq_iff_eq, X_ext, Int.ofNat_inj]
/-- Are these the same? -/
def sameT (fs gs : List Mo) (ea eb : Int) : Bool := decide (ea = eb) && decide (fs = gs)
theorem Pre.trace (en : Int) : Pre fun r => .agg [r, I en] := ⟨fun _ _ => by simp only [SV.ren, SV.renL], fun _ _ h => ⟨h, trivial, trivial⟩, fun _ _ _ => by simp only [lendS, lendL], fun _ _ _ h => by simp only [Go.Sy.lendP, lendPL]; exact ⟨h, trivial, trivial⟩⟩
/-- Is it more than is gone through? -/
def overT (fs : List Mo) : Bool := decide (120 < fs.length) || fs.any fun f => decide (30 < f.2.length)
abbrev inM0 (m : Mo) : Prop := i64 m.1 ∧ (∀ x ∈ m.2, inX x) ∧ m.2.length < 2 ^ 46
abbrev noT : SV := .agg [.v (.slice none 0 0), I 0]
/-- The error of time that passes. -/
def passE (ms : List Mo) (en to : Int) : Int := if rightW ms en = true then (if en ≤ to ∧ to ≤ 1125899906842624 then 0 else 2) else 390
theorem pass_ok (ms : List Mo) (en to : Int) (hf : ∀ m ∈ ms, inM m) (he : i64 en) (ht : i64 to) (hn : ms.length < 2 ^ 40) : Con Tryd.prog gl0 (fnv 16) [Wt ms en, I to] 0 [] (Ret (.tup [Wt (if passE ms en to = 0 then ms else []) (if passE ms en to = 0 then to else 0), I (passE ms en to)])) := by
  have c1 := wcheck_ok ms en hf he hn
  suffices H : Con Tryd.prog gl0 (fnv 16) [Wt ms en, I to] 0 [] (Ret (if passE ms en to = 0 then .tup [Wt ms to, I 0] else .tup [noT, I (passE ms en to)])) by
    by_cases h : passE ms en to = 0
    · rw [if_pos h] at H; rw [if_pos h, if_pos h, h]; exact H
    · rw [if_neg h] at H; rw [if_neg h, if_neg h]; exact Con.repR (fun _ => Rel.tupMap (RelL.mapHead (Rel.aggMap nil1))) H
  refine Con.of Tryd.ok16 (nt := 24) (res := [.cell 4 37, .tmp 5]) Tryd.mixed Tryd.func16 rfl rfl rfl rfl fun κ xc hκ => hκ.run 300 ?_
  simp (disch := omega) only [exec_succ, runR_next, runR_call, stepS, runOp, toSR, sop, rOf, rNew, sAlloc, sAlloc0, sBox, isArr, sLoadIn, sLoad, ev, evs, svs, Env.get, Heap.get, takeN, cut, aggOf, cellsS, envOf, OutOK_call, Bool.false_eq_true, List.size_toArray, List.length_cons, List.length_nil, List.range, List.range.loop, List.getElem?_toArray, List.getElem?_cons_succ, List.getElem?_cons_zero, List.map_cons, List.map_nil, ↓reduceIte, Nat.reduceAdd, Nat.reduceLT, Nat.reduceEqDiff, Nat.zero_add, Nat.add_one_ne_zero, gl0, Tryd.sz37, Tryd.ag37, Tryd.ze37, Tryd.ar37]
  by_cases h1 : rightW ms en = true
  case neg =>
    rw [if_neg h1] at c1
    have e1 : passE ms en to = 390 := by rw [passE, if_neg h1]
    rw [e1, if_neg (by decide)] at hκ
    refine Does.ret hκ.hP hκ.hgl (c1) ⟨trivial, by simp [SV.bnd, SV.bndL], by first | (simp [SV.bnd, SV.bndL]; done) | assumption⟩ ?_
    refine hκ.run 300 ?_
    simp (disch := omega) only [exec_succ, runR_next, runR_need, runR_fork_true, runR_stop, stepS, runOp, condS, toSR, sop, rOf, sStoreIn, sStore, sInt, sBin, fillS, evps, sBuild, ev, svs, Env.get, Heap.get, Heap.set, over, paste, cellsS, one, ones, setO, Value.oneCell', OutOK_need, OutOK_stop, undefS, undef, List.size_toArray, List.length_cons, List.length_nil, List.range, List.range.loop, List.getElem?_toArray, List.getElem?_cons_succ, List.getElem?_cons_zero, List.map_cons, List.map_nil, ↓reduceIte, Nat.reduceAdd, Nat.reduceLT, Nat.reduceEqDiff, Nat.zero_add, Int.reduceEq, Bool.not_false, decide_false, true_and, and_self, forall_const, gl0, Tryd.sz37, Tryd.ze37, Tryd.pl37]
    refine hκ.ret _ _ _ _ _ _ trivial rfl ?_
    exact .ret (by simp [SV.bnd, SV.bndL])
  rw [if_pos h1] at c1
  refine Does.ret hκ.hP hκ.hgl (c1) ⟨trivial, by simp [SV.bnd, SV.bndL], by first | (simp [SV.bnd, SV.bndL]; done) | assumption⟩ ?_
  by_cases h3 : to < en
  · have e1 : passE ms en to = 2 := by rw [passE, if_pos h1, if_neg (by omega)]
    rw [e1, if_neg (by decide)] at hκ
    refine hκ.run 300 ?_
    simp (disch := omega) only [exec_succ, runR_next, runR_need, runR_fork_true, runR_fork_false, runR_guard_tf, runR_stop, stepS, runOp, guardS, condS, toSR, sop, rOf, sPick, sLoadIn, sLoad, sStoreIn, sStore, sInt, sBin, sFieldAddr, fillS, evps, sBuild, ev, svs, Env.get, Heap.get, Heap.set, takeN, cut, over, paste, aggOf, cellsS, one, ones, setO, Value.oneCell', OutOK_need, OutOK_stop, undefS, undef, List.size_toArray, List.length_cons, List.length_nil, List.range, List.range.loop, List.getElem?_toArray, List.getElem?_cons_succ, List.getElem?_cons_zero, List.map_cons, List.map_nil, Option.bind_some, ↓reduceIte, Nat.reduceAdd, Nat.reduceLT, Nat.reduceEqDiff, Nat.zero_add, Nat.add_one_ne_zero, Bool.not_true, Bool.not_false, decide_true, true_and, and_self, forall_const, reduceCtorEq, gl0, Tryd.sz2, Tryd.ag2, Tryd.sz37, Tryd.ze37, Tryd.pl37, Tryd.fd37f1, h3]
    refine hκ.ret _ _ _ _ _ _ trivial rfl ?_
    exact .ret (by simp [SV.bnd, SV.bndL])
  by_cases h4 : (1125899906842624 : Int) < to
  · have e1 : passE ms en to = 2 := by rw [passE, if_pos h1, if_neg (by omega)]
    rw [e1, if_neg (by decide)] at hκ
    refine hκ.run 300 ?_
    simp (disch := omega) only [exec_succ, runR_next, runR_need, runR_fork_true, runR_fork_false, runR_guard_ff, runR_stop, stepS, runOp, guardS, condS, toSR, sop, rOf, sPick, sLoadIn, sLoad, sStoreIn, sStore, sInt, sBin, sFieldAddr, fillS, evps, sBuild, ev, svs, Env.get, Heap.get, Heap.set, takeN, cut, over, paste, aggOf, cellsS, one, ones, setO, Value.oneCell', OutOK_need, OutOK_stop, undefS, undef, List.size_toArray, List.length_cons, List.length_nil, List.range, List.range.loop, List.getElem?_toArray, List.getElem?_cons_succ, List.getElem?_cons_zero, List.map_cons, List.map_nil, Option.bind_some, ↓reduceIte, Nat.reduceAdd, Nat.reduceLT, Nat.reduceEqDiff, Nat.zero_add, Nat.add_one_ne_zero, Bool.not_true, Bool.not_false, decide_true, decide_false, true_and, and_self, forall_const, reduceCtorEq, gl0, Tryd.sz2, Tryd.ag2, Tryd.sz37, Tryd.ze37, Tryd.pl37, Tryd.fd37f1, h3, h4]
    refine hκ.ret _ _ _ _ _ _ trivial rfl ?_
    exact .ret (by simp [SV.bnd, SV.bndL])
  · have e1 : passE ms en to = 0 := by rw [passE, if_pos h1, if_pos (by omega)]
    rw [e1, if_pos rfl] at hκ
    refine hκ.run 300 ?_
    simp (disch := omega) only [exec_succ, runR_next, runR_need, runR_fork_false, runR_guard_ff, runR_stop, stepS, runOp, guardS, condS, toSR, sop, rOf, sPick, sLoadIn, sLoad, sStoreIn, sStore, sInt, sBin, sFieldAddr, ev, svs, Env.get, Heap.get, Heap.set, takeN, cut, over, paste, aggOf, cellsS, one, ones, setO, Value.cells, Value.oneCell', OutOK_need, OutOK_stop, undefS, undef, List.size_toArray, List.length_cons, List.length_nil, List.range, List.range.loop, List.getElem?_toArray, List.getElem?_cons_succ, List.getElem?_cons_zero, List.map_cons, List.map_nil, Option.bind_some, List.toList_toArray, ↓reduceIte, Nat.reduceAdd, Nat.reduceLT, Nat.reduceEqDiff, Nat.zero_add, Nat.add_one_ne_zero, Bool.not_true, Bool.not_false, decide_true, decide_false, true_and, and_self, forall_const, reduceCtorEq, gl0, Tryd.sz2, Tryd.ag2, Tryd.sz37, Tryd.ag37, Tryd.fd37f1, h3, h4]
    refine hκ.ret _ _ _ _ _ _ trivial rfl ?_
    exact .ret (by simp [SV.bnd, SV.bndL])
end Go.Proofs.YtbjhphjpdeblnaaDoor

/- Watches: who is seen, and may be seen so. No condition. -/
import Derived.Test.YtbjhphjpdeblnaaR4
namespace Go.Proofs.Ytbjhphjpdeblnaa
open Go Go.Sy
set_option maxRecDepth 100000
set_option linter.unusedSimpArgs false
set_option linter.unusedVariables false

theorem getD_mem {α : Type} [Inhabited α] {l : List α} {k : Nat} (h : k < l.length) : l.getD k default ∈ l := by
  rw [List.getD, List.getElem?_eq_getElem h]; exact List.getElem_mem _
theorem drop_getD {α : Type} [Inhabited α] {l : List α} {k : Nat} (h : k < l.length) : l.drop k = l.getD k default :: l.drop (k + 1) := by
  rw [List.drop_eq_getElem_cons h, List.getD, List.getElem?_eq_getElem h]; rfl
theorem take_getD {α : Type} [Inhabited α] {l : List α} {k : Nat} (h : k < l.length) : l.take (k + 1) = l.take k ++ [l.getD k default] := by
  rw [List.take_succ_eq_append_getElem h, List.getD, List.getElem?_eq_getElem h]; rfl
theorem getD_get {α : Type} [Inhabited α] {l : List α} {k : Nat} (h : k < l.length) : l.getD k default = l[k] := by
  rw [List.getD, List.getElem?_eq_getElem h]; rfl
abbrev i64 (n : Int) : Prop := -9223372036854775808 ≤ n ∧ n ≤ 9223372036854775807
/-- Who is seen. -/
structure Se where
  v : Int
  d : Int
  g : Int
  p : Int
  c : Int
  r : Bool
  k : Bool
  m : Nat
  w : Int
  n : Int
  a : Int
  deriving DecidableEq, Inhabited
def eX (x : Se) : List SV := [I x.v, I x.d, I x.g, I x.p, I x.c, Bo x.r, Bo x.k, S x.m, I x.w, I x.n, I x.a]
abbrev Xs (l : List Se) : SV := .rd 11 (l.map eX)
/-- A moment: when, who is seen. -/
abbrev Mo := Int × List Se
def eM (m : Mo) : List SV := [I m.1, Xs m.2]
abbrev Ms (l : List Mo) : SV := .rd 2 (l.map eM)
abbrev Wt (ms : List Mo) (en : Int) : SV := .agg [Ms ms, I en]
abbrev inX (x : Se) : Prop := i64 x.v ∧ i64 x.d ∧ i64 x.g ∧ i64 x.p ∧ i64 x.c ∧ x.m < 4294967296 ∧ i64 x.w ∧ i64 x.n ∧ i64 x.a
abbrev inM (m : Mo) : Prop := i64 m.1 ∧ (∀ x ∈ m.2, inX x) ∧ m.2.length < 2 ^ 40
theorem X_ext {x y : Se} : x = y ↔ x.v = y.v ∧ x.d = y.d ∧ x.g = y.g ∧ x.p = y.p ∧ x.c = y.c ∧ x.r = y.r ∧ x.k = y.k ∧ x.m = y.m ∧ x.w = y.w ∧ x.n = y.n ∧ x.a = y.a := by
  cases x; cases y; simp
def inI (n lo hi : Int) : Bool := decide (lo ≤ n) && decide (n ≤ hi)
theorem inI_iff (n lo hi : Int) : inI n lo hi = true ↔ lo ≤ n ∧ n ≤ hi := by simp only [inI, Bool.and_eq_true, decide_eq_true_eq]
theorem awithin_ok (n lo hi : Int) : Con Try.prog gl0 (fnv 80) [I n, I lo, I hi] 0 [] (Ret (Bo (inI n lo hi))) := by
  refine Con.of Try.ok80 (nt := 15) (res := [.tmp 6]) Try.mixed Try.func80 rfl rfl rfl rfl fun κ xc hκ => hκ.run 300 ?_
  simp (disch := omega) only [exec_succ, runR_next, stepS, runOp, guardS, toSR, sop, rOf, sInt, sBin, ev, Env.get, envOf, undefS, undef, List.size_toArray, List.length_cons, List.length_nil, List.range, List.range.loop, List.getElem?_toArray, List.getElem?_cons_succ, List.getElem?_cons_zero, Option.bind_some, ↓reduceIte, Nat.reduceAdd, Nat.reduceLT, Nat.reduceEqDiff, Nat.zero_add, Nat.add_one_ne_zero, Bool.not_true, and_self, reduceCtorEq, gl0]
  by_cases e1 : lo ≤ n
  · simp (disch := omega) only [exec_succ, runR_next, runR_guard_tt, runR_stop, stepS, runOp, guardS, toSR, sop, rOf, sPick, sInt, sBin, ev, Env.get, OutOK_stop, undefS, undef, List.getElem?_toArray, List.getElem?_cons_succ, List.getElem?_cons_zero, Option.bind_some, ↓reduceIte, Nat.reduceLT, Nat.reduceEqDiff, Bool.not_true, decide_true, and_self, reduceCtorEq, e1]
    refine hκ.ret _ _ _ _ _ _ trivial rfl ?_
    rw [inI, decide_eq_true e1, Bool.true_and]
    exact .ret trivial
  · simp (disch := omega) only [exec_succ, runR_next, runR_guard_ft, runR_stop, stepS, runOp, guardS, toSR, sop, rOf, sPick, sBin, ev, Env.get, OutOK_stop, undefS, undef, List.getElem?_toArray, List.getElem?_cons_succ, List.getElem?_cons_zero, Option.bind_some, ↓reduceIte, Nat.reduceLT, Nat.reduceEqDiff, Bool.not_true, decide_false, and_self, reduceCtorEq, e1]
    refine hκ.ret _ _ _ _ _ _ trivial rfl ?_
    rw [inI, decide_eq_false e1, Bool.false_and]
    exact .ret trivial
/-- May one be seen so? -/
def seenB (x : Se) : Bool := inI x.v 1 16 && inI x.d 1 8 && inI x.g 0 8 && inI x.p 0 3 && inI x.c (-1) 7 && decide (x.m < 256) && inI x.w 1 65535 && inI x.n 1 8 && inI x.a 0 800
theorem seenB_iff (x : Se) : seenB x = true ↔ (1 ≤ x.v ∧ x.v ≤ 16) ∧ (1 ≤ x.d ∧ x.d ≤ 8) ∧ (0 ≤ x.g ∧ x.g ≤ 8) ∧ (0 ≤ x.p ∧ x.p ≤ 3) ∧ (-1 ≤ x.c ∧ x.c ≤ 7) ∧ x.m < 256 ∧ (1 ≤ x.w ∧ x.w ≤ 65535) ∧ (1 ≤ x.n ∧ x.n ≤ 8) ∧ (0 ≤ x.a ∧ x.a ≤ 800) := by
  simp only [seenB, Bool.and_eq_true, inI_iff, decide_eq_true_eq, and_assoc]
theorem seen_ok (x : Se) (h : inX x) : Con Try.prog gl0 (fnv 53) [.agg (eX x)] 0 [] (Ret (Bo (seenB x))) := by
  obtain ⟨-, -, -, -, -, hm, -, -, -⟩ := h
  have cm := check_ok x.m hm
  have no : ∀ {b : Bool}, (b = true → False) → b = false := fun {b} h => by cases b <;> simp_all
  refine Con.of Try.ok53 (nt := 49) (res := [.tmp 2]) Try.mixed Try.func53 rfl rfl rfl rfl fun κ xc hκ => hκ.run 300 ?_
  simp (disch := omega) only [exec_succ, runR_next, runR_call, stepS, runOp, toSR, sop, rOf, rNew, sBox, isArr, sLoadIn, sLoad, sFieldAddr, ev, evs, Env.get, Heap.get, takeN, cut, aggOf, cellsS, envOf, OutOK_call, Bool.false_eq_true, List.size_toArray, List.length_cons, List.length_nil, List.range, List.range.loop, List.getElem?_toArray, List.getElem?_cons_succ, List.getElem?_cons_zero, ↓reduceIte, Nat.reduceAdd, Nat.reduceLT, Nat.reduceEqDiff, Nat.zero_add, Nat.add_zero, Nat.add_one_ne_zero, Int.reduceNeg, gl0, Try.sz3, Try.ag3, Try.fd65f0, eX]
  refine Does.ret hκ.hP hκ.hgl (awithin_ok x.v 1 16) ⟨trivial, by simp [SV.bnd, SV.bndL], by first | (simp [SV.bnd, SV.bndL]; done) | assumption⟩ ?_
  by_cases h0 : inI x.v 1 16 = true
  case neg =>
    have q0 := mt (inI_iff x.v 1 16).2 h0
    rw [show inI x.v 1 16 = false by simpa using h0]
    refine hκ.run 300 ?_
    simp (disch := omega) only [exec_succ, runR_next, runR_guard_ft, runR_stop, stepS, runOp, guardS, toSR, sop, rOf, sPick, sLoad, sEq, sEqR, sBin, sFieldAddr, ev, evs, Env.get, setO, OutOK_stop, undefS, undef, List.size_toArray, List.length_cons, List.length_nil, List.range, List.range.loop, List.getElem?_toArray, List.getElem?_cons_succ, List.getElem?_cons_zero, Option.bind_some, ↓reduceIte, Nat.reduceAdd, Nat.reduceLT, Nat.reduceEqDiff, Nat.zero_add, Nat.add_one_ne_zero, Int.reduceNeg, Bool.not_true, and_self, gl0, Try.fd65f1, Try.fd65f10, Try.fd65f2, Try.fd65f3, Try.fd65f4, Try.fd65f7, Try.fd65f8, Try.fd65f9]
    refine hκ.ret _ _ _ _ _ _ trivial rfl ?_
    rw [show seenB x = false from no fun h => by have := (seenB_iff x).1 h; omega]
    exact .ret trivial
  rw [h0]
  have q0 := (inI_iff x.v 1 16).1 h0
  refine hκ.run 300 ?_
  simp (disch := omega) only [exec_succ, runR_next, runR_guard_tt, runR_call, stepS, runOp, guardS, toSR, sop, rOf, sLoadIn, sLoad, sFieldAddr, ev, evs, Env.get, Heap.get, takeN, cut, aggOf, setO, OutOK_call, undefS, undef, List.getElem?_toArray, List.getElem?_cons_succ, List.getElem?_cons_zero, Option.bind_some, ↓reduceIte, Nat.reduceLT, Nat.reduceEqDiff, Nat.zero_add, Nat.add_one_ne_zero, Int.reduceNeg, Bool.not_true, and_self, gl0, Try.sz3, Try.ag3, Try.fd65f1]
  refine Does.ret hκ.hP hκ.hgl (awithin_ok x.d 1 8) ⟨trivial, by simp [SV.bnd, SV.bndL], by first | (simp [SV.bnd, SV.bndL]; done) | assumption⟩ ?_
  by_cases h1 : inI x.d 1 8 = true
  case neg =>
    have q1 := mt (inI_iff x.d 1 8).2 h1
    rw [show inI x.d 1 8 = false by simpa using h1]
    refine hκ.run 300 ?_
    simp (disch := omega) only [exec_succ, runR_next, runR_guard_ft, runR_stop, stepS, runOp, guardS, toSR, sop, rOf, sPick, sLoad, sEq, sEqR, sBin, sFieldAddr, ev, evs, Env.get, setO, OutOK_stop, undefS, undef, List.size_toArray, List.length_cons, List.length_nil, List.range, List.range.loop, List.getElem?_toArray, List.getElem?_cons_succ, List.getElem?_cons_zero, Option.bind_some, ↓reduceIte, Nat.reduceAdd, Nat.reduceLT, Nat.reduceEqDiff, Nat.zero_add, Nat.add_one_ne_zero, Int.reduceNeg, Bool.not_true, and_self, gl0, Try.fd65f10, Try.fd65f2, Try.fd65f3, Try.fd65f4, Try.fd65f7, Try.fd65f8, Try.fd65f9]
    refine hκ.ret _ _ _ _ _ _ trivial rfl ?_
    rw [show seenB x = false from no fun h => by have := (seenB_iff x).1 h; omega]
    exact .ret trivial
  rw [h1]
  have q1 := (inI_iff x.d 1 8).1 h1
  refine hκ.run 300 ?_
  simp (disch := omega) only [exec_succ, runR_next, runR_guard_tt, runR_call, stepS, runOp, guardS, toSR, sop, rOf, sPick, sLoadIn, sLoad, sFieldAddr, ev, evs, Env.get, Heap.get, takeN, cut, aggOf, setO, OutOK_call, undefS, undef, List.getElem?_toArray, List.getElem?_cons_succ, List.getElem?_cons_zero, Option.bind_some, ↓reduceIte, Nat.reduceLT, Nat.reduceEqDiff, Nat.zero_add, Nat.add_one_ne_zero, Int.reduceNeg, Bool.not_true, and_self, gl0, Try.sz3, Try.ag3, Try.fd65f2]
  refine Does.ret hκ.hP hκ.hgl (awithin_ok x.g 0 8) ⟨trivial, by simp [SV.bnd, SV.bndL], by first | (simp [SV.bnd, SV.bndL]; done) | assumption⟩ ?_
  by_cases h2 : inI x.g 0 8 = true
  case neg =>
    have q2 := mt (inI_iff x.g 0 8).2 h2
    rw [show inI x.g 0 8 = false by simpa using h2]
    refine hκ.run 300 ?_
    simp (disch := omega) only [exec_succ, runR_next, runR_guard_ft, runR_stop, stepS, runOp, guardS, toSR, sop, rOf, sPick, sLoad, sEq, sEqR, sBin, sFieldAddr, ev, evs, Env.get, setO, OutOK_stop, undefS, undef, List.size_toArray, List.length_cons, List.length_nil, List.range, List.range.loop, List.getElem?_toArray, List.getElem?_cons_succ, List.getElem?_cons_zero, Option.bind_some, ↓reduceIte, Nat.reduceAdd, Nat.reduceLT, Nat.reduceEqDiff, Nat.zero_add, Nat.add_one_ne_zero, Int.reduceNeg, Bool.not_true, and_self, gl0, Try.fd65f10, Try.fd65f3, Try.fd65f4, Try.fd65f7, Try.fd65f8, Try.fd65f9]
    refine hκ.ret _ _ _ _ _ _ trivial rfl ?_
    rw [show seenB x = false from no fun h => by have := (seenB_iff x).1 h; omega]
    exact .ret trivial
  rw [h2]
  have q2 := (inI_iff x.g 0 8).1 h2
  refine hκ.run 300 ?_
  simp (disch := omega) only [exec_succ, runR_next, runR_guard_tt, runR_call, stepS, runOp, guardS, toSR, sop, rOf, sPick, sLoadIn, sLoad, sFieldAddr, ev, evs, Env.get, Heap.get, takeN, cut, aggOf, setO, OutOK_call, undefS, undef, List.getElem?_toArray, List.getElem?_cons_succ, List.getElem?_cons_zero, Option.bind_some, ↓reduceIte, Nat.reduceLT, Nat.reduceEqDiff, Nat.zero_add, Nat.add_one_ne_zero, Int.reduceNeg, Bool.not_true, and_self, gl0, Try.sz3, Try.ag3, Try.fd65f3]
  refine Does.ret hκ.hP hκ.hgl (awithin_ok x.p 0 3) ⟨trivial, by simp [SV.bnd, SV.bndL], by first | (simp [SV.bnd, SV.bndL]; done) | assumption⟩ ?_
  by_cases h3 : inI x.p 0 3 = true
  case neg =>
    have q3 := mt (inI_iff x.p 0 3).2 h3
    rw [show inI x.p 0 3 = false by simpa using h3]
    refine hκ.run 300 ?_
    simp (disch := omega) only [exec_succ, runR_next, runR_guard_ft, runR_stop, stepS, runOp, guardS, toSR, sop, rOf, sPick, sLoad, sEq, sEqR, sBin, sFieldAddr, ev, evs, Env.get, setO, OutOK_stop, undefS, undef, List.size_toArray, List.length_cons, List.length_nil, List.range, List.range.loop, List.getElem?_toArray, List.getElem?_cons_succ, List.getElem?_cons_zero, Option.bind_some, ↓reduceIte, Nat.reduceAdd, Nat.reduceLT, Nat.reduceEqDiff, Nat.zero_add, Nat.add_one_ne_zero, Int.reduceNeg, Bool.not_true, and_self, gl0, Try.fd65f10, Try.fd65f4, Try.fd65f7, Try.fd65f8, Try.fd65f9]
    refine hκ.ret _ _ _ _ _ _ trivial rfl ?_
    rw [show seenB x = false from no fun h => by have := (seenB_iff x).1 h; omega]
    exact .ret trivial
  rw [h3]
  have q3 := (inI_iff x.p 0 3).1 h3
  refine hκ.run 300 ?_
  simp (disch := omega) only [exec_succ, runR_next, runR_guard_tt, runR_call, stepS, runOp, guardS, toSR, sop, rOf, sPick, sLoadIn, sLoad, sFieldAddr, ev, evs, Env.get, Heap.get, takeN, cut, aggOf, setO, OutOK_call, undefS, undef, List.size_toArray, List.length_cons, List.length_nil, List.range, List.range.loop, List.getElem?_toArray, List.getElem?_cons_succ, List.getElem?_cons_zero, Option.bind_some, ↓reduceIte, Nat.reduceAdd, Nat.reduceLT, Nat.reduceEqDiff, Nat.zero_add, Nat.add_one_ne_zero, Int.reduceNeg, Bool.not_true, and_self, gl0, Try.sz3, Try.ag3, Try.fd65f4]
  refine Does.ret hκ.hP hκ.hgl (awithin_ok x.c (-1) 7) ⟨trivial, by simp [SV.bnd, SV.bndL], by first | (simp [SV.bnd, SV.bndL]; done) | assumption⟩ ?_
  by_cases h4 : inI x.c (-1) 7 = true
  case neg =>
    have q4 := mt (inI_iff x.c (-1) 7).2 h4
    rw [show inI x.c (-1) 7 = false by simpa using h4]
    refine hκ.run 300 ?_
    simp (disch := omega) only [exec_succ, runR_next, runR_guard_ft, runR_stop, stepS, runOp, guardS, toSR, sop, rOf, sPick, sLoad, sEq, sEqR, sBin, sFieldAddr, ev, evs, Env.get, setO, OutOK_stop, undefS, undef, List.getElem?_toArray, List.getElem?_cons_succ, List.getElem?_cons_zero, Option.bind_some, ↓reduceIte, Nat.reduceLT, Nat.reduceEqDiff, Nat.zero_add, Nat.add_one_ne_zero, Int.reduceNeg, Bool.not_true, and_self, gl0, Try.fd65f10, Try.fd65f7, Try.fd65f8, Try.fd65f9]
    refine hκ.ret _ _ _ _ _ _ trivial rfl ?_
    rw [show seenB x = false from no fun h => by have := (seenB_iff x).1 h; omega]
    exact .ret trivial
  rw [h4]
  have q4 := (inI_iff x.c (-1) 7).1 h4
  refine hκ.run 300 ?_
  simp (disch := omega) only [exec_succ, runR_next, runR_guard_tt, runR_call, stepS, runOp, guardS, toSR, sop, rOf, sPick, sLoadIn, sLoad, sFieldAddr, ev, evs, Env.get, Heap.get, takeN, cut, aggOf, setO, OutOK_call, undefS, undef, List.getElem?_toArray, List.getElem?_cons_succ, List.getElem?_cons_zero, Option.bind_some, ↓reduceIte, Nat.reduceLT, Nat.reduceEqDiff, Nat.zero_add, Nat.add_one_ne_zero, Int.reduceNeg, Bool.not_true, and_self, gl0, Try.sz63, Try.ag63, Try.fd65f7]
  refine Does.ret hκ.hP hκ.hgl (cm) ⟨trivial, by simp [SV.bnd, SV.bndL], by first | (simp [SV.bnd, SV.bndL]; done) | assumption⟩ ?_
  by_cases h5 : x.m < 256
  case neg =>
    rw [if_neg h5]
    refine hκ.run 300 ?_
    simp (disch := omega) only [exec_succ, runR_next, runR_guard_tt, runR_guard_ft, runR_stop, stepS, runOp, guardS, toSR, sop, rOf, sPick, sLoad, sInt, sBin, sFieldAddr, ev, evs, Env.get, setO, OutOK_stop, undefS, undef, List.getElem?_toArray, List.getElem?_cons_succ, List.getElem?_cons_zero, Option.bind_some, ↓reduceIte, Nat.reduceLT, Nat.reduceEqDiff, Nat.zero_add, Nat.add_one_ne_zero, Int.reduceEq, Int.reduceNeg, Bool.not_true, decide_false, and_self, gl0, Try.fd65f10, Try.fd65f8, Try.fd65f9]
    refine hκ.ret _ _ _ _ _ _ trivial rfl ?_
    rw [show seenB x = false from no fun h => by have := (seenB_iff x).1 h; omega]
    exact .ret trivial
  rw [if_pos h5]
  refine hκ.run 300 ?_
  simp (disch := omega) only [exec_succ, runR_next, runR_guard_tt, runR_call, stepS, runOp, guardS, toSR, sop, rOf, sPick, sLoadIn, sLoad, sInt, sBin, sFieldAddr, ev, evs, Env.get, Heap.get, takeN, cut, aggOf, setO, OutOK_call, undefS, undef, List.getElem?_toArray, List.getElem?_cons_succ, List.getElem?_cons_zero, Option.bind_some, ↓reduceIte, Nat.reduceLT, Nat.reduceEqDiff, Nat.zero_add, Nat.add_one_ne_zero, Int.reduceNeg, Bool.not_true, decide_true, and_self, gl0, Try.sz3, Try.ag3, Try.fd65f8]
  refine Does.ret hκ.hP hκ.hgl (awithin_ok x.w 1 65535) ⟨trivial, by simp [SV.bnd, SV.bndL], by first | (simp [SV.bnd, SV.bndL]; done) | assumption⟩ ?_
  by_cases h6 : inI x.w 1 65535 = true
  case neg =>
    have q6 := mt (inI_iff x.w 1 65535).2 h6
    rw [show inI x.w 1 65535 = false by simpa using h6]
    refine hκ.run 300 ?_
    simp (disch := omega) only [exec_succ, runR_next, runR_guard_ft, runR_stop, stepS, runOp, guardS, toSR, sop, rOf, sPick, sLoad, sFieldAddr, ev, evs, Env.get, setO, OutOK_stop, undefS, undef, List.getElem?_toArray, List.getElem?_cons_succ, List.getElem?_cons_zero, Option.bind_some, ↓reduceIte, Nat.reduceLT, Nat.reduceEqDiff, Nat.zero_add, Nat.add_one_ne_zero, Int.reduceNeg, Bool.not_true, and_self, gl0, Try.fd65f10, Try.fd65f9]
    refine hκ.ret _ _ _ _ _ _ trivial rfl ?_
    rw [show seenB x = false from no fun h => by have := (seenB_iff x).1 h; omega]
    exact .ret trivial
  rw [h6]
  have q6 := (inI_iff x.w 1 65535).1 h6
  refine hκ.run 300 ?_
  simp (disch := omega) only [exec_succ, runR_next, runR_guard_tt, runR_call, stepS, runOp, guardS, toSR, sop, rOf, sPick, sLoadIn, sLoad, sFieldAddr, ev, evs, Env.get, Heap.get, takeN, cut, aggOf, setO, OutOK_call, undefS, undef, List.getElem?_toArray, List.getElem?_cons_succ, List.getElem?_cons_zero, Option.bind_some, ↓reduceIte, Nat.reduceLT, Nat.reduceEqDiff, Nat.zero_add, Nat.add_one_ne_zero, Int.reduceNeg, Bool.not_true, and_self, gl0, Try.sz3, Try.ag3, Try.fd65f9]
  refine Does.ret hκ.hP hκ.hgl (awithin_ok x.n 1 8) ⟨trivial, by simp [SV.bnd, SV.bndL], by first | (simp [SV.bnd, SV.bndL]; done) | assumption⟩ ?_
  by_cases h7 : inI x.n 1 8 = true
  case neg =>
    have q7 := mt (inI_iff x.n 1 8).2 h7
    rw [show inI x.n 1 8 = false by simpa using h7]
    refine hκ.run 300 ?_
    simp (disch := omega) only [exec_succ, runR_next, runR_guard_ft, runR_stop, stepS, runOp, guardS, toSR, sop, rOf, sPick, sLoad, sFieldAddr, ev, evs, Env.get, setO, OutOK_stop, undefS, undef, List.getElem?_toArray, List.getElem?_cons_succ, List.getElem?_cons_zero, Option.bind_some, ↓reduceIte, Nat.reduceLT, Nat.reduceEqDiff, Nat.zero_add, Nat.add_one_ne_zero, Int.reduceNeg, Bool.not_true, and_self, gl0, Try.fd65f10]
    refine hκ.ret _ _ _ _ _ _ trivial rfl ?_
    rw [show seenB x = false from no fun h => by have := (seenB_iff x).1 h; omega]
    exact .ret trivial
  rw [h7]
  have q7 := (inI_iff x.n 1 8).1 h7
  refine hκ.run 300 ?_
  simp (disch := omega) only [exec_succ, runR_next, runR_guard_tt, runR_call, stepS, runOp, guardS, toSR, sop, rOf, sPick, sLoadIn, sLoad, sFieldAddr, ev, evs, Env.get, Heap.get, takeN, cut, aggOf, setO, OutOK_call, undefS, undef, List.getElem?_toArray, List.getElem?_cons_succ, List.getElem?_cons_zero, Option.bind_some, ↓reduceIte, Nat.reduceLT, Nat.reduceEqDiff, Nat.zero_add, Nat.add_one_ne_zero, Int.reduceNeg, Bool.not_true, and_self, gl0, Try.sz3, Try.ag3, Try.fd65f10]
  refine Does.ret hκ.hP hκ.hgl (awithin_ok x.a 0 800) ⟨trivial, by simp [SV.bnd, SV.bndL], by first | (simp [SV.bnd, SV.bndL]; done) | assumption⟩ ?_
  by_cases h8 : inI x.a 0 800 = true
  case neg =>
    have q8 := mt (inI_iff x.a 0 800).2 h8
    rw [show inI x.a 0 800 = false by simpa using h8]
    refine hκ.run 300 ?_
    simp (disch := omega) only [exec_succ, runR_next, runR_stop, stepS, runOp, toSR, sop, rOf, sPick, ev, Env.get, setO, OutOK_stop, List.getElem?_toArray, List.getElem?_cons_succ, List.getElem?_cons_zero, ↓reduceIte, Nat.reduceLT, Nat.reduceEqDiff, Int.reduceNeg, gl0]
    refine hκ.ret _ _ _ _ _ _ trivial rfl ?_
    rw [show seenB x = false from no fun h => by have := (seenB_iff x).1 h; omega]
    exact .ret trivial
  rw [h8]
  have q8 := (inI_iff x.a 0 800).1 h8
  refine hκ.run 300 ?_
  simp (disch := omega) only [exec_succ, runR_next, runR_stop, stepS, runOp, toSR, sop, rOf, sPick, ev, Env.get, setO, OutOK_stop, List.getElem?_toArray, List.getElem?_cons_succ, List.getElem?_cons_zero, ↓reduceIte, Nat.reduceLT, Nat.reduceEqDiff, Int.reduceNeg, gl0]
  refine hκ.ret _ _ _ _ _ _ trivial rfl ?_
  rw [show seenB x = true from (seenB_iff x).2 (by refine ⟨?_, ?_, ?_, ?_, ?_, ?_, ?_, ?_, ?_⟩ <;> assumption)]
  exact .ret trivial
end Go.Proofs.Ytbjhphjpdeblnaa

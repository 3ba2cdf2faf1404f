/- Walk of an op's run. No condition. -/
import Derived.Test.YtfhiaddbpacgeaaOk
import Derived.Test.YtfhiaddbpacgeaaLo
namespace Go.Proofs.Ytfhiaddbpacgeaa
open Go Go.Sy
set_option maxRecDepth 100000
set_option linter.unusedSimpArgs false
set_option linter.unusedVariables false

def kdO (o : Od) : Nat := (o.k % 18446744073709551616).toNat % 6
def doE (p : List Nat) (o : Od) : Int := if kdO o < 2 then splitE p o.a o.s else if kdO o = 2 then joinE p o.a o.b else moveE p o.c o.b
def doX (p : List Nat) (o : Od) : List Nat := if kdO o < 2 then splitX p o.a o.s else if kdO o = 2 then joinX p o.a o.b else moveX p o.c o.b
def doN (p : List Nat) (o : Od) : Int := if kdO o < 2 then p.length else if kdO o = 2 then 0 else moveN p o.c
theorem run_ok (p : List Nat) (o : Od) (hx : u32s p) (hn : p.length < 2 ^ 44) (ho : inO o) : Con Try.prog gl0 (fnv 12) [.agg (eO o), Po p] 0 []
    (RetX 31 1 (doE p o) (fun r => .tup [.agg [r], I (doN p o), I 0]) ((doX p o).map eS) (.tup [noP, I 0, I (doE p o)])) := by
  have hE : doE p o = if kdO o < 2 then splitE p o.a o.s else if kdO o = 2 then joinE p o.a o.b else moveE p o.c o.b := rfl
  have hX : doX p o = if kdO o < 2 then splitX p o.a o.s else if kdO o = 2 then joinX p o.a o.b else moveX p o.c o.b := rfl
  have hN : doN p o = if kdO o < 2 then (p.length : Int) else if kdO o = 2 then 0 else (moveN p o.c : Int) := rfl
  have hkd : kdO o = (o.k % 18446744073709551616).toNat % 6 := rfl
  generalize doE p o = er at hE ⊢
  generalize doX p o = xr at hX ⊢
  generalize doN p o = nr at hN ⊢
  generalize kdO o = kd at hE hX hN hkd
  obtain ⟨ok, oa, ob, oc, os⟩ := o
  obtain ⟨h1, h2, h3, h4, h5⟩ := ho
  dsimp only at h1 h2 h3 h4 h5 hE hX hN hkd
  obtain ⟨w, hw⟩ : ∃ w : Nat, ok % 18446744073709551616 = (w : Int) := ⟨(ok % 18446744073709551616).toNat, by omega⟩
  have hwr : IntKind.u64.wrap ok = (w : Int) := by rw [wrap_u64_mod, hw]
  rw [hw, Int.toNat_natCast] at hkd
  have c1 := split_ok p oa os hx h5 hn
  have c2 := join_ok p oa ob hx hn
  have c3 := move_ok p oc ob hx h4 hn
  refine Con.of Try.ok12 (nt := 48) (res := [.cell 4 26, .tmp 5, .tmp 6]) Try.mixed Try.func12 rfl rfl rfl rfl fun κ xc hκ => hκ.run 300 ?_
  simp (disch := omega) only [exec_succ, runR_next, runR_need, stepS, runOp, condS, toSR, sop, rOf, rNew, sAlloc, sAlloc0, sBox, isArr, sLoadIn, sLoad, sInt, sBin, sConv, sFieldAddr, ev, svs, Env.get, Heap.get, takeN, cut, aggOf, cellsS, envOf, OutOK_need, Bool.false_eq_true, List.size_toArray, List.length_cons, List.length_nil, List.range, List.range.loop, List.getElem?_toArray, List.getElem?_cons_succ, List.getElem?_cons_zero, List.map_cons, List.map_nil, ↓reduceIte, Nat.reduceAdd, Nat.reduceLT, Nat.reduceEqDiff, Nat.zero_add, Nat.add_zero, Nat.add_one_ne_zero, Int.reduceEq, ne_eq, not_false_eq_true, true_and, forall_const, reduceCtorEq, Int.tmod_eq_emod_of_nonneg, gl0, Try.underlying3, Try.sz3, Try.ag3, Try.ze26, Try.ar26, Try.fd36f0, Try.underlying65, eO, hwr]
  by_cases k0 : w % 6 = 0
  · have e0 : ((w : Int) % 6 = 0) = True := by simp only [eq_iff_iff, iff_true]; omega
    rw [if_pos (by omega)] at hE hX hN
    subst hE hX hN
    by_cases he : splitE p oa os = 0
    · rw [RetX.ok he] at c1
      simp (disch := omega) only [exec_succ, runR_next, runR_fork_true, runR_call, stepS, runOp, condS, toSR, sop, rOf, sLoadIn, sLoad, sFieldAddr, ev, evs, Env.get, Heap.get, takeN, cut, aggOf, OutOK_call, List.size_toArray, List.length_cons, List.length_nil, List.range, List.range.loop, List.getElem?_toArray, List.getElem?_cons_succ, List.getElem?_cons_zero, ↓reduceIte, Nat.reduceAdd, Nat.reduceLT, Nat.reduceEqDiff, Nat.zero_add, Nat.add_one_ne_zero, decide_true, Try.sz3, Try.ag3, Try.sz26, Try.ag26, Try.sz31, Try.ag31, Try.fd36f1, Try.fd36f4, e0]
      refine Does.rowP hκ.hP hκ.hgl (pre := fun r => .tup [.agg [r], I p.length, I 0]) (Pre.aggE2 .agg1 _ _) c1 ⟨trivial, by simp [SV.bnd, SV.bndL]⟩ fun cap hcap => ?_
      rw [List.length_map] at hcap ⊢
      refine hκ.run 300 ?_
      simp (disch := omega) only [exec_succ, runR_next, runR_need, runR_stop, stepS, runOp, toSR, sop, rOf, sLoadIn, sLoad, sStoreIn, sStore, sExtract, ev, Env.get, Heap.get, Heap.set, takeN, cut, over, paste, aggOf, cellsS, one, ones, setO, OutOK_need, OutOK_stop, undefS, undef, List.size_toArray, List.length_cons, List.length_nil, List.range, List.range.loop, List.getElem?_toArray, List.getElem?_cons_succ, List.getElem?_cons_zero, ↓reduceIte, Nat.reduceAdd, Nat.reduceLT, Nat.reduceEqDiff, Nat.zero_add, true_and, and_self, forall_const, gl0, Try.sz26, Try.ag26]
      refine hκ.ret _ _ _ _ _ _ trivial rfl ?_
      rw [RetX.ok he]
      exact Post.rowP (pre := fun r => .tup [.agg [r], I p.length, I 0]) (Pre.aggE2 .agg1 _ _) rfl (by simp)
    · rw [RetX.no he] at c1
      simp (disch := omega) only [exec_succ, runR_next, runR_fork_true, runR_call, stepS, runOp, condS, toSR, sop, rOf, sLoadIn, sLoad, sFieldAddr, ev, evs, Env.get, Heap.get, takeN, cut, aggOf, OutOK_call, List.size_toArray, List.length_cons, List.length_nil, List.range, List.range.loop, List.getElem?_toArray, List.getElem?_cons_succ, List.getElem?_cons_zero, ↓reduceIte, Nat.reduceAdd, Nat.reduceLT, Nat.reduceEqDiff, Nat.zero_add, Nat.add_one_ne_zero, decide_true, Try.sz3, Try.ag3, Try.sz26, Try.ag26, Try.sz31, Try.ag31, Try.fd36f1, Try.fd36f4, e0]
      refine Does.ret hκ.hP hκ.hgl (c1) ⟨trivial, by simp [SV.bnd, SV.bndL], by first | (simp [SV.bnd, SV.bndL]; done) | assumption⟩ ?_
      have he' : (splitE p oa os = 0) = False := by simp [he]
      refine hκ.run 300 ?_
      simp (disch := omega) only [exec_succ, runR_next, runR_need, runR_stop, stepS, runOp, toSR, sop, rOf, sLoadIn, sLoad, sStoreIn, sStore, sExtract, ev, Env.get, Heap.get, Heap.set, takeN, cut, over, paste, aggOf, cellsS, one, ones, setO, Value.oneCell', OutOK_need, OutOK_stop, undefS, undef, List.size_toArray, List.length_cons, List.length_nil, List.range, List.range.loop, List.getElem?_toArray, List.getElem?_cons_succ, List.getElem?_cons_zero, ↓reduceIte, Nat.reduceAdd, Nat.reduceLT, Nat.reduceEqDiff, Nat.zero_add, true_and, and_self, forall_const, gl0, Try.sz26, Try.ag26]
      refine hκ.ret _ _ _ _ _ _ trivial rfl ?_
      rw [RetX.no he]
      exact .ret (by simp [SV.bnd, SV.bndL])
  have e0 : ((w : Int) % 6 = 0) = False := by simp only [eq_iff_iff, iff_false]; omega
  by_cases k1 : w % 6 = 1
  · have e1 : ((w : Int) % 6 = 1) = True := by simp only [eq_iff_iff, iff_true]; omega
    rw [if_pos (by omega)] at hE hX hN
    subst hE hX hN
    by_cases he : splitE p oa os = 0
    · rw [RetX.ok he] at c1
      simp (disch := omega) only [exec_succ, runR_next, runR_fork_true, runR_fork_false, runR_call, stepS, runOp, condS, toSR, sop, rOf, sLoadIn, sLoad, sInt, sBin, sFieldAddr, ev, evs, Env.get, Heap.get, takeN, cut, aggOf, OutOK_call, List.size_toArray, List.length_cons, List.length_nil, List.range, List.range.loop, List.getElem?_toArray, List.getElem?_cons_succ, List.getElem?_cons_zero, ↓reduceIte, Nat.reduceAdd, Nat.reduceLT, Nat.reduceEqDiff, Nat.zero_add, Nat.add_one_ne_zero, decide_true, decide_false, Try.sz3, Try.ag3, Try.sz26, Try.ag26, Try.sz31, Try.ag31, Try.fd36f1, Try.fd36f4, e0, e1]
      refine Does.rowP hκ.hP hκ.hgl (pre := fun r => .tup [.agg [r], I p.length, I 0]) (Pre.aggE2 .agg1 _ _) c1 ⟨trivial, by simp [SV.bnd, SV.bndL]⟩ fun cap hcap => ?_
      rw [List.length_map] at hcap ⊢
      refine hκ.run 300 ?_
      simp (disch := omega) only [exec_succ, runR_next, runR_need, runR_stop, stepS, runOp, toSR, sop, rOf, sLoadIn, sLoad, sStoreIn, sStore, sExtract, ev, Env.get, Heap.get, Heap.set, takeN, cut, over, paste, aggOf, cellsS, one, ones, setO, OutOK_need, OutOK_stop, undefS, undef, List.size_toArray, List.length_cons, List.length_nil, List.range, List.range.loop, List.getElem?_toArray, List.getElem?_cons_succ, List.getElem?_cons_zero, ↓reduceIte, Nat.reduceAdd, Nat.reduceLT, Nat.reduceEqDiff, Nat.zero_add, true_and, and_self, forall_const, gl0, Try.sz26, Try.ag26]
      refine hκ.ret _ _ _ _ _ _ trivial rfl ?_
      rw [RetX.ok he]
      exact Post.rowP (pre := fun r => .tup [.agg [r], I p.length, I 0]) (Pre.aggE2 .agg1 _ _) rfl (by simp)
    · rw [RetX.no he] at c1
      simp (disch := omega) only [exec_succ, runR_next, runR_fork_true, runR_fork_false, runR_call, stepS, runOp, condS, toSR, sop, rOf, sLoadIn, sLoad, sInt, sBin, sFieldAddr, ev, evs, Env.get, Heap.get, takeN, cut, aggOf, OutOK_call, List.size_toArray, List.length_cons, List.length_nil, List.range, List.range.loop, List.getElem?_toArray, List.getElem?_cons_succ, List.getElem?_cons_zero, ↓reduceIte, Nat.reduceAdd, Nat.reduceLT, Nat.reduceEqDiff, Nat.zero_add, Nat.add_one_ne_zero, decide_true, decide_false, Try.sz3, Try.ag3, Try.sz26, Try.ag26, Try.sz31, Try.ag31, Try.fd36f1, Try.fd36f4, e0, e1]
      refine Does.ret hκ.hP hκ.hgl (c1) ⟨trivial, by simp [SV.bnd, SV.bndL], by first | (simp [SV.bnd, SV.bndL]; done) | assumption⟩ ?_
      have he' : (splitE p oa os = 0) = False := by simp [he]
      refine hκ.run 300 ?_
      simp (disch := omega) only [exec_succ, runR_next, runR_need, runR_stop, stepS, runOp, toSR, sop, rOf, sLoadIn, sLoad, sStoreIn, sStore, sExtract, ev, Env.get, Heap.get, Heap.set, takeN, cut, over, paste, aggOf, cellsS, one, ones, setO, Value.oneCell', OutOK_need, OutOK_stop, undefS, undef, List.size_toArray, List.length_cons, List.length_nil, List.range, List.range.loop, List.getElem?_toArray, List.getElem?_cons_succ, List.getElem?_cons_zero, ↓reduceIte, Nat.reduceAdd, Nat.reduceLT, Nat.reduceEqDiff, Nat.zero_add, true_and, and_self, forall_const, gl0, Try.sz26, Try.ag26]
      refine hκ.ret _ _ _ _ _ _ trivial rfl ?_
      rw [RetX.no he]
      exact .ret (by simp [SV.bnd, SV.bndL])
  have e1 : ((w : Int) % 6 = 1) = False := by simp only [eq_iff_iff, iff_false]; omega
  by_cases k2 : w % 6 = 2
  · have e2 : ((w : Int) % 6 = 2) = True := by simp only [eq_iff_iff, iff_true]; omega
    rw [if_neg (by omega), if_pos (by omega)] at hE hX hN
    subst hE hX hN
    by_cases he : joinE p oa ob = 0
    · rw [RetX.ok he] at c2
      simp (disch := omega) only [exec_succ, runR_next, runR_fork_true, runR_fork_false, runR_call, stepS, runOp, condS, toSR, sop, rOf, sLoadIn, sLoad, sInt, sBin, sFieldAddr, ev, evs, Env.get, Heap.get, takeN, cut, aggOf, OutOK_call, List.size_toArray, List.length_cons, List.length_nil, List.range, List.range.loop, List.getElem?_toArray, List.getElem?_cons_succ, List.getElem?_cons_zero, ↓reduceIte, Nat.reduceAdd, Nat.reduceLT, Nat.reduceEqDiff, Nat.zero_add, Nat.add_one_ne_zero, decide_true, decide_false, Try.sz3, Try.ag3, Try.sz26, Try.ag26, Try.fd36f1, Try.fd36f2, e0, e1, e2]
      refine Does.rowP hκ.hP hκ.hgl (pre := fun r => .tup [.agg [r], I 0]) (Pre.aggE .agg1 _) c2 ⟨trivial, by simp [SV.bnd, SV.bndL]⟩ fun cap hcap => ?_
      rw [List.length_map] at hcap ⊢
      refine hκ.run 300 ?_
      simp (disch := omega) only [exec_succ, runR_next, runR_need, runR_stop, stepS, runOp, toSR, sop, rOf, sLoadIn, sLoad, sStoreIn, sStore, sExtract, ev, Env.get, Heap.get, Heap.set, takeN, cut, over, paste, aggOf, cellsS, one, ones, setO, OutOK_need, OutOK_stop, undefS, undef, List.size_toArray, List.length_cons, List.length_nil, List.range, List.range.loop, List.getElem?_toArray, List.getElem?_cons_succ, List.getElem?_cons_zero, ↓reduceIte, Nat.reduceAdd, Nat.reduceLT, Nat.reduceEqDiff, Nat.zero_add, true_and, and_self, forall_const, gl0, Try.sz26, Try.ag26]
      refine hκ.ret _ _ _ _ _ _ trivial rfl ?_
      rw [RetX.ok he]
      exact Post.rowP (pre := fun r => .tup [.agg [r], I 0, I 0]) (Pre.aggE2 .agg1 _ _) rfl (by simp)
    · rw [RetX.no he] at c2
      simp (disch := omega) only [exec_succ, runR_next, runR_fork_true, runR_fork_false, runR_call, stepS, runOp, condS, toSR, sop, rOf, sLoadIn, sLoad, sInt, sBin, sFieldAddr, ev, evs, Env.get, Heap.get, takeN, cut, aggOf, OutOK_call, List.size_toArray, List.length_cons, List.length_nil, List.range, List.range.loop, List.getElem?_toArray, List.getElem?_cons_succ, List.getElem?_cons_zero, ↓reduceIte, Nat.reduceAdd, Nat.reduceLT, Nat.reduceEqDiff, Nat.zero_add, Nat.add_one_ne_zero, decide_true, decide_false, Try.sz3, Try.ag3, Try.sz26, Try.ag26, Try.fd36f1, Try.fd36f2, e0, e1, e2]
      refine Does.ret hκ.hP hκ.hgl (c2) ⟨trivial, by simp [SV.bnd, SV.bndL], by first | (simp [SV.bnd, SV.bndL]; done) | assumption⟩ ?_
      have he' : (joinE p oa ob = 0) = False := by simp [he]
      refine hκ.run 300 ?_
      simp (disch := omega) only [exec_succ, runR_next, runR_need, runR_stop, stepS, runOp, toSR, sop, rOf, sLoadIn, sLoad, sStoreIn, sStore, sExtract, ev, Env.get, Heap.get, Heap.set, takeN, cut, over, paste, aggOf, cellsS, one, ones, setO, Value.oneCell', OutOK_need, OutOK_stop, undefS, undef, List.size_toArray, List.length_cons, List.length_nil, List.range, List.range.loop, List.getElem?_toArray, List.getElem?_cons_succ, List.getElem?_cons_zero, ↓reduceIte, Nat.reduceAdd, Nat.reduceLT, Nat.reduceEqDiff, Nat.zero_add, true_and, and_self, forall_const, gl0, Try.sz26, Try.ag26]
      refine hκ.ret _ _ _ _ _ _ trivial rfl ?_
      rw [RetX.no he]
      exact .ret (by simp [SV.bnd, SV.bndL])
  have e2 : ((w : Int) % 6 = 2) = False := by simp only [eq_iff_iff, iff_false]; omega
  rw [if_neg (by omega), if_neg (by omega)] at hE hX hN
  subst hE hX hN
  by_cases he : moveE p oc ob = 0
  · rw [RetX.ok he] at c3
    simp (disch := omega) only [exec_succ, runR_next, runR_fork_false, runR_call, stepS, runOp, condS, toSR, sop, rOf, sLoadIn, sLoad, sInt, sBin, sFieldAddr, ev, evs, Env.get, Heap.get, takeN, cut, aggOf, OutOK_call, List.size_toArray, List.length_cons, List.length_nil, List.range, List.range.loop, List.getElem?_toArray, List.getElem?_cons_succ, List.getElem?_cons_zero, ↓reduceIte, Nat.reduceAdd, Nat.reduceLT, Nat.reduceEqDiff, Nat.zero_add, Nat.add_one_ne_zero, decide_false, Try.sz3, Try.ag3, Try.sz26, Try.ag26, Try.fd36f2, Try.fd36f3, e0, e1, e2]
    refine Does.rowP hκ.hP hκ.hgl (pre := fun r => .tup [.agg [r], I (moveN p oc), I 0]) (Pre.aggE2 .agg1 _ _) c3 ⟨trivial, by simp [SV.bnd, SV.bndL]⟩ fun cap hcap => ?_
    rw [List.length_map] at hcap ⊢
    refine hκ.run 300 ?_
    simp (disch := omega) only [exec_succ, runR_next, runR_need, runR_stop, stepS, runOp, toSR, sop, rOf, sLoadIn, sLoad, sStoreIn, sStore, sExtract, ev, Env.get, Heap.get, Heap.set, takeN, cut, over, paste, aggOf, cellsS, one, ones, setO, OutOK_need, OutOK_stop, undefS, undef, List.size_toArray, List.length_cons, List.length_nil, List.range, List.range.loop, List.getElem?_toArray, List.getElem?_cons_succ, List.getElem?_cons_zero, ↓reduceIte, Nat.reduceAdd, Nat.reduceLT, Nat.reduceEqDiff, Nat.zero_add, true_and, and_self, forall_const, gl0, Try.sz26, Try.ag26]
    refine hκ.ret _ _ _ _ _ _ trivial rfl ?_
    rw [RetX.ok he]
    exact Post.rowP (pre := fun r => .tup [.agg [r], I (moveN p oc), I 0]) (Pre.aggE2 .agg1 _ _) rfl (by simp)
  · rw [RetX.no he] at c3
    simp (disch := omega) only [exec_succ, runR_next, runR_fork_false, runR_call, stepS, runOp, condS, toSR, sop, rOf, sLoadIn, sLoad, sInt, sBin, sFieldAddr, ev, evs, Env.get, Heap.get, takeN, cut, aggOf, OutOK_call, List.size_toArray, List.length_cons, List.length_nil, List.range, List.range.loop, List.getElem?_toArray, List.getElem?_cons_succ, List.getElem?_cons_zero, ↓reduceIte, Nat.reduceAdd, Nat.reduceLT, Nat.reduceEqDiff, Nat.zero_add, Nat.add_one_ne_zero, decide_false, Try.sz3, Try.ag3, Try.sz26, Try.ag26, Try.fd36f2, Try.fd36f3, e0, e1, e2]
    refine Does.ret hκ.hP hκ.hgl (c3) ⟨trivial, by simp [SV.bnd, SV.bndL], by first | (simp [SV.bnd, SV.bndL]; done) | assumption⟩ ?_
    have he' : (moveE p oc ob = 0) = False := by simp [he]
    refine hκ.run 300 ?_
    simp (disch := omega) only [exec_succ, runR_next, runR_need, runR_stop, stepS, runOp, toSR, sop, rOf, sLoadIn, sLoad, sStoreIn, sStore, sExtract, ev, Env.get, Heap.get, Heap.set, takeN, cut, over, paste, aggOf, cellsS, one, ones, setO, Value.oneCell', OutOK_need, OutOK_stop, undefS, undef, List.size_toArray, List.length_cons, List.length_nil, List.range, List.range.loop, List.getElem?_toArray, List.getElem?_cons_succ, List.getElem?_cons_zero, ↓reduceIte, Nat.reduceAdd, Nat.reduceLT, Nat.reduceEqDiff, Nat.zero_add, true_and, and_self, forall_const, gl0, Try.sz26, Try.ag26]
    refine hκ.ret _ _ _ _ _ _ trivial rfl ?_
    rw [RetX.no he]
    exact .ret (by simp [SV.bnd, SV.bndL])
theorem run_rd (p : List Nat) (o : Od) (hx : u32s p) (hn : p.length < 2 ^ 44) (ho : inO o) : Con Try.prog gl0 (fnv 12) [.agg (eO o), Po p] 0 []
    (Ret (if doE p o = 0 then .tup [Po (doX p o), I (doN p o), I 0] else .tup [noP, I 0, I (doE p o)])) := by
  have h := run_ok p o hx hn ho
  by_cases he : doE p o = 0
  · rw [RetX.ok he] at h
    rw [if_pos he]
    exact Con.toRdP (pre := fun r => .tup [.agg [r], I (doN p o), I 0]) (Pre.aggE2 .agg1 _ _) (by simp [SV.bnd, SV.bndL]) h
  · rw [RetX.no he] at h
    rw [if_neg he]
    exact h
end Go.Proofs.Ytfhiaddbpacgeaa

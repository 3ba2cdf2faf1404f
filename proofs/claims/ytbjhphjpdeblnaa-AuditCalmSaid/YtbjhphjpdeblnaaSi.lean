/- The spread: the program's walk. No condition. -/
import Derived.Test.YtbjhphjpdeblnaaSh
namespace Go.Proofs.Ytbjhphjpdeblnaa.Sh
open Go Go.Sy
set_option maxRecDepth 100000
set_option linter.unusedSimpArgs false
set_option linter.unusedVariables false

theorem askE_ok {l : List Pt} {b : Bool} (h : askE l b = 0) : rightP l = true ∧ b = true := by
  rw [askE] at h
  cases h1 : rightP l <;> cases b <;> rw [h1] at h <;> simp at h
  exact ⟨rfl, rfl⟩
/-- What a spread is a part of. -/
def spC (l : List Pt) (m gap : Int) : Nat := (2 * m * (1000000 + 2 * gap) * sumOf wW l).toNat
theorem Spread_err (l : List Pt) (m gap : Int) (hl : ∀ p ∈ l, inP p) (hn : l.length < 2 ^ 40) (h : askE l (inI m 1 8 && inI gap 1 10000000) ≠ 0) : Con Try.prog gl0 (fnv 45) [Ps l, I m, I gap] 0 [] (Ret (.tup [W 0, I (askE l (inI m 1 8 && inI gap 1 10000000))])) := by
  have c1 := asked_ok l (inI m 1 8 && inI gap 1 10000000) hl hn
  have c2 := within_ok gap 1 10000000
  rw [W_zero]
  refine Con.of Try.ok45 (nt := 69) (res := [.cell 6 83, .tmp 7]) Try.mixed Try.func45 rfl rfl rfl rfl fun κ xc hκ => hκ.run 300 ?_
  simp (disch := omega) only [exec_succ, runR_next, runR_call, stepS, runOp, toSR, sop, rOf, rNew, sAlloc, sAlloc0, ev, evs, svs, Env.get, envOf, OutOK_call, List.size_toArray, List.length_cons, List.length_nil, List.range, List.range.loop, List.getElem?_toArray, List.getElem?_cons_succ, List.getElem?_cons_zero, List.map_cons, List.map_nil, ↓reduceIte, Nat.reduceAdd, Nat.reduceLT, Nat.reduceEqDiff, Nat.zero_add, Nat.add_one_ne_zero, reduceCtorEq, gl0, Try.ze83, Try.ar83]
  refine Does.ret hκ.hP hκ.hgl (cpus_ok m) ⟨trivial, by simp [SV.bnd, SV.bndL], by first | (simp [SV.bnd, SV.bndL]; done) | assumption⟩ ?_
  refine hκ.run 300 ?_
  simp (disch := omega) only [exec_succ, runR_next, stepS, runOp, guardS, toSR, sop, rOf, ev, Env.get, setO, undefS, undef, List.getElem?_toArray, List.getElem?_cons_succ, List.getElem?_cons_zero, Option.bind_some, ↓reduceIte, Nat.reduceLT, Nat.reduceEqDiff, Bool.not_true, and_self, reduceCtorEq, gl0]
  cases hm : inI m 1 8
  · rw [hm, Bool.false_and] at hκ c1 h
    simp (disch := omega) only [exec_succ, runR_next, runR_guard_ft, runR_call, stepS, runOp, guardS, toSR, sop, rOf, sPick, ev, evs, Env.get, OutOK_call, undefS, undef, List.getElem?_toArray, List.getElem?_cons_succ, List.getElem?_cons_zero, Option.bind_some, ↓reduceIte, Nat.reduceLT, Nat.reduceEqDiff, Bool.not_true, and_self]
    refine Does.ret hκ.hP hκ.hgl (c1) ⟨trivial, by simp [SV.bnd, SV.bndL], by first | (simp [SV.bnd, SV.bndL]; done) | assumption⟩ ?_
    refine hκ.run 300 ?_
    simp (disch := omega) only [sBuild0, exec_succ, runR_next, runR_need, runR_fork_true, runR_stop, stepS, runOp, condS, toSR, sop, rOf, sStoreIn, sStore, sInt, sBin, fillS, evps, sBuild, ev, svs, Env.get, Heap.get, Heap.set, over, paste, cellsS, one, ones, setO, Value.oneCell', OutOK_need, OutOK_stop, undefS, undef, List.size_toArray, List.length_cons, List.length_nil, List.range, List.range.loop, List.getElem?_toArray, List.getElem?_cons_succ, List.getElem?_cons_zero, List.map_cons, List.map_nil, ↓reduceIte, Nat.reduceAdd, Nat.reduceLT, Nat.reduceEqDiff, Nat.zero_add, Bool.not_false, decide_false, true_and, and_self, forall_const, gl0, Try.sz83, Try.ze83, Try.pl83, Try.ar83, h]
    refine hκ.ret _ _ _ _ _ _ trivial rfl ?_
    exact .ret (by simp [SV.bnd, SV.bndL])
  · rw [hm, Bool.true_and] at hκ c1 h
    simp (disch := omega) only [exec_succ, runR_next, runR_guard_tt, runR_call, stepS, runOp, guardS, ev, evs, Env.get, OutOK_call, undefS, undef, List.getElem?_toArray, List.getElem?_cons_succ, List.getElem?_cons_zero, Option.bind_some, ↓reduceIte, Nat.reduceLT, Nat.reduceEqDiff, Bool.not_true, and_self]
    refine Does.ret hκ.hP hκ.hgl (c2) ⟨trivial, by simp [SV.bnd, SV.bndL], by first | (simp [SV.bnd, SV.bndL]; done) | assumption⟩ ?_
    refine hκ.run 300 ?_
    simp (disch := omega) only [exec_succ, runR_next, runR_call, stepS, runOp, toSR, sop, rOf, sPick, ev, evs, Env.get, setO, OutOK_call, List.getElem?_toArray, List.getElem?_cons_succ, List.getElem?_cons_zero, ↓reduceIte, Nat.reduceLT, Nat.reduceEqDiff, gl0]
    refine Does.ret hκ.hP hκ.hgl (c1) ⟨trivial, by simp [SV.bnd, SV.bndL], by first | (simp [SV.bnd, SV.bndL]; done) | assumption⟩ ?_
    refine hκ.run 300 ?_
    simp (disch := omega) only [sBuild0, exec_succ, runR_next, runR_need, runR_fork_true, runR_stop, stepS, runOp, condS, toSR, sop, rOf, sStoreIn, sStore, sInt, sBin, fillS, evps, sBuild, ev, svs, Env.get, Heap.get, Heap.set, over, paste, cellsS, one, ones, setO, Value.oneCell', OutOK_need, OutOK_stop, undefS, undef, List.size_toArray, List.length_cons, List.length_nil, List.range, List.range.loop, List.getElem?_toArray, List.getElem?_cons_succ, List.getElem?_cons_zero, List.map_cons, List.map_nil, ↓reduceIte, Nat.reduceAdd, Nat.reduceLT, Nat.reduceEqDiff, Nat.zero_add, Bool.not_false, decide_false, true_and, and_self, forall_const, gl0, Try.sz83, Try.ze83, Try.pl83, Try.ar83, h]
    refine hκ.ret _ _ _ _ _ _ trivial rfl ?_
    exact .ret (by simp [SV.bnd, SV.bndL])
theorem Spread_inf (l : List Pt) (m gap : Int) (hl : ∀ p ∈ l, inP p) (hr : rightP l = true) (hm : 1 ≤ m ∧ m ≤ 8) (hg : 1 ≤ gap ∧ gap ≤ 10000000) (hf : feasB l m = false) : Con Try.prog gl0 (fnv 45) [Ps l, I m, I gap] 0 [] (Ret (.tup [W 0, I 351])) := by
  obtain ⟨hn, hall, -⟩ := (rightP_iff l).1 hr
  have c1 := asked_ok l true hl (by omega)
  rw [askE, if_pos hr, if_pos rfl] at c1
  have c2 := within_ok gap 1 10000000
  rw [(inI_iff _ _ _).2 hg] at c2
  have c3 := cpus_ok m
  rw [(inI_iff _ _ _).2 hm] at c3
  have c4 := feas_ok l m hr hm
  rw [hf] at c4
  rw [W_zero]
  refine Con.of Try.ok45 (nt := 69) (res := [.cell 6 83, .tmp 7]) Try.mixed Try.func45 rfl rfl rfl rfl fun κ xc hκ => hκ.run 300 ?_
  simp (disch := omega) only [exec_succ, runR_next, runR_call, stepS, runOp, toSR, sop, rOf, rNew, sAlloc, sAlloc0, ev, evs, svs, Env.get, envOf, OutOK_call, List.size_toArray, List.length_cons, List.length_nil, List.range, List.range.loop, List.getElem?_toArray, List.getElem?_cons_succ, List.getElem?_cons_zero, List.map_cons, List.map_nil, ↓reduceIte, Nat.reduceAdd, Nat.reduceLT, Nat.reduceEqDiff, Nat.zero_add, Nat.add_one_ne_zero, reduceCtorEq, gl0, Try.ze83, Try.ar83]
  refine Does.ret hκ.hP hκ.hgl (c3) ⟨trivial, by simp [SV.bnd, SV.bndL], by first | (simp [SV.bnd, SV.bndL]; done) | assumption⟩ ?_
  refine hκ.run 300 ?_
  simp (disch := omega) only [exec_succ, runR_next, runR_guard_tt, runR_call, stepS, runOp, guardS, toSR, sop, rOf, ev, evs, Env.get, setO, OutOK_call, undefS, undef, List.getElem?_toArray, List.getElem?_cons_succ, List.getElem?_cons_zero, Option.bind_some, ↓reduceIte, Nat.reduceLT, Nat.reduceEqDiff, Bool.not_true, and_self, reduceCtorEq, gl0]
  refine Does.ret hκ.hP hκ.hgl (c2) ⟨trivial, by simp [SV.bnd, SV.bndL], by first | (simp [SV.bnd, SV.bndL]; done) | assumption⟩ ?_
  refine hκ.run 300 ?_
  simp (disch := omega) only [exec_succ, runR_next, runR_call, stepS, runOp, toSR, sop, rOf, sPick, ev, evs, Env.get, setO, OutOK_call, List.getElem?_toArray, List.getElem?_cons_succ, List.getElem?_cons_zero, ↓reduceIte, Nat.reduceLT, Nat.reduceEqDiff, gl0]
  refine Does.ret hκ.hP hκ.hgl (c1) ⟨trivial, by simp [SV.bnd, SV.bndL], by first | (simp [SV.bnd, SV.bndL]; done) | assumption⟩ ?_
  refine hκ.run 300 ?_
  simp (disch := omega) only [exec_succ, runR_next, runR_fork_false, runR_call, stepS, runOp, condS, toSR, sop, rOf, sInt, sBin, ev, evs, Env.get, setO, OutOK_call, List.size_toArray, List.length_cons, List.length_nil, List.range, List.range.loop, List.getElem?_toArray, List.getElem?_cons_succ, List.getElem?_cons_zero, ↓reduceIte, Nat.reduceAdd, Nat.reduceLT, Nat.reduceEqDiff, Nat.zero_add, Nat.add_one_ne_zero, Bool.not_true, decide_true, reduceCtorEq, gl0]
  refine Does.ret hκ.hP hκ.hgl (c4) ⟨trivial, by simp [SV.bnd, SV.bndL], by first | (simp [SV.bnd, SV.bndL]; done) | assumption⟩ ?_
  refine hκ.run 300 ?_
  simp (disch := omega) only [sBuild0, exec_succ, runR_next, runR_need, runR_fork_true, runR_stop, stepS, runOp, condS, toSR, sop, rOf, sStoreIn, sStore, sUn, fillS, evps, sBuild, ev, svs, Env.get, Heap.get, Heap.set, over, paste, cellsS, one, ones, setO, Value.oneCell', OutOK_need, OutOK_stop, undefS, undef, List.size_toArray, List.length_cons, List.length_nil, List.range, List.range.loop, List.getElem?_toArray, List.getElem?_cons_succ, List.getElem?_cons_zero, List.map_cons, List.map_nil, ↓reduceIte, Nat.reduceAdd, Nat.reduceLT, Nat.reduceEqDiff, Nat.zero_add, Bool.not_false, true_and, and_self, forall_const, gl0, Try.sz83, Try.ze83, Try.pl83, Try.ar83]
  refine hκ.ret _ _ _ _ _ _ trivial rfl ?_
  exact .ret (by simp [SV.bnd, SV.bndL])
theorem okP_pos {p : Pt} (h : okP p = true) : posP p := by
  have := (okP_iff p).1 h
  exact ⟨by omega, by omega⟩
theorem sum_weight {l : List Pt} (hr : rightP l = true) : Con Try.prog gl0 (fnv 72) [Ps l, fnv 73] 0 [] (Ret (I (sumOf wW l))) := by
  obtain ⟨hn, hall, -⟩ := (rightP_iff l).1 hr
  exact sum_ok 73 wW l (fun i p => weight_ok i p) (fun p hp => by have := (okP_iff p).1 (hall p hp); rw [wW]; omega) (by omega)
theorem ceilN_self {n d : Nat} (h : 0 < d) : ceilN n d ≤ n := (ceilN_le h).2 (Nat.le_mul_of_pos_right _ h)
theorem spC_bd {l : List Pt} {m gap : Int} (hr : rightP l = true) (hm : 1 ≤ m ∧ m ≤ 8) (hg : 1 ≤ gap ∧ gap ≤ 10000000) : (32 ≤ 2 * m * (1000000 + 2 * gap) ∧ 2 * m * (1000000 + 2 * gap) ≤ 336000000) ∧ ((spC l m gap : Nat) : Int) = 2 * m * (1000000 + 2 * gap) * sumOf wW l ∧ spC l m gap ≤ 176158080000000 := by
  have hW := sumW_bd hr
  have b1 : 32 ≤ 2 * m * (1000000 + 2 * gap) ∧ 2 * m * (1000000 + 2 * gap) ≤ 336000000 := by
    have : m = 1 ∨ m = 2 ∨ m = 3 ∨ m = 4 ∨ m = 5 ∨ m = 6 ∨ m = 7 ∨ m = 8 := by omega
    rcases this with rfl | rfl | rfl | rfl | rfl | rfl | rfl | rfl <;> omega
  have b2 := mul_bd (by omega) b1.2 hW.1 hW.2
  rw [spC]
  generalize 2 * m * (1000000 + 2 * gap) * sumOf wW l = y at *
  exact ⟨b1, by omega, by omega⟩
theorem Spread_yes (l : List Pt) (m gap : Int) (hl : ∀ p ∈ l, inP p) (hr : rightP l = true) (hm : 1 ≤ m ∧ m ≤ 8) (hg : 1 ≤ gap ∧ gap ≤ 10000000) (hf : feasB l m = true) : Con Try.prog gl0 (fnv 45) [Ps l, I m, I gap] 0 [] (Ret (.tup [W (spV (spC l m gap) l), I 0])) := by
  obtain ⟨hn, hall, -⟩ := (rightP_iff l).1 hr
  have hok := leOK_of (l := l) fun p hp => okP_pos (hall p hp)
  have c1 := asked_ok l true hl (by omega)
  rw [askE, if_pos hr, if_pos rfl] at c1
  have c2 := within_ok gap 1 10000000
  rw [(inI_iff _ _ _).2 hg] at c2
  have c3 := cpus_ok m
  rw [(inI_iff _ _ _).2 hm] at c3
  have c4 := feas_ok l m hr hm
  rw [hf] at c4
  have c5 := least_ok l hr
  have c6 := sum_weight hr
  obtain ⟨b1, hC, -⟩ := spC_bd hr hm hg
  have hW := sumW_bd hr
  have hmem : ∀ x ∈ allP l, okP x = true := fun x hx => by
    obtain ⟨k, hk, rfl⟩ := mem_allP hx
    exact hall _ (getD_mem hk)
  rw [spV]
  generalize spC l m gap = N at *
  generalize hwe : sumOf wW l = w at *
  generalize hX : 2 * m * (1000000 + 2 * gap) = x at *
  by_cases hn2 : 1 < (leOf l).n
  · obtain ⟨o1, -⟩ := hok.one (by omega)
    obtain ⟨-, -, t3, -⟩ := hok.two hn2
    have ha := (okP_iff _).1 (hmem _ o1)
    have hb := (okP_iff _).1 (hmem _ t3)
    rw [if_pos hn2, spN, mulP]
    rw [decide_eq_true hn2] at c5
    clear o1 t3 hmem hok hn2
    generalize (leOf l).a = a at *
    generalize (leOf l).b = b at *
    have b2 := mul_bd hW.1 hW.2 (show 0 ≤ a.2 by omega) ha.2.2
    have b3 := mul_bd b2.1 b2.2 (show 0 ≤ b.2 by omega) hb.2.2
    have b4 := mul_bd (show 0 ≤ a.1 by omega) ha.1.2 (show 0 ≤ b.1 by omega) hb.1.2
    have b6 : 0 < a.1 * b.1 := Int.mul_pos (by omega) (by omega)
    have b5 := mul_bd (show 0 ≤ a.2 by omega) ha.2.2 (show 0 ≤ b.2 by omega) hb.2.2
    obtain ⟨X, hXn⟩ : ∃ X : Nat, x = (X : Int) := ⟨x.toNat, by omega⟩
    obtain ⟨Y, hYn⟩ : ∃ Y : Nat, w * a.2 * b.2 = (Y : Int) := ⟨(w * a.2 * b.2).toNat, by omega⟩
    obtain ⟨D, hDn⟩ : ∃ D : Nat, a.1 * b.1 = (D : Int) := ⟨(a.1 * b.1).toNat, by omega⟩
    have hXY : N * (a.2 * b.2).toNat = X * Y := by
      have : ((N * (a.2 * b.2).toNat : Nat) : Int) = ((X * Y : Nat) : Int) := by
        rw [Int.natCast_mul, Int.natCast_mul, Int.toNat_of_nonneg b5.1, hC, ← hXn, ← hYn]
        grind
      exact Int.ofNat.inj this
    dsimp only
    rw [hXY, hDn, Int.toNat_natCast]
    rw [hDn] at b4 b6
    have hXb : X < 2 ^ 32 := by omega
    have hYb : Y < 2 ^ 32 := by omega
    have hXYb : X * Y < 2 ^ 64 := Nat.lt_of_lt_of_le (Nat.mul_lt_mul'' hXb hYb) (by decide)
    have c7 := wmul_ok X Y (by omega) (by omega)
    have c8 := wscale_ok (X * Y) 1 D (by omega) (by decide) (by omega) (by omega)
    have hce := ceilN_self (n := X * Y) (d := D) (by omega)
    rw [Nat.mul_one, if_pos (show ceilN (X * Y) D < 2 ^ 128 by omega), if_pos (show ceilN (X * Y) D < 2 ^ 128 by omega)] at c8
    have m1 : 0 ≤ m := by omega
    refine Con.of Try.ok45 (nt := 69) (res := [.cell 6 83, .tmp 7]) Try.mixed Try.func45 rfl rfl rfl rfl fun κ xc hκ => hκ.run 300 ?_
    simp (disch := omega) only [exec_succ, runR_next, runR_call, stepS, runOp, toSR, sop, rOf, rNew, sAlloc, sAlloc0, ev, evs, svs, Env.get, envOf, OutOK_call, List.size_toArray, List.length_cons, List.length_nil, List.range, List.range.loop, List.getElem?_toArray, List.getElem?_cons_succ, List.getElem?_cons_zero, List.map_cons, List.map_nil, ↓reduceIte, Nat.reduceAdd, Nat.reduceLT, Nat.reduceEqDiff, Nat.zero_add, Nat.add_one_ne_zero, reduceCtorEq, gl0, Try.ze83, Try.ar83]
    refine Does.ret hκ.hP hκ.hgl (c3) ⟨trivial, by simp [SV.bnd, SV.bndL], by first | (simp [SV.bnd, SV.bndL]; done) | assumption⟩ ?_
    refine hκ.run 300 ?_
    simp (disch := omega) only [exec_succ, runR_next, runR_guard_tt, runR_call, stepS, runOp, guardS, toSR, sop, rOf, ev, evs, Env.get, setO, OutOK_call, undefS, undef, List.getElem?_toArray, List.getElem?_cons_succ, List.getElem?_cons_zero, Option.bind_some, ↓reduceIte, Nat.reduceLT, Nat.reduceEqDiff, Bool.not_true, and_self, reduceCtorEq, gl0]
    refine Does.ret hκ.hP hκ.hgl (c2) ⟨trivial, by simp [SV.bnd, SV.bndL], by first | (simp [SV.bnd, SV.bndL]; done) | assumption⟩ ?_
    refine hκ.run 300 ?_
    simp (disch := omega) only [exec_succ, runR_next, runR_call, stepS, runOp, toSR, sop, rOf, sPick, ev, evs, Env.get, setO, OutOK_call, List.getElem?_toArray, List.getElem?_cons_succ, List.getElem?_cons_zero, ↓reduceIte, Nat.reduceLT, Nat.reduceEqDiff, gl0]
    refine Does.ret hκ.hP hκ.hgl (c1) ⟨trivial, by simp [SV.bnd, SV.bndL], by first | (simp [SV.bnd, SV.bndL]; done) | assumption⟩ ?_
    refine hκ.run 300 ?_
    simp (disch := omega) only [exec_succ, runR_next, runR_fork_false, runR_call, stepS, runOp, condS, toSR, sop, rOf, sInt, sBin, ev, evs, Env.get, setO, OutOK_call, List.size_toArray, List.length_cons, List.length_nil, List.range, List.range.loop, List.getElem?_toArray, List.getElem?_cons_succ, List.getElem?_cons_zero, ↓reduceIte, Nat.reduceAdd, Nat.reduceLT, Nat.reduceEqDiff, Nat.zero_add, Nat.add_one_ne_zero, Bool.not_true, decide_true, reduceCtorEq, gl0]
    refine Does.ret hκ.hP hκ.hgl (c4) ⟨trivial, by simp [SV.bnd, SV.bndL], by first | (simp [SV.bnd, SV.bndL]; done) | assumption⟩ ?_
    refine hκ.run 300 ?_
    simp (disch := omega) only [exec_succ, runR_next, runR_fork_false, runR_call, stepS, runOp, condS, toSR, sop, rOf, sUn, ev, evs, Env.get, setO, OutOK_call, List.size_toArray, List.length_cons, List.length_nil, List.range, List.range.loop, List.getElem?_toArray, List.getElem?_cons_succ, List.getElem?_cons_zero, ↓reduceIte, Nat.reduceAdd, Nat.reduceLT, Nat.zero_add, Nat.add_one_ne_zero, Bool.not_true, gl0]
    refine Does.ret hκ.hP hκ.hgl (c5) ⟨trivial, by simp [SV.bnd, SV.bndL], by first | (simp [SV.bnd, SV.bndL]; done) | assumption⟩ ?_
    refine hκ.run 300 ?_
    simp (disch := omega) only [allQuiet, quietOp, drawS, exec_succ, runR_next, runR_need, runR_fork_false, runR_stop, stepS, runOp, condS, toSR, sop, rOf, rNew, sAlloc, sAlloc0, sStoreIn, sStore, sUn, sExtract, ev, svs, Env.get, Heap.get, Heap.set, over, paste, cellsS, one, ones, setO, Value.oneCell', OutOK_need, OutOK_stop, Option.isNone_none, undefS, undef, Bool.and_true, Bool.and_false, List.size_toArray, List.length_cons, List.length_nil, List.range, List.range.loop, List.getElem?_toArray, List.getElem?_cons_succ, List.getElem?_cons_zero, List.map_cons, List.map_nil, ↓reduceIte, Nat.reduceAdd, Nat.reduceLT, Nat.reduceEqDiff, Nat.zero_add, Bool.not_true, true_and, and_self, forall_const, gl0, Try.sz107, Try.ze107, Try.ar107]
    subst hXn
    apply Sat.join (α := Unit) (nx := 3) (dfs := []) (fun _ => True) (fun _ => ([(11, .ptr 2 0 0 0), (9, .ptr 1 0 0 0), (6, .ptr 0 0 0 0)], [(2, .own [U (X * Y / 18446744073709551616), U (X * Y % 18446744073709551616)] 83), (1, .own [I a.1, I a.2, I b.1, I b.2] 107), (0, .own [U 0, U 0] 83)]))
    · intro hj
      have hj := hj () trivial
      refine hκ.draw (.q 0 (.q 1 (.q 2 (.q 3 (.q 4 (.q 5 (.q 6 (.q 7 (.q 8 (.q 10 (.q 11 (.q 12 (.q 14 (.q 15 (.q 16 (.or (.m 9 [12, 16] (.q 13 (.q 17 (.q 18 (.or (.m 19 [12, 16] (.l 20 [12, 16] (.l 21 [] (.fin)))) (.m 20 [12, 16] (.l 19 [12, 16] (.l 21 [] (.fin))))))))) (.m 20 [12, 16] (.l 9 [12, 16] (.q 13 (.q 17 (.q 18 (.l 19 [12, 16] (.l 21 [] (.fin)))))))))))))))))))))))) [0, 1, 2, 3, 4, 5, 6, 7, 8, 10, 11, 12, 13, 14, 15, 16, 17, 18] (by kernel_rfl) (by kernel_rfl) rfl ?_
      simp (disch := omega) only [sop, rOf, rNew, sAlloc, sAlloc0, sLoadIn, sLoad, sInt, sBin, sConv, sFieldAddr, sIndexAddr, elemT, obind, ev, evs, svs, Env.get, Heap.get, takeN, cut, aggOf, setO, drawP_q, drawP_l, dnext, dq, dqn, dl, slotR, ag, guardP, R1Q, dstOK, loudP, again, again1, slotIs, R1OK, drawP_m, drawP_or, Int.cast_ofNat_Int, List.getElem?_toArray, List.getElem?_cons_succ, List.getElem?_cons_zero, List.map_cons, List.map_nil, ↓reduceIte, Nat.reduceAdd, Nat.reduceLT, Nat.reduceEqDiff, Nat.zero_add, Nat.add_one_ne_zero, Int.reduceToNat, Int.reduceLT, Int.reduceLE, true_and, and_self, forall_const, reduceCtorEq, wrap_i64, wrap_u64, gl0, Try.underlying2, Try.underlying3, Try.sz3, Try.ag3, Try.sz80, Try.fd80f1, Try.underlying81, Try.ze83, Try.ar83, Try.underlying107, hX]
      (repeat (refine ⟨by first | omega | (refine ⟨?_, ?_⟩ <;> omega) | trivial | (simp; done) | decide +kernel, fun _ => ?_⟩))
      repeat' (refine And.intro ?_ ?_)
      all_goals
        refine DCall.of (Does.ret hκ.hP hκ.hgl (c6) ⟨trivial, by simp [SV.bnd, SV.bndL], by first | (simp [SV.bnd, SV.bndL]; done) | assumption⟩ ?_)
        simp (disch := omega) only [sop, rOf, rNew, sAlloc, sAlloc0, sLoadIn, sLoad, sInt, sBin, sConv, ev, evs, svs, Env.get, Heap.get, takeN, cut, aggOf, setO, drawP_q, drawP_l, dnext, dq, dqn, dl, slotR, ag, guardP, R1Q, dstOK, loudP, again, again1, slotIs, R1OK, drawP_m, drawP_or, List.getElem?_toArray, List.getElem?_cons_succ, List.getElem?_cons_zero, List.map_cons, List.map_nil, ↓reduceIte, Nat.reduceAdd, Nat.reduceLT, Nat.reduceEqDiff, true_and, and_self, wrap_i64, wrap_u64, Try.underlying3, Try.sz3, Try.ag3, Try.underlying81, Try.ze83, Try.ar83, hYn]
        (repeat (refine ⟨by first | omega | (refine ⟨?_, ?_⟩ <;> omega) | trivial | (simp; done) | decide +kernel, fun _ => ?_⟩))
      repeat' (refine And.intro ?_ ?_)
      all_goals
        refine DCall.of (Does.ret hκ.hP hκ.hgl (c7) ⟨trivial, by simp [SV.bnd, SV.bndL], by first | (simp [SV.bnd, SV.bndL]; done) | assumption⟩ ?_)
        simp (disch := omega) only [sop, rOf, rNew, sAlloc, sAlloc0, sLoadIn, sLoad, sStoreIn, sStore, ev, svs, Env.get, Heap.get, Heap.set, takeN, cut, over, paste, aggOf, cellsS, one, ones, setO, Value.oneCell', drawP_fin, drawP_l, dnext, dl, slotR, ag, guardP, dstOK, loudP, again, again1, slotIs, R1OK, undefS, undef, List.length_cons, List.length_nil, List.getElem?_toArray, List.getElem?_cons_succ, List.getElem?_cons_zero, List.map_cons, List.map_nil, ↓reduceIte, Nat.reduceAdd, Nat.reduceLT, Nat.reduceEqDiff, Nat.zero_add, true_and, and_self, forall_const, Try.sz3, Try.ag3, Try.sz83, Try.ze83, Try.ar83]
      all_goals first
        | (refine hj.less ?_ ?_ <;> (repeat' (first | exact EnvSub.nil _ | exact HeapSub.nil _ | refine EnvSub.cons rfl ?_ | refine HeapSub.cons rfl ?_)) <;> done)
        | refine Sat.via (fun i => i) (hj) (by intro i j; (repeat (first | omega | split))) (by repeat' (first | exact EnvVia.nil | refine EnvVia.cons (by first | trivial | decide | (simp [SV.bnd, SV.bndL]; done)) rfl ?_)) (by repeat' (first | exact HeapVia.nil | refine HeapVia.cons (by decide) (by first | trivial | (simp [Blk.bnd, SV.bnd, SV.bndL]; done) | exact bndL_mapV _ _ _ | exact LR.bnd (by rw [l2]; simp [bndE, SV.bnd, SV.bndL]) (by rw [l6]; decide)) (by first | rfl | (simp only [Blk.ren, renL_mapV]; rfl) | (rw [LR.ren (by rw [l2] <;> rfl) (by rw [l6] <;> rfl)]; rfl)) ?_)) ⟨by have := hκ.hm; (try dsimp only at this); (first | done | omega), fun i hi => by have := hκ.hm; (try dsimp only at this); (first | omega | (dsimp only; omega) | (rw [if_neg (by omega)]))⟩ ⟨by simp, rfl⟩
    intro _ _
    refine hκ.run 300 ?_
    simp (disch := omega) only [exec_succ, runR_next, runR_need, runR_call, stepS, runOp, toSR, sop, rOf, sLoadIn, sLoad, sInt, sBin, sConv, sFieldAddr, sIndexAddr, elemT, obind, ev, evs, Env.get, Heap.get, takeN, cut, aggOf, OutOK_need, OutOK_call, Int.cast_ofNat_Int, List.size_toArray, List.length_cons, List.length_nil, List.range, List.range.loop, List.getElem?_toArray, List.getElem?_cons_succ, List.getElem?_cons_zero, ↓reduceIte, Nat.reduceAdd, Nat.reduceLT, Nat.reduceEqDiff, Nat.zero_add, Nat.add_zero, Nat.add_one_ne_zero, Int.reduceToNat, Int.reduceLT, Int.reduceLE, true_and, and_self, forall_const, wrap_i64, wrap_u64, gl0, Try.underlying3, Try.sz3, Try.ag3, Try.sz80, Try.fd80f0, Try.underlying81, Try.sz83, Try.ag83, Try.underlying107, hDn]
    refine Does.ret hκ.hP hκ.hgl (c8) ⟨trivial, by simp [SV.bnd, SV.bndL], by first | (simp [SV.bnd, SV.bndL]; done) | assumption⟩ ?_
    refine hκ.run 300 ?_
    simp (disch := omega) only [exec_succ, runR_next, runR_need, runR_stop, stepS, runOp, toSR, sop, rOf, sStoreIn, sStore, sExtract, ev, Env.get, Heap.get, Heap.set, over, paste, cellsS, one, ones, setO, Value.oneCell', OutOK_need, OutOK_stop, undefS, undef, List.length_cons, List.length_nil, List.getElem?_toArray, List.getElem?_cons_succ, List.getElem?_cons_zero, ↓reduceIte, Nat.reduceAdd, Nat.reduceLT, Nat.reduceEqDiff, Nat.zero_add, Nat.add_one_ne_zero, true_and, and_self, forall_const, gl0, Try.sz83]
    refine hκ.ret _ _ _ _ _ _ trivial rfl ?_
    exact .ret (by simp [SV.bnd, SV.bndL])
  · rw [if_neg hn2, W_zero]
    rw [decide_eq_false hn2] at c5
    refine Con.of Try.ok45 (nt := 69) (res := [.cell 6 83, .tmp 7]) Try.mixed Try.func45 rfl rfl rfl rfl fun κ xc hκ => hκ.run 300 ?_
    simp (disch := omega) only [exec_succ, runR_next, runR_call, stepS, runOp, toSR, sop, rOf, rNew, sAlloc, sAlloc0, ev, evs, svs, Env.get, envOf, OutOK_call, List.size_toArray, List.length_cons, List.length_nil, List.range, List.range.loop, List.getElem?_toArray, List.getElem?_cons_succ, List.getElem?_cons_zero, List.map_cons, List.map_nil, ↓reduceIte, Nat.reduceAdd, Nat.reduceLT, Nat.reduceEqDiff, Nat.zero_add, Nat.add_one_ne_zero, reduceCtorEq, gl0, Try.ze83, Try.ar83]
    refine Does.ret hκ.hP hκ.hgl (c3) ⟨trivial, by simp [SV.bnd, SV.bndL], by first | (simp [SV.bnd, SV.bndL]; done) | assumption⟩ ?_
    refine hκ.run 300 ?_
    simp (disch := omega) only [exec_succ, runR_next, runR_guard_tt, runR_call, stepS, runOp, guardS, toSR, sop, rOf, ev, evs, Env.get, setO, OutOK_call, undefS, undef, List.getElem?_toArray, List.getElem?_cons_succ, List.getElem?_cons_zero, Option.bind_some, ↓reduceIte, Nat.reduceLT, Nat.reduceEqDiff, Bool.not_true, and_self, reduceCtorEq, gl0]
    refine Does.ret hκ.hP hκ.hgl (c2) ⟨trivial, by simp [SV.bnd, SV.bndL], by first | (simp [SV.bnd, SV.bndL]; done) | assumption⟩ ?_
    refine hκ.run 300 ?_
    simp (disch := omega) only [exec_succ, runR_next, runR_call, stepS, runOp, toSR, sop, rOf, sPick, ev, evs, Env.get, setO, OutOK_call, List.getElem?_toArray, List.getElem?_cons_succ, List.getElem?_cons_zero, ↓reduceIte, Nat.reduceLT, Nat.reduceEqDiff, gl0]
    refine Does.ret hκ.hP hκ.hgl (c1) ⟨trivial, by simp [SV.bnd, SV.bndL], by first | (simp [SV.bnd, SV.bndL]; done) | assumption⟩ ?_
    refine hκ.run 300 ?_
    simp (disch := omega) only [exec_succ, runR_next, runR_fork_false, runR_call, stepS, runOp, condS, toSR, sop, rOf, sInt, sBin, ev, evs, Env.get, setO, OutOK_call, List.size_toArray, List.length_cons, List.length_nil, List.range, List.range.loop, List.getElem?_toArray, List.getElem?_cons_succ, List.getElem?_cons_zero, ↓reduceIte, Nat.reduceAdd, Nat.reduceLT, Nat.reduceEqDiff, Nat.zero_add, Nat.add_one_ne_zero, Bool.not_true, decide_true, reduceCtorEq, gl0]
    refine Does.ret hκ.hP hκ.hgl (c4) ⟨trivial, by simp [SV.bnd, SV.bndL], by first | (simp [SV.bnd, SV.bndL]; done) | assumption⟩ ?_
    refine hκ.run 300 ?_
    simp (disch := omega) only [exec_succ, runR_next, runR_fork_false, runR_call, stepS, runOp, condS, toSR, sop, rOf, sUn, ev, evs, Env.get, setO, OutOK_call, List.size_toArray, List.length_cons, List.length_nil, List.range, List.range.loop, List.getElem?_toArray, List.getElem?_cons_succ, List.getElem?_cons_zero, ↓reduceIte, Nat.reduceAdd, Nat.reduceLT, Nat.zero_add, Nat.add_one_ne_zero, Bool.not_true, gl0]
    refine Does.ret hκ.hP hκ.hgl (c5) ⟨trivial, by simp [SV.bnd, SV.bndL], by first | (simp [SV.bnd, SV.bndL]; done) | assumption⟩ ?_
    refine hκ.run 300 ?_
    simp (disch := omega) only [sBuild0, exec_succ, runR_next, runR_need, runR_fork_true, runR_stop, stepS, runOp, condS, toSR, sop, rOf, rNew, sAlloc, sAlloc0, sStoreIn, sStore, sUn, sExtract, fillS, evps, sBuild, ev, svs, Env.get, Heap.get, Heap.set, over, paste, cellsS, one, ones, setO, Value.oneCell', OutOK_need, OutOK_stop, undefS, undef, List.size_toArray, List.length_cons, List.length_nil, List.range, List.range.loop, List.getElem?_toArray, List.getElem?_cons_succ, List.getElem?_cons_zero, List.map_cons, List.map_nil, ↓reduceIte, Nat.reduceAdd, Nat.reduceLT, Nat.reduceEqDiff, Nat.zero_add, Nat.add_one_ne_zero, Bool.not_false, true_and, and_self, forall_const, gl0, Try.sz83, Try.ze83, Try.pl83, Try.ar83, Try.sz107, Try.ze107, Try.ar107]
    refine hκ.ret _ _ _ _ _ _ trivial rfl ?_
    exact .ret (by simp [SV.bnd, SV.bndL])
end Go.Proofs.Ytbjhphjpdeblnaa.Sh

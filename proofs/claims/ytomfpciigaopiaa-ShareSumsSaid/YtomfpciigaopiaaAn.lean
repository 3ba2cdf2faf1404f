/- Who is full, and shares. No condition. -/
import Derived.Test.YtomfpciigaopiaaAm
namespace Go.Proofs.Ytomfpciigaopiaa
open Go Go.Sy
set_option maxRecDepth 100000
set_option linter.unusedSimpArgs false
set_option linter.unusedVariables false

theorem askE_ok {l : List Pt} {b : Bool} (h : askE l b = 0) : rightP l = true ∧ b = true := by
  rw [askE] at h
  cases h1 : rightP l <;> cases b <;> rw [h1] at h <;> simp at h
  exact ⟨rfl, rfl⟩
theorem Full_ok (l : List Pt) (m : Int) (hl : ∀ p ∈ l, inP p) (hn : l.length < 2 ^ 40) : Con Try.prog gl0 (fnv 12) [Ps l, I m] 0 [] (Ret (.tup [.rd 1 (Bs (if askE l (inI m 1 8) = 0 then fullV l m else [])), I (askE l (inI m 1 8))])) := by
  have c1 := asked_ok l (inI m 1 8) hl hn
  by_cases h : askE l (inI m 1 8) = 0
  · rw [if_pos h]
    obtain ⟨h1, h2⟩ := askE_ok h
    rw [h] at c1 ⊢
    refine Con.of Try.ok12 (nt := 25) (res := [.tmp 4, .tmp 5]) Try.mixed Try.func12 rfl rfl rfl rfl fun κ xc hκ => hκ.run 300 ?_
    simp (disch := omega) only [exec_succ, runR_next, runR_call, stepS, runOp, toSR, sop, rOf, ev, evs, Env.get, envOf, OutOK_call, List.size_toArray, List.length_cons, List.length_nil, List.range, List.range.loop, List.getElem?_toArray, List.getElem?_cons_succ, List.getElem?_cons_zero, ↓reduceIte, Nat.reduceAdd, Nat.reduceLT, Nat.reduceEqDiff, Nat.zero_add, Nat.add_one_ne_zero, reduceCtorEq, gl0]
    refine Does.ret hκ.hP hκ.hgl (cpus_ok m) ⟨trivial, by simp [SV.bnd, SV.bndL], by first | (simp [SV.bnd, SV.bndL]; done) | assumption⟩ ?_
    refine hκ.run 300 ?_
    simp (disch := omega) only [exec_succ, runR_call, stepS, runOp, ev, evs, Env.get, setO, OutOK_call, List.getElem?_toArray, List.getElem?_cons_succ, List.getElem?_cons_zero, ↓reduceIte, Nat.reduceLT, Nat.reduceEqDiff, gl0]
    refine Does.ret hκ.hP hκ.hgl (c1) ⟨trivial, by simp [SV.bnd, SV.bndL], by first | (simp [SV.bnd, SV.bndL]; done) | assumption⟩ ?_
    refine hκ.run 300 ?_
    simp (disch := omega) only [exec_succ, runR_next, runR_fork_false, runR_call, stepS, runOp, condS, toSR, sop, rOf, sInt, sBin, ev, evs, Env.get, setO, OutOK_call, List.size_toArray, List.length_cons, List.length_nil, List.range, List.range.loop, List.getElem?_toArray, List.getElem?_cons_succ, List.getElem?_cons_zero, ↓reduceIte, Nat.reduceAdd, Nat.reduceLT, Nat.reduceEqDiff, Nat.zero_add, Nat.add_one_ne_zero, Bool.not_true, decide_true, reduceCtorEq, gl0]
    refine Does.ret hκ.hP hκ.hgl (full_ok l m h1 ((inI_iff _ _ _).1 h2)) ⟨trivial, by simp [SV.bnd, SV.bndL], by first | (simp [SV.bnd, SV.bndL]; done) | assumption⟩ ?_
    refine hκ.run 300 ?_
    simp (disch := omega) only [exec_succ, runR_next, runR_stop, stepS, runOp, toSR, sop, rOf, sExtract, ev, Env.get, setO, OutOK_stop, List.size_toArray, List.length_cons, List.length_nil, List.range, List.range.loop, List.getElem?_toArray, List.getElem?_cons_succ, List.getElem?_cons_zero, ↓reduceIte, Nat.reduceAdd, Nat.reduceLT, Nat.reduceEqDiff, Nat.zero_add, gl0]
    refine hκ.ret _ _ _ _ _ _ trivial rfl ?_
    exact .ret (by simp [SV.bnd, SV.bndL])
  · rw [if_neg h]
    refine Con.repR (s := .tup [.v (.slice none 0 0), I (askE l (inI m 1 8))]) (fun ν => Rel.tupMap nil1) ?_
    refine Con.of Try.ok12 (nt := 25) (res := [.tmp 4, .tmp 5]) Try.mixed Try.func12 rfl rfl rfl rfl fun κ xc hκ => hκ.run 300 ?_
    simp (disch := omega) only [exec_succ, runR_next, runR_call, stepS, runOp, toSR, sop, rOf, ev, evs, Env.get, envOf, OutOK_call, List.size_toArray, List.length_cons, List.length_nil, List.range, List.range.loop, List.getElem?_toArray, List.getElem?_cons_succ, List.getElem?_cons_zero, ↓reduceIte, Nat.reduceAdd, Nat.reduceLT, Nat.reduceEqDiff, Nat.zero_add, Nat.add_one_ne_zero, reduceCtorEq, gl0]
    refine Does.ret hκ.hP hκ.hgl (cpus_ok m) ⟨trivial, by simp [SV.bnd, SV.bndL], by first | (simp [SV.bnd, SV.bndL]; done) | assumption⟩ ?_
    refine hκ.run 300 ?_
    simp (disch := omega) only [exec_succ, runR_call, stepS, runOp, ev, evs, Env.get, setO, OutOK_call, List.getElem?_toArray, List.getElem?_cons_succ, List.getElem?_cons_zero, ↓reduceIte, Nat.reduceLT, Nat.reduceEqDiff, gl0]
    refine Does.ret hκ.hP hκ.hgl (c1) ⟨trivial, by simp [SV.bnd, SV.bndL], by first | (simp [SV.bnd, SV.bndL]; done) | assumption⟩ ?_
    refine hκ.run 300 ?_
    simp (disch := omega) only [exec_succ, runR_next, runR_fork_true, runR_stop, stepS, runOp, condS, toSR, sop, rOf, sInt, sBin, ev, Env.get, setO, OutOK_stop, List.size_toArray, List.length_cons, List.length_nil, List.range, List.range.loop, List.getElem?_toArray, List.getElem?_cons_succ, List.getElem?_cons_zero, ↓reduceIte, Nat.reduceAdd, Nat.reduceLT, Nat.reduceEqDiff, Nat.zero_add, Bool.not_false, decide_false, gl0, h]
    refine hκ.ret _ _ _ _ _ _ trivial rfl ?_
    exact .ret (by simp [SV.bnd, SV.bndL])
/-- A share: the number, and what it is over. -/
def shareV (l : List Pt) (m : Int) (i : Nat) : Int × Int :=
  if (fullV l m).getD i default = true then ((l.getD i default).2, 1)
  else if leftF l (fullV l m) m ≤ 0 then (0, 1) else ((l.getD i default).1 * leftF l (fullV l m) m, wtF l (fullV l m))
abbrev Ui (n : Int) : SV := .v (.int .u64 n)
theorem Share_no (l : List Pt) (m i : Int) (hl : ∀ p ∈ l, inP p) (hn : l.length < 2 ^ 40) (h : askE l (inI m 1 8 && inI i 0 (l.length - 1)) ≠ 0) : Con Try.prog gl0 (fnv 13) [Ps l, I m, I i] 0 [] (Ret (.tup [Ui 0, Ui 0, I (askE l (inI m 1 8 && inI i 0 (l.length - 1)))])) := by
  have c1 := asked_ok l (inI m 1 8 && inI i 0 (l.length - 1)) hl hn
  refine Con.of Try.ok13 (nt := 61) (res := [.tmp 6, .tmp 7, .tmp 8]) Try.mixed Try.func13 rfl rfl rfl rfl fun κ xc hκ => hκ.run 300 ?_
  simp (disch := omega) only [exec_succ, runR_next, runR_call, stepS, runOp, toSR, sop, rOf, ev, evs, Env.get, envOf, OutOK_call, List.size_toArray, List.length_cons, List.length_nil, List.range, List.range.loop, List.getElem?_toArray, List.getElem?_cons_succ, List.getElem?_cons_zero, ↓reduceIte, Nat.reduceAdd, Nat.reduceLT, Nat.reduceEqDiff, Nat.zero_add, Nat.add_one_ne_zero, reduceCtorEq, gl0]
  refine Does.ret hκ.hP hκ.hgl (cpus_ok m) ⟨trivial, by simp [SV.bnd, SV.bndL], by first | (simp [SV.bnd, SV.bndL]; done) | assumption⟩ ?_
  refine hκ.run 300 ?_
  simp (disch := omega) only [exec_succ, runR_next, stepS, runOp, guardS, toSR, sop, rOf, ev, Env.get, setO, undefS, undef, List.getElem?_toArray, List.getElem?_cons_succ, List.getElem?_cons_zero, Option.bind_some, ↓reduceIte, Nat.reduceLT, Nat.reduceEqDiff, Bool.not_true, and_self, reduceCtorEq, gl0]
  cases hm : inI m 1 8
  · rw [hm, Bool.false_and] at hκ c1 h
    simp (disch := omega) only [sBuiltin, exec_succ, runR_next, runR_guard_ft, runR_call, stepS, runOp, guardS, toSR, sop, rOf, sPick, sBin, sLen, ev, evs, Env.get, OutOK_call, undefS, undef, List.getElem?_toArray, List.getElem?_cons_succ, List.getElem?_cons_zero, Option.bind_some, ↓reduceIte, Nat.reduceLT, Nat.reduceEqDiff, Nat.add_one_ne_zero, Bool.not_true, and_self, reduceCtorEq]
    refine Does.ret hκ.hP hκ.hgl (c1) ⟨trivial, by simp [SV.bnd, SV.bndL], by first | (simp [SV.bnd, SV.bndL]; done) | assumption⟩ ?_
    refine hκ.run 300 ?_
    simp (disch := omega) only [exec_succ, runR_next, runR_fork_true, runR_stop, stepS, runOp, condS, toSR, sop, rOf, sInt, sBin, ev, Env.get, setO, OutOK_stop, List.size_toArray, List.length_cons, List.length_nil, List.range, List.range.loop, List.getElem?_toArray, List.getElem?_cons_succ, List.getElem?_cons_zero, ↓reduceIte, Nat.reduceAdd, Nat.reduceLT, Nat.reduceEqDiff, Nat.zero_add, Bool.not_false, decide_false, gl0, h]
    refine hκ.ret _ _ _ _ _ _ trivial rfl ?_
    exact .ret (by simp [SV.bnd, SV.bndL])
  rw [hm, Bool.true_and] at hκ c1 h
  by_cases h0 : 0 ≤ i
  · by_cases h1 : i < l.length
    · rw [(inI_iff _ _ _).2 (by omega)] at hκ c1 h
      simp (disch := omega) only [sBuiltin, exec_succ, runR_next, runR_guard_tt, runR_call, stepS, runOp, guardS, toSR, sop, rOf, sPick, sInt, sBin, sLen, ev, evs, Env.get, OutOK_call, undefS, undef, List.length_map, List.getElem?_toArray, List.getElem?_cons_succ, List.getElem?_cons_zero, Option.bind_some, ↓reduceIte, Nat.reduceLT, Nat.reduceEqDiff, Nat.add_one_ne_zero, Bool.not_true, decide_true, and_self, reduceCtorEq, Try.underlying22, h0, h1]
      refine Does.ret hκ.hP hκ.hgl (c1) ⟨trivial, by simp [SV.bnd, SV.bndL], by first | (simp [SV.bnd, SV.bndL]; done) | assumption⟩ ?_
      refine hκ.run 300 ?_
      simp (disch := omega) only [exec_succ, runR_next, runR_fork_true, runR_stop, stepS, runOp, condS, toSR, sop, rOf, sInt, sBin, ev, Env.get, setO, OutOK_stop, List.size_toArray, List.length_cons, List.length_nil, List.range, List.range.loop, List.getElem?_toArray, List.getElem?_cons_succ, List.getElem?_cons_zero, ↓reduceIte, Nat.reduceAdd, Nat.reduceLT, Nat.reduceEqDiff, Nat.zero_add, Bool.not_false, decide_false, gl0, h]
      refine hκ.ret _ _ _ _ _ _ trivial rfl ?_
      exact .ret (by simp [SV.bnd, SV.bndL])
    · rw [inI_no (by omega)] at hκ c1 h
      simp (disch := omega) only [sBuiltin, exec_succ, runR_next, runR_guard_tt, runR_call, stepS, runOp, guardS, toSR, sop, rOf, sPick, sInt, sBin, sLen, ev, evs, Env.get, OutOK_call, undefS, undef, List.length_map, List.getElem?_toArray, List.getElem?_cons_succ, List.getElem?_cons_zero, Option.bind_some, ↓reduceIte, Nat.reduceLT, Nat.reduceEqDiff, Nat.add_one_ne_zero, Bool.not_true, decide_true, decide_false, and_self, reduceCtorEq, Try.underlying22, h0, h1]
      refine Does.ret hκ.hP hκ.hgl (c1) ⟨trivial, by simp [SV.bnd, SV.bndL], by first | (simp [SV.bnd, SV.bndL]; done) | assumption⟩ ?_
      refine hκ.run 300 ?_
      simp (disch := omega) only [exec_succ, runR_next, runR_fork_true, runR_stop, stepS, runOp, condS, toSR, sop, rOf, sInt, sBin, ev, Env.get, setO, OutOK_stop, List.size_toArray, List.length_cons, List.length_nil, List.range, List.range.loop, List.getElem?_toArray, List.getElem?_cons_succ, List.getElem?_cons_zero, ↓reduceIte, Nat.reduceAdd, Nat.reduceLT, Nat.reduceEqDiff, Nat.zero_add, Bool.not_false, decide_false, gl0, h]
      refine hκ.ret _ _ _ _ _ _ trivial rfl ?_
      exact .ret (by simp [SV.bnd, SV.bndL])
  · rw [inI_no (by omega)] at hκ c1 h
    simp (disch := omega) only [sBuiltin, exec_succ, runR_next, runR_guard_tt, runR_guard_ft, runR_call, stepS, runOp, guardS, toSR, sop, rOf, sPick, sInt, sBin, sLen, ev, evs, Env.get, OutOK_call, undefS, undef, List.getElem?_toArray, List.getElem?_cons_succ, List.getElem?_cons_zero, Option.bind_some, ↓reduceIte, Nat.reduceLT, Nat.reduceEqDiff, Nat.add_one_ne_zero, Bool.not_true, decide_false, and_self, reduceCtorEq, h0]
    refine Does.ret hκ.hP hκ.hgl (c1) ⟨trivial, by simp [SV.bnd, SV.bndL], by first | (simp [SV.bnd, SV.bndL]; done) | assumption⟩ ?_
    refine hκ.run 300 ?_
    simp (disch := omega) only [exec_succ, runR_next, runR_fork_true, runR_stop, stepS, runOp, condS, toSR, sop, rOf, sInt, sBin, ev, Env.get, setO, OutOK_stop, List.size_toArray, List.length_cons, List.length_nil, List.range, List.range.loop, List.getElem?_toArray, List.getElem?_cons_succ, List.getElem?_cons_zero, ↓reduceIte, Nat.reduceAdd, Nat.reduceLT, Nat.reduceEqDiff, Nat.zero_add, Bool.not_false, decide_false, gl0, h]
    refine hκ.ret _ _ _ _ _ _ trivial rfl ?_
    exact .ret (by simp [SV.bnd, SV.bndL])
theorem Share_yes (l : List Pt) (m : Int) (i : Nat) (hl : ∀ p ∈ l, inP p) (hr : rightP l = true) (hm : 1 ≤ m ∧ m ≤ 8) (hi : i < l.length) : Con Try.prog gl0 (fnv 13) [Ps l, I m, I i] 0 [] (Ret (.tup [Ui (shareV l m i).1, Ui (shareV l m i).2, I 0])) := by
  obtain ⟨hn, hall, -⟩ := (rightP_iff l).1 hr
  have c1 := asked_ok l true hl (by omega)
  rw [askE, if_pos hr, if_pos rfl] at c1
  have c2 := cpus_ok m
  rw [(inI_iff _ _ _).2 hm] at c2
  have c3 := full_ok l m hr hm
  have hp := (okP_iff _).1 (hall _ (getD_mem hi))
  have g1 : (List.map eP l).getD i [] = eP (l.getD i default) := getD_map _ _ _ (by omega)
  have hVl := fullV_len l m
  have g2 := Bs_get (b := fullV l m) (show i < (fullV l m).length by omega)
  have hL := leftF_bd (b := fullV l m) (m := m) hr
  have hW := wtF_bd (b := fullV l m) hr
  rw [shareV]
  generalize fullV l m = V at *
  generalize leftF l V m = left at *
  generalize wtF l V = w at *
  have b1 := smul_bd (A := 65535) (B := 64) (show 0 ≤ (l.getD i default).1 by omega) hp.1.2 (show -64 ≤ left by omega) (by omega) (by decide)
  generalize l.getD i default = p at *
  have hi2 : (i : Int) < (l.length : Int) := by omega
  have hi3 : (0 : Int) ≤ i := by omega
  refine Con.of Try.ok13 (nt := 61) (res := [.tmp 6, .tmp 7, .tmp 8]) Try.mixed Try.func13 rfl rfl rfl rfl fun κ xc hκ => hκ.run 300 ?_
  simp (disch := omega) only [exec_succ, runR_next, runR_call, stepS, runOp, toSR, sop, rOf, ev, evs, Env.get, envOf, OutOK_call, List.size_toArray, List.length_cons, List.length_nil, List.range, List.range.loop, List.getElem?_toArray, List.getElem?_cons_succ, List.getElem?_cons_zero, ↓reduceIte, Nat.reduceAdd, Nat.reduceLT, Nat.reduceEqDiff, Nat.zero_add, Nat.add_one_ne_zero, reduceCtorEq, gl0]
  refine Does.ret hκ.hP hκ.hgl (c2) ⟨trivial, by simp [SV.bnd, SV.bndL], by first | (simp [SV.bnd, SV.bndL]; done) | assumption⟩ ?_
  refine hκ.run 300 ?_
  simp (disch := omega) only [exec_succ, runR_next, runR_guard_tt, stepS, runOp, guardS, toSR, sop, rOf, sPick, sInt, sBin, ev, Env.get, setO, undefS, undef, List.getElem?_toArray, List.getElem?_cons_succ, List.getElem?_cons_zero, Option.bind_some, ↓reduceIte, Nat.reduceLT, Nat.reduceEqDiff, Bool.not_true, and_self, reduceCtorEq, gl0]
  simp (disch := omega) only [sBuiltin, exec_succ, runR_next, runR_guard_tt, runR_call, stepS, runOp, guardS, toSR, sop, rOf, sPick, sInt, sBin, sLen, ev, evs, Env.get, OutOK_call, undefS, undef, List.length_map, List.getElem?_toArray, List.getElem?_cons_succ, List.getElem?_cons_zero, Option.bind_some, ↓reduceIte, Nat.reduceLT, Nat.reduceEqDiff, Nat.add_one_ne_zero, Bool.not_true, decide_true, and_self, Try.underlying22, hi2, hi3]
  refine Does.ret hκ.hP hκ.hgl (c1) ⟨trivial, by simp [SV.bnd, SV.bndL], by first | (simp [SV.bnd, SV.bndL]; done) | assumption⟩ ?_
  refine hκ.run 300 ?_
  simp (disch := omega) only [exec_succ, runR_next, runR_fork_false, runR_call, stepS, runOp, condS, toSR, sop, rOf, sInt, sBin, ev, evs, Env.get, setO, OutOK_call, List.size_toArray, List.length_cons, List.length_nil, List.range, List.range.loop, List.getElem?_toArray, List.getElem?_cons_succ, List.getElem?_cons_zero, ↓reduceIte, Nat.reduceAdd, Nat.reduceLT, Nat.reduceEqDiff, Nat.zero_add, Nat.add_one_ne_zero, Bool.not_true, decide_true, reduceCtorEq, gl0]
  refine Does.ret hκ.hP hκ.hgl (c3) ⟨trivial, by simp [SV.bnd, SV.bndL], by first | (simp [SV.bnd, SV.bndL]; done) | assumption⟩ ?_
  refine hκ.run 300 ?_
  simp (disch := omega) only [exec_succ, runR_next, runR_need, stepS, runOp, condS, toSR, sop, rOf, sLoad, sIndexAddr, sExtract, elemT, obind, ev, Env.get, takeN, cut, aggOf, setO, OutOK_need, List.size_toArray, List.length_cons, List.length_nil, List.length_map, List.range, List.range.loop, List.getElem?_toArray, List.getElem?_cons_succ, List.getElem?_cons_zero, ↓reduceIte, Nat.reduceAdd, Nat.reduceLT, Nat.reduceEqDiff, Nat.zero_add, Int.toNat_natCast, reduceCtorEq, getD_map, gl0, Try.sz4, Try.ag4, Try.underlying28]
  (repeat (refine ⟨by first | omega | (refine ⟨?_, ?_⟩ <;> omega) | trivial | (simp; done) | decide +kernel, fun _ => ?_⟩))
  cases hx : V.getD i default
  · rw [hx, if_neg (by decide)] at hκ
    by_cases h0 : left ≤ 0
    · rw [if_pos h0] at hκ
      have hmx : max left 0 = 0 := Int.max_eq_right h0
      simp (disch := omega) only [exec_succ, runR_next, runR_fork_true, runR_fork_false, runR_stop, stepS, runOp, condS, toSR, sop, rOf, sInt, sBin, ev, Env.get, OutOK_stop, List.size_toArray, List.length_cons, List.length_nil, List.range, List.range.loop, List.getElem?_toArray, List.getElem?_cons_succ, List.getElem?_cons_zero, ↓reduceIte, Nat.reduceAdd, Nat.reduceLT, Nat.reduceEqDiff, Nat.zero_add, decide_true, hmx]
      refine hκ.ret _ _ _ _ _ _ trivial rfl ?_
      exact .ret (by simp [SV.bnd, SV.bndL])
    · rw [if_neg h0] at hκ
      have hmx : max left 0 = left := Int.max_eq_left (by omega)
      have b2 : 0 ≤ p.1 * left := Int.mul_nonneg (by omega) (by omega)
      have e0 : (left = 0) = False := by first | (simp only [eq_iff_iff, iff_false]; first | assumption | omega) | (simp; omega)
      simp (disch := omega) only [exec_succ, runR_next, runR_need, runR_fork_false, runR_stop, stepS, runOp, condS, toSR, sop, rOf, sLoad, sInt, sBin, sConv, sFieldAddr, sIndexAddr, elemT, obind, ev, Env.get, takeN, cut, aggOf, OutOK_need, OutOK_stop, List.size_toArray, List.length_cons, List.length_nil, List.length_map, List.range, List.range.loop, List.getElem?_toArray, List.getElem?_cons_succ, List.getElem?_cons_zero, ↓reduceIte, Nat.reduceAdd, Nat.reduceLT, Nat.reduceEqDiff, Nat.zero_add, Nat.add_zero, Nat.add_one_ne_zero, Int.toNat_natCast, decide_false, reduceCtorEq, wrap_i64, wrap_u64, Try.underlying3, Try.sz3, Try.ag3, Try.underlying22, Try.underlying31, Try.sz54, Try.fd54f0, g1, eP, hmx, e0]
      (repeat (refine ⟨by first | omega | (refine ⟨?_, ?_⟩ <;> omega) | trivial | (simp; done) | decide +kernel, fun _ => ?_⟩))
      refine hκ.ret _ _ _ _ _ _ trivial rfl ?_
      exact .ret (by simp [SV.bnd, SV.bndL])
  · rw [hx, if_pos rfl] at hκ
    simp (disch := omega) only [exec_succ, runR_next, runR_need, runR_fork_true, runR_stop, stepS, runOp, toSR, sop, rOf, sLoad, sConv, sFieldAddr, sIndexAddr, elemT, obind, ev, Env.get, takeN, cut, aggOf, OutOK_need, OutOK_stop, List.size_toArray, List.length_cons, List.length_nil, List.length_map, List.range, List.range.loop, List.getElem?_toArray, List.getElem?_cons_succ, List.getElem?_cons_zero, ↓reduceIte, Nat.reduceAdd, Nat.reduceLT, Nat.reduceEqDiff, Nat.zero_add, Nat.add_one_ne_zero, Int.toNat_natCast, reduceCtorEq, wrap_u64, Try.underlying3, Try.sz3, Try.ag3, Try.underlying22, Try.underlying31, Try.sz54, Try.fd54f1, g1, eP]
    (repeat (refine ⟨by first | omega | (refine ⟨?_, ?_⟩ <;> omega) | trivial | (simp; done) | decide +kernel, fun _ => ?_⟩))
    refine hκ.ret _ _ _ _ _ _ trivial rfl ?_
    exact .ret (by simp [SV.bnd, SV.bndL])
theorem rshare_ok (l : List Pt) (m : Int) (i : Nat) (hr : rightP l = true) (hm : 1 ≤ m ∧ m ≤ 8) (hi : i < l.length) : Con Try.prog gl0 (fnv 18) [Ps l, I m, I i] 0 [] (Ret (.tup [Ui (shareV l m i).1, Ui (shareV l m i).2])) := by
  obtain ⟨hn, hall, -⟩ := (rightP_iff l).1 hr
  have c3 := rfull_ok l m hr hm
  have hp := (okP_iff _).1 (hall _ (getD_mem hi))
  have g1 : (List.map eP l).getD i [] = eP (l.getD i default) := getD_map _ _ _ (by omega)
  have hVl := fullV_len l m
  have g2 := Bs_get (b := fullV l m) (show i < (fullV l m).length by omega)
  have hL := leftF_bd (b := fullV l m) (m := m) hr
  have hW := wtF_bd (b := fullV l m) hr
  have c4 := left_ok l (fullV l m) m hr hVl (by omega)
  have c5 := weights_ok l (fullV l m) hr hVl
  rw [shareV]
  generalize fullV l m = V at *
  generalize leftF l V m = left at *
  generalize wtF l V = w at *
  have b1 := smul_bd (A := 65535) (B := 64) (show 0 ≤ (l.getD i default).1 by omega) hp.1.2 (show -64 ≤ left by omega) (by omega) (by decide)
  generalize l.getD i default = p at *
  refine Con.of Try.ok18 (nt := 41) (res := [.tmp 6, .tmp 7]) Try.mixed Try.func18 rfl rfl rfl rfl fun κ xc hκ => hκ.run 300 ?_
  simp (disch := omega) only [exec_succ, runR_next, runR_call, stepS, runOp, toSR, sop, rOf, ev, evs, Env.get, envOf, OutOK_call, List.size_toArray, List.length_cons, List.length_nil, List.range, List.range.loop, List.getElem?_toArray, List.getElem?_cons_succ, List.getElem?_cons_zero, ↓reduceIte, Nat.reduceAdd, Nat.reduceLT, Nat.reduceEqDiff, Nat.zero_add, Nat.add_one_ne_zero, reduceCtorEq, gl0]
  refine Does.ret hκ.hP hκ.hgl (c3) ⟨trivial, by simp [SV.bnd, SV.bndL], by first | (simp [SV.bnd, SV.bndL]; done) | assumption⟩ ?_
  refine hκ.run 300 ?_
  simp (disch := omega) only [exec_succ, runR_next, runR_need, stepS, runOp, condS, toSR, sop, rOf, sLoad, sIndexAddr, elemT, obind, ev, Env.get, takeN, cut, aggOf, setO, OutOK_need, List.size_toArray, List.length_cons, List.length_nil, List.length_map, List.range, List.range.loop, List.getElem?_toArray, List.getElem?_cons_succ, List.getElem?_cons_zero, ↓reduceIte, Nat.reduceAdd, Nat.reduceLT, Nat.reduceEqDiff, Nat.zero_add, Int.toNat_natCast, reduceCtorEq, getD_map, gl0, Try.sz4, Try.ag4, Try.underlying28]
  (repeat (refine ⟨by first | omega | (refine ⟨?_, ?_⟩ <;> omega) | trivial | (simp; done) | decide +kernel, fun _ => ?_⟩))
  cases hx : V.getD i default
  · rw [hx, if_neg (by decide)] at hκ
    simp (disch := omega) only [exec_succ, runR_next, runR_fork_false, runR_call, stepS, runOp, toSR, sop, rOf, ev, evs, Env.get, OutOK_call, List.size_toArray, List.length_cons, List.length_nil, List.range, List.range.loop, List.getElem?_toArray, List.getElem?_cons_succ, List.getElem?_cons_zero, ↓reduceIte, Nat.reduceAdd, Nat.reduceLT, Nat.reduceEqDiff, Nat.zero_add, Nat.add_one_ne_zero, reduceCtorEq]
    (repeat (refine ⟨by first | omega | (refine ⟨?_, ?_⟩ <;> omega) | trivial | (simp; done) | decide +kernel, fun _ => ?_⟩))
    refine Does.ret hκ.hP hκ.hgl (c4) ⟨trivial, by simp [SV.bnd, SV.bndL], by first | (simp [SV.bnd, SV.bndL]; done) | assumption⟩ ?_
    by_cases h0 : left ≤ 0
    · rw [if_pos h0] at hκ
      refine hκ.run 300 ?_
      simp (disch := omega) only [exec_succ, runR_next, runR_fork_true, runR_stop, stepS, runOp, condS, toSR, sop, rOf, sInt, sBin, ev, Env.get, setO, OutOK_stop, List.size_toArray, List.length_cons, List.length_nil, List.range, List.range.loop, List.getElem?_toArray, List.getElem?_cons_succ, List.getElem?_cons_zero, ↓reduceIte, Nat.reduceAdd, Nat.reduceLT, Nat.zero_add, decide_true, gl0, h0]
      refine hκ.ret _ _ _ _ _ _ trivial rfl ?_
      exact .ret (by simp [SV.bnd, SV.bndL])
    · rw [if_neg h0] at hκ
      have b2 : 0 ≤ p.1 * left := Int.mul_nonneg (by omega) (by omega)
      refine hκ.run 300 ?_
      simp (disch := omega) only [allQuiet, quietOp, drawS, exec_succ, runR_next, runR_fork_false, runR_stop, stepS, runOp, condS, toSR, sop, rOf, sInt, sBin, ev, Env.get, setO, OutOK_stop, Option.isNone_none, Bool.and_true, Bool.and_false, List.size_toArray, List.length_cons, List.length_nil, List.range, List.range.loop, List.getElem?_toArray, List.getElem?_cons_succ, List.getElem?_cons_zero, ↓reduceIte, Nat.reduceAdd, Nat.reduceLT, Nat.zero_add, decide_false, gl0, h0]
      refine hκ.draw (.q 0 (.q 1 (.q 2 (.q 3 (.q 4 (.q 5 (.q 6 (.q 7 (.q 8 (.q 9 (.l 10 [4] (.q 11 (.q 12 (.q 13 (.fin))))))))))))))) [0, 1, 2, 3, 4, 5, 6, 7, 8, 9, 11, 12, 13] (by kernel_rfl) (by kernel_rfl) rfl ?_
      simp (disch := omega) only [sop, rOf, sLoad, sInt, sBin, sConv, sFieldAddr, sIndexAddr, elemT, obind, ev, evs, Env.get, takeN, cut, aggOf, setO, drawP_q, drawP_l, dq, dqn, dl, guardP, R1Q, dstOK, loudP, List.length_map, List.getElem?_toArray, List.getElem?_cons_succ, List.getElem?_cons_zero, ↓reduceIte, Nat.reduceLT, Nat.reduceEqDiff, Nat.add_zero, Nat.add_one_ne_zero, Int.toNat_natCast, true_and, reduceCtorEq, wrap_i64, wrap_u64, gl0, Try.underlying3, Try.sz3, Try.ag3, Try.underlying22, Try.underlying31, Try.sz54, Try.fd54f0, g1, eP]
      (repeat (refine ⟨by first | omega | (refine ⟨?_, ?_⟩ <;> omega) | trivial | (simp; done) | decide +kernel, fun _ => ?_⟩))
      refine DCall.of (Does.ret hκ.hP hκ.hgl (c5) ⟨trivial, by simp [SV.bnd, SV.bndL], by first | (simp [SV.bnd, SV.bndL]; done) | assumption⟩ ?_)
      simp (disch := omega) only [sop, rOf, sLoad, sConv, ev, Env.get, takeN, cut, aggOf, setO, drawP_fin, drawP_q, dnext, dq, dqn, slotR, ag, guardP, R1Q, dstOK, again, again1, slotIs, R1OK, List.getElem?_toArray, List.getElem?_cons_succ, List.getElem?_cons_zero, ↓reduceIte, Nat.reduceLT, Nat.reduceEqDiff, true_and, and_self, wrap_u64, Try.underlying3, Try.sz3, Try.ag3, Try.underlying31]
      (repeat (refine ⟨by first | omega | (refine ⟨?_, ?_⟩ <;> omega) | trivial | (simp; done) | decide +kernel, fun _ => ?_⟩))
      refine hκ.run 300 ?_
      simp (disch := omega) only [exec_succ, runR_stop, stepS, OutOK_stop, gl0]
      (repeat (refine ⟨by first | omega | (refine ⟨?_, ?_⟩ <;> omega) | trivial | (simp; done) | decide +kernel, fun _ => ?_⟩))
      refine hκ.ret _ _ _ _ _ _ trivial rfl ?_
      exact .ret (by simp [SV.bnd, SV.bndL])
  · rw [hx, if_pos rfl] at hκ
    simp (disch := omega) only [exec_succ, runR_next, runR_need, runR_fork_true, runR_stop, stepS, runOp, toSR, sop, rOf, sLoad, sConv, sFieldAddr, sIndexAddr, elemT, obind, ev, Env.get, takeN, cut, aggOf, OutOK_need, OutOK_stop, List.size_toArray, List.length_cons, List.length_nil, List.length_map, List.range, List.range.loop, List.getElem?_toArray, List.getElem?_cons_succ, List.getElem?_cons_zero, ↓reduceIte, Nat.reduceAdd, Nat.reduceLT, Nat.reduceEqDiff, Nat.zero_add, Nat.add_one_ne_zero, Int.toNat_natCast, reduceCtorEq, wrap_u64, Try.underlying3, Try.sz3, Try.ag3, Try.underlying22, Try.underlying31, Try.sz54, Try.fd54f1, g1, eP]
    (repeat (refine ⟨by first | omega | (refine ⟨?_, ?_⟩ <;> omega) | trivial | (simp; done) | decide +kernel, fun _ => ?_⟩))
    refine hκ.ret _ _ _ _ _ _ trivial rfl ?_
    exact .ret (by simp [SV.bnd, SV.bndL])
end Go.Proofs.Ytomfpciigaopiaa

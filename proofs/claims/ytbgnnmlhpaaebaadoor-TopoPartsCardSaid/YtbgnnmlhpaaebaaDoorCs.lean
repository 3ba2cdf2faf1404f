/- Walks of cpuset. No condition. -/
import Derived.Test.YtbgnnmlhpaaebaaDoorGz
namespace Go.Proofs.YtbgnnmlhpaaebaaDoor
open Go Go.Sy
set_option maxRecDepth 100000
set_option linter.unusedSimpArgs false
set_option linter.unusedVariables false

theorem pow32 : ∀ n : Nat, n < 32 → IntKind.u32.wrap (1 * 2 ^ n) = ((2 ^ n : Nat) : Int) := by decide +kernel
theorem check_ok (s : Nat) (hs : s < 4294967296) : Con Tryd.prog gl0 (fnv 40) [S s] 0 [] (Ret (I (if s < 256 then 0 else 140))) := by
  refine Con.of Tryd.ok40 (nt := 6) (res := [.tmp 2]) Tryd.mixed Tryd.func40 rfl rfl rfl rfl fun κ xc hκ => hκ.run 300 ?_
  simp (disch := omega) only [exec_succ, runR_next, stepS, runOp, condS, toSR, sop, rOf, sInt, sBin, ev, Env.get, envOf, List.size_toArray, List.length_cons, List.length_nil, List.range, List.range.loop, List.getElem?_toArray, List.getElem?_cons_succ, List.getElem?_cons_zero, ↓reduceIte, Nat.reduceAdd, Nat.reduceLT, Nat.zero_add, Nat.add_one_ne_zero, gl0, andNot32_255]
  have e : (((dif s 255 : Nat) : Int) = 0) ↔ s < 256 := by rw [← dif_255]; omega
  refine OutOK_fork (fun h => ?_) (fun h => ?_) <;> try simp only [Bool.not_true, Bool.not_false, decide_eq_true_eq, decide_eq_false_iff_not, Bool.not_eq_true', Bool.not_eq_false', Bool.and_eq_true, Bool.or_eq_false_iff, Bool.or_eq_true, Bool.and_eq_false_iff] at h
  · simp (disch := omega) only [exec_succ, runR_next, runR_stop, stepS, runOp, toSR, sop, rOf, ev, OutOK_stop, List.size_toArray, List.length_cons, List.length_nil, List.range, List.range.loop, List.getElem?_toArray, List.getElem?_cons_zero, ↓reduceIte, Nat.reduceLT, Nat.zero_add]
    refine hκ.ret _ _ _ _ _ _ trivial rfl ?_
    rw [if_neg (by rw [← e]; exact h)]
    exact .ret trivial
  · simp (disch := omega) only [exec_succ, runR_next, runR_stop, stepS, runOp, toSR, sop, rOf, ev, OutOK_stop, List.size_toArray, List.length_cons, List.length_nil, List.range, List.range.loop, List.getElem?_toArray, List.getElem?_cons_zero, ↓reduceIte, Nat.reduceLT, Nat.zero_add]
    refine hκ.ret _ _ _ _ _ _ trivial rfl ?_
    rw [if_pos (by rw [← e]; exact h)]
    exact .ret trivial
theorem bit_ok (c : Int) (hc : -9223372036854775808 ≤ c ∧ c ≤ 9223372036854775807) : Con Tryd.prog gl0 (fnv 51) [I c] 0 [] (Ret (S (bitN c))) := by
  refine Con.of Tryd.ok51 (nt := 11) (res := [.tmp 2]) Tryd.mixed Tryd.func51 rfl rfl rfl rfl fun κ xc hκ => hκ.run 300 ?_
  simp (disch := omega) only [exec_succ, runR_next, stepS, runOp, guardS, toSR, sop, rOf, sInt, sBin, ev, Env.get, envOf, undefS, undef, List.size_toArray, List.length_cons, List.length_nil, List.range, List.range.loop, List.getElem?_toArray, List.getElem?_cons_succ, List.getElem?_cons_zero, Option.bind_some, ↓reduceIte, Nat.reduceAdd, Nat.reduceLT, Nat.zero_add, Nat.add_one_ne_zero, Bool.not_false, and_self, gl0]
  (first | refine OutOK_guard (fun h => ?_) (fun h => ?_) | refine GF.of (fun h => ?_) (fun h => ?_)) <;> try simp only [Bool.not_true, Bool.not_false, decide_eq_true_eq, decide_eq_false_iff_not, Bool.not_eq_true', Bool.not_eq_false', Bool.and_eq_true, Bool.or_eq_false_iff, Bool.or_eq_true, Bool.and_eq_false_iff] at h
  · simp (disch := omega) only [exec_succ, runR_next, runR_guard_ff, stepS, runOp, guardS, condS, toSR, sop, rOf, sPick, sInt, sBin, ev, Env.get, undefS, undef, List.getElem?_toArray, List.getElem?_cons_succ, List.getElem?_cons_zero, Option.bind_some, ↓reduceIte, Nat.reduceLT, Nat.reduceEqDiff, Bool.not_false, and_self]
    refine OutOK_fork (fun h => ?_) (fun h => ?_) <;> try simp only [Bool.not_true, Bool.not_false, decide_eq_true_eq, decide_eq_false_iff_not, Bool.not_eq_true', Bool.not_eq_false', Bool.and_eq_true, Bool.or_eq_false_iff, Bool.or_eq_true, Bool.and_eq_false_iff] at h
    · simp (disch := omega) only [exec_succ, runR_next, runR_stop, stepS, runOp, toSR, sop, rOf, ev, OutOK_stop, List.size_toArray, List.length_cons, List.length_nil, List.range, List.range.loop, List.getElem?_toArray, List.getElem?_cons_zero, ↓reduceIte, Nat.reduceLT, Nat.zero_add]
      refine hκ.ret _ _ _ _ _ _ trivial rfl ?_
      rw [bitN, if_neg (by omega)]
      exact .ret trivial
    · simp (disch := omega) only [exec_succ, runR_next, runR_need, runR_stop, stepS, runOp, toSR, sop, rOf, sInt, sBin, ev, Env.get, OutOK_need, OutOK_stop, List.size_toArray, List.length_cons, List.length_nil, List.range, List.range.loop, List.getElem?_toArray, List.getElem?_cons_succ, List.getElem?_cons_zero, ↓reduceIte, Nat.reduceAdd, Nat.reduceLT, Nat.zero_add, Nat.add_one_ne_zero, shAmt_of, IntKind.bits]
      refine ⟨by omega, fun _ => ?_⟩
      rw [pow32 _ (by omega)]
      refine hκ.ret _ _ _ _ _ _ trivial rfl ?_
      rw [bitN, if_pos (by omega)]
      exact .ret trivial
  · simp (disch := omega) only [exec_succ, runR_next, runR_fork_true, runR_guard_tf, runR_stop, stepS, runOp, guardS, condS, toSR, sop, rOf, sPick, sBin, ev, Env.get, OutOK_stop, undefS, undef, List.size_toArray, List.length_cons, List.length_nil, List.range, List.range.loop, List.getElem?_toArray, List.getElem?_cons_succ, List.getElem?_cons_zero, Option.bind_some, ↓reduceIte, Nat.reduceLT, Nat.reduceEqDiff, Nat.zero_add, Bool.not_false, and_self]
    refine hκ.ret _ _ _ _ _ _ trivial rfl ?_
    rw [bitN, if_neg (by omega)]
    exact .ret trivial
theorem has_ok (s : Nat) (c : Int) (hs : s < 4294967296) (hc : -9223372036854775808 ≤ c ∧ c ≤ 9223372036854775807) : Con Tryd.prog gl0 (fnv 29) [S s, I c] 0 [] (Ret (Bo (hasB s c))) := by
  have hb := bitN_lt c
  refine Con.of Tryd.ok29 (nt := 10) (res := [.tmp 4]) Tryd.mixed Tryd.func29 rfl rfl rfl rfl fun κ xc hκ => hκ.run 300 ?_
  simp (disch := omega) only [exec_succ, runR_next, runR_call, stepS, runOp, toSR, sop, rOf, ev, evs, Env.get, envOf, OutOK_call, List.size_toArray, List.length_cons, List.length_nil, List.range, List.range.loop, List.getElem?_toArray, List.getElem?_cons_succ, List.getElem?_cons_zero, ↓reduceIte, Nat.reduceAdd, Nat.reduceLT, Nat.reduceEqDiff, Nat.zero_add, Nat.add_one_ne_zero, reduceCtorEq, gl0]
  refine Does.ret hκ.hP hκ.hgl (bit_ok c hc) ⟨trivial, by simp [SV.bnd, SV.bndL], by first | (simp [SV.bnd, SV.bndL]; done) | assumption⟩ ?_
  refine hκ.run 300 ?_
  simp (disch := omega) only [exec_succ, runR_next, runR_stop, stepS, runOp, toSR, sop, rOf, sInt, sBin, ev, Env.get, setO, OutOK_stop, List.getElem?_toArray, List.getElem?_cons_succ, List.getElem?_cons_zero, ↓reduceIte, Nat.reduceLT, Nat.reduceEqDiff, gl0, and32, has_and]
  refine hκ.ret _ _ _ _ _ _ trivial rfl ?_
  exact .ret trivial
/-- How many. -/
def cnt (s : Nat) : Nat := (bits s).length
def popT : List Nat := [0,1,1,2,1,2,2,3,1,2,2,3,2,3,3,4,1,2,2,3,2,3,3,4,2,3,3,4,3,4,4,5]
theorem ones_ok (s : Nat) (hs : s < 256) : Con Tryd.prog gl0 (fnv 50) [S s] 0 [] (Ret (I (cnt s))) := by
  have e1 : (s : Int) / 16777216 = 0 := by omega
  have e2 : (s : Int) / 65536 = 0 := by omega
  have e3 : (s : Int) / 256 = 0 := by omega
  have e4 : ibits .and .u32 0 255 = 0 := by decide
  have e5 : ibits .and .u32 (s : Int) 255 = s := by rw [and32_255 (by omega), and_255, Nat.mod_eq_of_lt hs]
  refine Con.of Tryd.ok50 (nt := 21) (res := [.tmp 2]) Tryd.mixed Tryd.func50 rfl rfl rfl rfl fun κ xc hκ => hκ.run 300 ?_
  simp (disch := omega) only [allQuiet, quietOp, drawS, drawGo, drawN, drawFin, exec_succ, runR_next, runR_need, runR_stop, stepS, runOp, toSR, sop, rOf, sInt, sBin, sConv, sIndex, elemT, obind, ev, Env.get, envOf, OutOK_need, OutOK_stop, Option.isNone_none, Bool.and_true, List.size_toArray, List.length_cons, List.length_nil, List.range, List.range.loop, List.getElem?_toArray, List.getElem?_cons_zero, ↓reduceIte, Nat.reduceLT, Nat.reduceEqDiff, Nat.zero_add, Nat.add_one_ne_zero, Int.reduceToNat, Int.reduceLE, Int.toNat_natCast, true_and, forall_const, shAmt_of, IntKind.bits, Int.reducePow, Int.fdiv_eq_ediv_of_nonneg, gl0, Tryd.underlying3, Tryd.underlying5, Tryd.underlying9, e1, e2, e3, e4, e5]
  refine ⟨by decide +kernel, fun h1 => ⟨by decide +kernel, fun h2 => ⟨by decide +kernel, fun h3 => ⟨by decide +kernel, fun h4 => ⟨⟨by omega, Int.lt_of_lt_of_le (b := 256) (by omega) (by decide +kernel)⟩, fun h5 => ?_⟩⟩⟩⟩⟩
  refine hκ.ret _ _ _ _ _ _ trivial rfl ?_
  refine retI ?_
  clear e1 e2 e3 e4 e5 hκ h1 h2 h3 h4 h5
  revert s
  decide +kernel
def tabN : List Nat := [0,1,28,2,29,14,24,3,30,22,20,15,25,17,4,8,31,27,13,23,21,19,16,7,26,12,18,6,11,5,10,9]
theorem tz_low : ∀ s : Nat, s < 256 → s ≠ 0 → ibits .and .u32 s (IntKind.u32.wrap (0 - s)) = ((2 ^ low 8 s : Nat) : Int) := by decide +kernel
theorem tz_fact : ∀ k : Nat, k < 8 → (0 ≤ IntKind.u32.wrap (((2 ^ k : Nat) : Int) * 125613361) ∧ IntKind.u32.wrap (((2 ^ k : Nat) : Int) * 125613361) < 4294967296) ∧ tabN.getD (IntKind.u32.wrap (((2 ^ k : Nat) : Int) * 125613361) / 134217728).toNat 0 = k := by decide +kernel
theorem tab_get (i : Nat) (h : i < 32) : (svs tab0).getD i undefS = .v (.int .u8 (tabN.getD i 0)) := by
  have e : svs tab0 = tabN.map fun n : Nat => .v (.int .u8 (n : Int)) := rfl
  have hl : i < tabN.length := h
  rw [e]
  simp [List.getD, List.getElem?_map, List.getElem?_eq_getElem hl]
theorem tab_len : (svs tab0).length = 32 := rfl
theorem tz_ok (s : Nat) (h0 : s ≠ 0) (hs : s < 256) : Con Tryd.prog gl0 (fnv 63) [S s] 0 [] (Ret (I (low 8 s))) := by
  have hl := (bits_step s hs h0).2.2
  refine Con.of Tryd.ok63 (nt := 14) (res := [.tmp 2]) Tryd.mixed Tryd.func63 rfl rfl rfl rfl fun κ xc hκ => hκ.run 18 ?_
  simp (disch := omega) only [exec_succ, runR_next, stepS, runOp, condS, toSR, sop, rOf, sInt, sBin, ev, Env.get, envOf, List.size_toArray, List.length_cons, List.length_nil, List.range, List.range.loop, List.getElem?_toArray, List.getElem?_cons_succ, List.getElem?_cons_zero, ↓reduceIte, Nat.reduceAdd, Nat.reduceLT, Nat.zero_add, Nat.add_one_ne_zero, gl0]
  refine OutOK_fork (fun h => (by first | (have h := of_decide_eq_true h; omega) | (simp only [Bool.not_true, Bool.not_false, decide_eq_true_eq, decide_eq_false_iff_not, Bool.not_eq_true', Bool.not_eq_false', Bool.and_eq_true, Bool.or_eq_false_iff, Bool.or_eq_true, Bool.and_eq_false_iff] at h; omega))) (fun _ => ?_)
  simp (disch := omega) only [exec_zero, exec_succ, runR_next, stepS, runOp, toSR, sop, rOf, sInt, sBin, sUn, ev, Env.get, OutOK_stop, List.size_toArray, List.length_cons, List.length_nil, List.range, List.range.loop, List.getElem?_toArray, List.getElem?_cons_succ, List.getElem?_cons_zero, ↓reduceIte, Nat.reduceAdd, Nat.reduceLT, Nat.reduceEqDiff, Nat.zero_add, Nat.add_one_ne_zero]
  rw [tz_low s hs h0]
  have hz := tz_fact _ hl
  generalize 2 ^ low 8 s = z at hz ⊢
  refine hκ.run 1 ?_
  simp (disch := omega) only [exec_zero, exec_succ, runR_next, stepS, runOp, toSR, sop, sInt, sBin, ev, Env.get, OutOK_stop, List.getElem?_toArray, List.getElem?_cons_succ, List.getElem?_cons_zero, ↓reduceIte, Nat.reduceLT, gl0]
  generalize IntKind.u32.wrap ((z : Int) * 125613361) = y at hz ⊢
  obtain ⟨⟨y1, y2⟩, y3⟩ := hz
  have hy := tab_get (y / 134217728).toNat (by omega)
  rw [y3] at hy
  refine hκ.run 300 ?_
  simp (disch := omega) only [exec_succ, runR_next, runR_need, runR_stop, stepS, runOp, toSR, sop, rOf, sLoad, sInt, sBin, sConv, sIndexAddr, elemT, obind, ev, glS, Gl.get, Env.get, takeN, cut, aggOf, OutOK_need, OutOK_stop, Int.cast_ofNat_Int, List.getElem?_toArray, List.getElem?_cons_succ, List.getElem?_cons_zero, ↓reduceIte, Nat.reduceLT, Nat.reduceLeDiff, Nat.zero_add, Int.reduceToNat, Int.reduceLE, and_true, true_and, forall_const, shAmt_of, IntKind.bits, Int.reducePow, Int.fdiv_eq_ediv_of_nonneg, wrap_i64, gl0, Tryd.underlying3, Tryd.underlying5, Tryd.sz5, Tryd.ag5, Tryd.underlying97, hy, tab_len]
  refine ⟨by omega, fun _ => ?_⟩
  refine hκ.ret _ _ _ _ _ _ trivial rfl ?_
  exact .ret trivial
end Go.Proofs.YtbgnnmlhpaaebaaDoor

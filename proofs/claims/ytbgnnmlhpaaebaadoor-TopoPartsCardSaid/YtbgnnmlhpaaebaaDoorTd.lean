/- topo.Near. No condition. -/
import Derived.Test.YtbgnnmlhpaaebaaDoorTc
namespace Go.Proofs.YtbgnnmlhpaaebaaDoor
open Go Go.Sy
set_option maxRecDepth 100000
set_option linter.unusedSimpArgs false
set_option linter.unusedVariables false

def farK (l : List Sea) (cpu : Nat) (c : Int) : Int := distN l cpu c.toNat
def nearE (l : List Sea) (cpu : Int) (s : Nat) : Int := if okTs l = true then (if inN l cpu = true then (if s < 256 then 0 else 140) else 2) else 160
/-- Those of a set by rising distance. -/
def nearL (l : List Sea) (cpu : Nat) (s : Nat) : List Int := sortG (farK l cpu) (bits (s &&& qset (fun _ => true) l)) (bits (s &&& qset (fun _ => true) l)).length
theorem tdist_int (l : List Sea) (a b : Int) (ha : 0 ≤ a ∧ a < l.length) (hb : 0 ≤ b ∧ b < l.length) (hn : l.length < 2 ^ 40) : Con Tryd.prog gl0 (fnv 39) [To l, I a, I b] 0 [] (Ret (I (distN l a.toNat b.toNat))) := by
  have h := tdist_ok l a.toNat b.toNat (by omega) (by omega) hn
  rw [Int.toNat_of_nonneg ha.1, Int.toNat_of_nonneg hb.1] at h
  exact h
theorem qset_lt (q : Sea → Bool) (l : List Sea) : qset q l < 256 := by
  rw [qset]
  split
  · rename_i h
    have h1 := ((okTs_iff l).1 h).2.2
    have h2 : 2 ^ l.length ≤ 2 ^ 8 := Nat.pow_le_pow_right (by decide) h1
    have h3 := setK_lt q l l.length
    omega
  · decide
theorem setK_bit (q : Sea → Bool) (l : List Sea) (k i : Nat) : (setK q l k).testBit i = (decide (i < k) && q (l.getD i default)) := by
  induction k with
  | zero => simp [setK]
  | succ k ih =>
    rw [setK, Nat.testBit_or, ih]
    by_cases e : i = k
    · subst e
      rw [decide_eq_false (by omega), decide_eq_true (by omega), Bool.false_and, Bool.true_and, Bool.false_or]
      split
      · rename_i h; rw [testBit_pow, decide_eq_true rfl, h]
      · rename_i h; rw [Nat.zero_testBit]; exact (Bool.eq_false_iff.2 h).symm
    · rw [show decide (i < k + 1) = decide (i < k) by rw [decide_eq_decide]; omega]
      have : (if q (l.getD k default) = true then 2 ^ k else 0).testBit i = false := by
        split
        · rw [testBit_pow]; simpa using fun h => e h.symm
        · exact Nat.zero_testBit _
      rw [this, Bool.or_false]
theorem all_bits {l : List Sea} {s : Nat} (h : okTs l = true) {c : Int} (hc : c ∈ bits (s &&& qset (fun _ => true) l)) : 0 ≤ c ∧ c < l.length := by
  have h0 := bits_bd hc
  rw [mem_bits] at hc
  obtain ⟨n, rfl⟩ : ∃ n : Nat, c = n := ⟨c.toNat, by omega⟩
  rw [hasB_nat (by omega), Nat.testBit_and, qset, if_pos h, setK_bit] at hc
  simp only [Bool.and_eq_true, decide_eq_true_eq] at hc
  omega
theorem near_ok (l : List Sea) (cpu : Int) (s : Nat) (hl : ∀ s ∈ l, inT s) (hn : l.length < 2 ^ 40) (hs : s < 4294967296) : Con Tryd.prog gl0 (fnv 16) [To l, I cpu, S s] 0 [] (Ret (.tup [Is (if nearE l cpu s = 0 then nearL l cpu.toNat s else []), I (nearE l cpu s)])) := by
  have c1 := tcheck_ok l hl hn
  have c2 := there_ok l cpu
  have c3 := check_ok s hs
  suffices H : Con Tryd.prog gl0 (fnv 16) [To l, I cpu, S s] 0 [] (Ret (if nearE l cpu s = 0 then .tup [Is (nearL l cpu.toNat s), I (nearE l cpu s)] else .tup [.v (.slice none 0 0), I (nearE l cpu s)])) by
    by_cases ho : nearE l cpu s = 0
    · rw [if_pos ho] at H ⊢; exact H
    · rw [if_neg ho] at H ⊢; exact Con.repR (fun _ => Rel.tupMap nil1) H
  refine Con.of Tryd.ok16 (nt := 34) (res := [.tmp 6, .tmp 7]) Tryd.mixed Tryd.func16 rfl rfl rfl rfl fun κ xc hκ => hκ.run 300 ?_
  simp (disch := omega) only [exec_succ, runR_next, runR_call, stepS, runOp, toSR, sop, rOf, rNew, sBox, isArr, sLoadIn, sLoad, ev, evs, svs, Env.get, Heap.get, takeN, cut, aggOf, cellsS, envOf, Value.cells, OutOK_call, Bool.false_eq_true, List.size_toArray, List.length_cons, List.length_nil, List.range, List.range.loop, List.getElem?_toArray, List.getElem?_cons_succ, List.getElem?_cons_zero, List.map_cons, List.map_nil, List.toList_toArray, ↓reduceIte, Nat.reduceAdd, Nat.reduceLT, Nat.reduceEqDiff, Nat.zero_add, Nat.add_one_ne_zero, reduceCtorEq, gl0, Tryd.sz24, Tryd.ag24]
  cases h1 : okTs l
  · have hd : nearE l cpu s = 160 := by rw [nearE, if_neg (by rw [h1]; decide)]
    rw [hd, if_neg (by decide)] at hκ
    rw [h1, if_neg (by decide)] at c1
    refine Does.ret hκ.hP hκ.hgl (c1) ⟨trivial, by simp [SV.bnd, SV.bndL], by first | (simp [SV.bnd, SV.bndL]; done) | assumption⟩ ?_
    refine hκ.run 300 ?_
    simp (disch := omega) only [exec_succ, runR_next, runR_fork_true, runR_stop, stepS, runOp, condS, toSR, sop, rOf, sInt, sBin, ev, Env.get, setO, OutOK_stop, List.size_toArray, List.length_cons, List.length_nil, List.range, List.range.loop, List.getElem?_toArray, List.getElem?_cons_succ, List.getElem?_cons_zero, ↓reduceIte, Nat.reduceAdd, Nat.reduceLT, Nat.reduceEqDiff, Nat.zero_add, Int.reduceEq, Bool.not_false, decide_false, gl0]
    refine hκ.ret _ _ _ _ _ _ trivial rfl ?_
    exact .ret (by simp [SV.bnd, SV.bndL])
  rw [h1, if_pos rfl] at c1
  refine Does.ret hκ.hP hκ.hgl (c1) ⟨trivial, by simp [SV.bnd, SV.bndL], by first | (simp [SV.bnd, SV.bndL]; done) | assumption⟩ ?_
  refine hκ.run 300 ?_
  simp (disch := omega) only [exec_succ, runR_next, runR_fork_false, runR_call, stepS, runOp, condS, toSR, sop, rOf, sLoadIn, sLoad, sInt, sBin, ev, evs, Env.get, Heap.get, takeN, cut, aggOf, setO, OutOK_call, List.size_toArray, List.length_cons, List.length_nil, List.range, List.range.loop, List.getElem?_toArray, List.getElem?_cons_succ, List.getElem?_cons_zero, ↓reduceIte, Nat.reduceAdd, Nat.reduceLT, Nat.reduceEqDiff, Nat.zero_add, Nat.add_one_ne_zero, Bool.not_true, decide_true, gl0, Tryd.sz3, Tryd.ag3, Tryd.sz24, Tryd.ag24]
  refine Does.ret hκ.hP hκ.hgl (c2) ⟨trivial, by simp [SV.bnd, SV.bndL], by first | (simp [SV.bnd, SV.bndL]; done) | assumption⟩ ?_
  cases h2 : inN l cpu
  · have hd : nearE l cpu s = 2 := by rw [nearE, if_pos h1, if_neg (fun h => by rw [h2] at h; cases h)]
    rw [hd, if_neg (by decide)] at hκ
    refine hκ.run 300 ?_
    simp (disch := omega) only [exec_succ, runR_next, runR_fork_true, runR_stop, stepS, runOp, condS, toSR, sop, rOf, sUn, ev, Env.get, setO, OutOK_stop, List.size_toArray, List.length_cons, List.length_nil, List.range, List.range.loop, List.getElem?_toArray, List.getElem?_cons_succ, List.getElem?_cons_zero, ↓reduceIte, Nat.reduceAdd, Nat.reduceLT, Nat.zero_add, Bool.not_false, gl0]
    refine hκ.ret _ _ _ _ _ _ trivial rfl ?_
    exact .ret (by simp [SV.bnd, SV.bndL])
  refine hκ.run 300 ?_
  simp (disch := omega) only [exec_succ, runR_next, runR_fork_false, runR_call, stepS, runOp, condS, toSR, sop, rOf, sUn, ev, evs, Env.get, setO, OutOK_call, List.size_toArray, List.length_cons, List.length_nil, List.range, List.range.loop, List.getElem?_toArray, List.getElem?_cons_succ, List.getElem?_cons_zero, ↓reduceIte, Nat.reduceAdd, Nat.reduceLT, Nat.reduceEqDiff, Nat.zero_add, Bool.not_true, reduceCtorEq, gl0]
  refine Does.ret hκ.hP hκ.hgl (c3) ⟨trivial, by simp [SV.bnd, SV.bndL], by first | (simp [SV.bnd, SV.bndL]; done) | assumption⟩ ?_
  by_cases h3 : s < 256
  case neg =>
    have hd : nearE l cpu s = 140 := by rw [nearE, if_pos h1, if_pos h2, if_neg h3]
    rw [hd, if_neg (by decide)] at hκ
    rw [if_neg h3]
    refine hκ.run 300 ?_
    simp (disch := omega) only [exec_succ, runR_next, runR_fork_true, runR_stop, stepS, runOp, condS, toSR, sop, rOf, sInt, sBin, ev, Env.get, setO, OutOK_stop, List.size_toArray, List.length_cons, List.length_nil, List.range, List.range.loop, List.getElem?_toArray, List.getElem?_cons_succ, List.getElem?_cons_zero, ↓reduceIte, Nat.reduceAdd, Nat.reduceLT, Nat.reduceEqDiff, Nat.zero_add, Int.reduceEq, Bool.not_false, decide_false, gl0]
    refine hκ.ret _ _ _ _ _ _ trivial rfl ?_
    exact .ret (by simp [SV.bnd, SV.bndL])
  have hd : nearE l cpu s = 0 := by rw [nearE, if_pos h1, if_pos h2, if_pos h3]
  rw [hd, if_pos rfl] at hκ
  rw [if_pos h3]
  clear hd
  have h2 := (inN_iff _ _).1 h2
  obtain ⟨p, rfl⟩ : ∃ j : Nat, cpu = j := ⟨cpu.toNat, by omega⟩
  rw [Int.toNat_natCast, nearL] at hκ
  have hq := qset_lt (fun _ => true) l
  have hmem := fun c => all_bits (s := s) (c := c) h1
  have c4 := all_ok l hl hn
  generalize qset (fun _ => true) l = a at hκ hq hmem c4
  have ha : s &&& a < 256 := Nat.and_lt_two_pow (n := 8) _ hq
  have c5 := list_ok (s &&& a) (by omega)
  have hbl := bits_len (s &&& a)
  generalize bits (s &&& a) = L at hκ hmem c5 hbl
  refine hκ.run 300 ?_
  simp (disch := omega) only [exec_succ, runR_next, runR_fork_false, runR_call, stepS, runOp, condS, toSR, sop, rOf, sLoadIn, sLoad, sInt, sBin, ev, evs, Env.get, Heap.get, takeN, cut, aggOf, setO, OutOK_call, List.size_toArray, List.length_cons, List.length_nil, List.range, List.range.loop, List.getElem?_toArray, List.getElem?_cons_succ, List.getElem?_cons_zero, ↓reduceIte, Nat.reduceAdd, Nat.reduceLT, Nat.reduceEqDiff, Nat.zero_add, Nat.add_one_ne_zero, Bool.not_true, decide_true, reduceCtorEq, gl0, Tryd.sz24, Tryd.ag24]
  refine Does.ret hκ.hP hκ.hgl (c4) ⟨trivial, by simp [SV.bnd, SV.bndL], by first | (simp [SV.bnd, SV.bndL]; done) | assumption⟩ ?_
  refine hκ.run 300 ?_
  simp (disch := omega) only [exec_succ, runR_next, runR_call, stepS, runOp, toSR, sop, sInt, sBin, ev, evs, Env.get, setO, OutOK_call, List.getElem?_toArray, List.getElem?_cons_succ, List.getElem?_cons_zero, ↓reduceIte, Nat.reduceLT, Nat.reduceEqDiff, gl0]
  rw [and32 (by omega) (by omega)]
  refine Does.row hκ.hP hκ.hgl c5 ⟨trivial, by simp [SV.bnd, SV.bndL]⟩ fun cap hcap => ?_
  rw [List.length_map] at hcap
  refine hκ.run 300 ?_
  simp (disch := omega) only [exec_succ, runR_next, runR_call, stepS, runOp, toSR, sop, rOf, sMakeFunc, ev, evs, Env.get, setO, OutOK_call, List.size_toArray, List.length_cons, List.length_nil, List.length_map, List.range, List.range.loop, List.getElem?_toArray, List.getElem?_cons_succ, List.getElem?_cons_zero, ↓reduceIte, Nat.reduceAdd, Nat.reduceLT, Nat.reduceEqDiff, Nat.zero_add, gl0]
  refine Does.inl hκ.hP hκ.hgl Tryd.ok42 (nt := 9) (res := []) Tryd.mixed Tryd.func42 rfl rfl rfl rfl fun κ_h1 x_h1 h1 => h1.run 300 ?_
  simp (disch := omega) only [sBuiltin, exec_succ, runR_next, runR_call, stepS, runOp, toSR, sop, rOf, sLen, ev, evs, Env.get, envOf, OutOK_call, List.size_toArray, List.length_cons, List.length_nil, List.range, List.range.loop, List.getElem?_toArray, List.getElem?_cons_succ, List.getElem?_cons_zero, ↓reduceIte, Nat.reduceAdd, Nat.reduceLT, Nat.reduceEqDiff, Nat.zero_add, Nat.add_one_ne_zero, reduceCtorEq, gl0, Tryd.underlying38]
  refine Does.inl h1.hP h1.hgl Tryd.ok56 (nt := 63) (res := []) Tryd.mixed Tryd.func56 rfl rfl rfl rfl fun κ_h2 x_h2 h2 => h2.run 300 ?_
  simp (disch := omega) only [exec_succ, runR_next, runR_stop, stepS, runOp, toSR, sop, rOf, ev, Env.get, envOf, OutOK_stop, List.size_toArray, List.length_cons, List.length_nil, List.range, List.range.loop, List.getElem?_toArray, List.getElem?_cons_succ, List.getElem?_cons_zero, ↓reduceIte, Nat.reduceAdd, Nat.reduceLT, Nat.reduceEqDiff, Nat.zero_add, gl0]
  refine Sat.enter ?_
  refine h2.run 300 ?_
  simp (disch := omega) only [exec_succ, runR_next, stepS, runOp, condS, toSR, sop, rOf, sInt, sBin, ev, Env.get, List.size_toArray, List.length_cons, List.length_nil, List.range, List.range.loop, List.getElem?_toArray, List.getElem?_cons_succ, List.getElem?_cons_zero, ↓reduceIte, Nat.reduceAdd, Nat.reduceLT, Nat.reduceEqDiff, Nat.zero_add, reduceCtorEq, gl0]
  refine OutOK_fork (fun h => (by first | (have h := of_decide_eq_true h; omega) | (simp only [Bool.not_true, Bool.not_false, decide_eq_true_eq, decide_eq_false_iff_not, Bool.not_eq_true', Bool.not_eq_false', Bool.and_eq_true, Bool.or_eq_false_iff, Bool.or_eq_true, Bool.and_eq_false_iff] at h; omega))) (fun _ => ?_)
  simp (disch := omega) only [exec_succ, runR_next, runR_call, stepS, runOp, goS, toSR, sop, rOf, ev, evs, Env.get, exitTo, OutOK_call, List.size_toArray, List.length_cons, List.length_nil, List.range, List.range.loop, List.getElem?_toArray, List.getElem?_cons_succ, List.getElem?_cons_zero, ↓reduceIte, Nat.reduceAdd, Nat.reduceLT, Nat.reduceEqDiff, Nat.zero_add, Nat.add_one_ne_zero, beq_self_eq_true, reduceCtorEq]
  refine Does.inl h2.hP h2.hgl Tryd.ok64 (nt := 53) (res := []) Tryd.mixed Tryd.func64 rfl rfl rfl rfl fun κ_h3 x_h3 h3 => h3.run 300 ?_
  simp (disch := omega) only [exec_succ, runR_next, runR_stop, stepS, runOp, toSR, sop, rOf, sInt, sBin, ev, Env.get, envOf, OutOK_stop, Int.zero_add, List.size_toArray, List.length_cons, List.length_nil, List.range, List.range.loop, List.getElem?_toArray, List.getElem?_cons_succ, List.getElem?_cons_zero, ↓reduceIte, Nat.reduceAdd, Nat.reduceLT, Nat.zero_add, reduceCtorEq, wrap_i64, gl0]
  have hD : ∀ c, 0 ≤ farK l p c ∧ farK l p c < 4 := fun c => by have := distN_bd l p c.toNat; rw [farK]; omega
  refine Sat.less (Sat.loop (γ := Nat) (fun k => ([(8, I (k + 1)), (0, .sl 2 1 0 L.length cap), (1, I 0), (2, I L.length), (3, .fn (.func 43) [] [.ptr 0 0 0 0, .ptr 1 0 0 0])], [(2, .row 1 cap 3 ((sortG (farK l p) L (k + 1)).map (eI .i64))), (1, .own [I p] 3), (0, .own [Ss l] 24)], 3)) (fun k => L.length - k) (fun k => (k = 0 ∨ k + 1 ≤ L.length) ∧ (sortG (farK l p) L (k + 1)).length = L.length ∧ ∀ c ∈ sortG (farK l p) L (k + 1), 0 ≤ c ∧ c < l.length) ?round 0 ⟨Or.inl rfl, rfl, hmem⟩) (by repeat' (first | exact EnvSub.nil _ | exact HeapSub.nil _ | refine EnvSub.cons rfl ?_ | refine HeapSub.cons rfl ?_ | (refine EnvSub.cons (by simp [Env.get]; done) ?_) | (refine HeapSub.cons (by simp [Heap.get]; done) ?_))) (by repeat' (first | exact EnvSub.nil _ | exact HeapSub.nil _ | refine EnvSub.cons rfl ?_ | refine HeapSub.cons rfl ?_ | (refine EnvSub.cons (by simp [Env.get]; done) ?_) | (refine HeapSub.cons (by simp [Heap.get]; done) ?_)))
  case round =>
    rintro k ⟨hk, hlen, hm⟩ ih
    dsimp only at hk hlen hm ih ⊢
    refine h3.run 300 ?_
    simp (disch := omega) only [exec_succ, runR_next, stepS, runOp, condS, toSR, sop, rOf, sInt, sBin, ev, Env.get, List.size_toArray, List.length_cons, List.length_nil, List.range, List.range.loop, List.getElem?_toArray, List.getElem?_cons_succ, List.getElem?_cons_zero, ↓reduceIte, Nat.reduceAdd, Nat.reduceLT, Nat.reduceEqDiff, Nat.zero_add, reduceCtorEq, gl0]
    refine OutOK_fork (fun h => ?_) (fun h => ?_) <;> try simp only [Bool.not_true, Bool.not_false, decide_eq_true_eq, decide_eq_false_iff_not, Bool.not_eq_true', Bool.not_eq_false', Bool.and_eq_true, Bool.or_eq_false_iff, Bool.or_eq_true, Bool.and_eq_false_iff] at h
    · have hz := fun h1 h2 => ih (k + 1) ⟨Or.inr (by omega), h1, h2⟩ (by omega)
      have es : sortG (farK l p) L (k + 1 + 1) = insG (farK l p) (sortG (farK l p) L (k + 1)) (k + 1) := rfl
      rw [es] at hz
      generalize sortG (farK l p) L (k + 1) = xs0 at hz hlen hm ⊢
      obtain ⟨Z, hZ⟩ : ∃ Z, insG (farK l p) xs0 (k + 1) = Z := ⟨_, rfl⟩
      rw [hZ] at hz
      simp (disch := omega) only [exec_succ, runR_next, runR_stop, stepS, runOp, toSR, sop, rOf, ev, Env.get, OutOK_stop, List.size_toArray, List.length_cons, List.length_nil, List.range, List.range.loop, List.getElem?_toArray, List.getElem?_cons_succ, List.getElem?_cons_zero, ↓reduceIte, Nat.reduceAdd, Nat.reduceLT, Nat.reduceEqDiff, Nat.zero_add]
      refine Sat.less (Sat.loop (γ := List Int × Nat) (fun g => ([(9, I g.2), (8, I (k + 1)), (0, .sl 2 1 0 L.length cap), (1, I 0), (2, I L.length), (3, .fn (.func 43) [] [.ptr 0 0 0 0, .ptr 1 0 0 0])], [(2, .row 1 cap 3 (g.1.map (eI .i64))), (1, .own [I p] 3), (0, .own [Ss l] 24)], 3)) (fun g => g.2) (fun g => g.2 < L.length ∧ g.1.length = L.length ∧ (∀ c ∈ g.1, 0 ≤ c ∧ c < l.length) ∧ Z = insG (farK l p) g.1 g.2) ?inner (xs0, k + 1) ⟨by dsimp only; omega, hlen, hm, hZ.symm⟩) (by repeat' (first | exact EnvSub.nil _ | exact HeapSub.nil _ | refine EnvSub.cons rfl ?_ | refine HeapSub.cons rfl ?_ | (refine EnvSub.cons (by simp [Env.get]; done) ?_) | (refine HeapSub.cons (by simp [Heap.get]; done) ?_))) (by repeat' (first | exact EnvSub.nil _ | exact HeapSub.nil _ | refine EnvSub.cons rfl ?_ | refine HeapSub.cons rfl ?_ | (refine EnvSub.cons (by simp [Env.get]; done) ?_) | (refine HeapSub.cons (by simp [Heap.get]; done) ?_)))
      case inner =>
        rintro ⟨xs, j⟩ ⟨hj, hxl, hxm, he⟩ ihj
        dsimp only at hj hxl hxm he ihj ⊢
        rcases Nat.eq_zero_or_pos j with rfl | h0
        · rw [he, insG] at hz
          have hy := hz hxl hxm
          refine h3.runD 300 ?_
          simp (disch := omega) only [runR_next, stepS, OutOK_stop, halt, isDraw, drawC, execD_succ, Int.cast_ofNat_Int, gl0]
          refine h3.draw (.q 0 (.q 1 (.q 2 (.q 3 (.q 4 (.q 5 (.q 6 (.q 7 (.q 8 (.q 9 (.q 10 (.q 11 (.q 12 (.q 13 (.l 14 [] (.q 15 (.q 16 (.fin)))))))))))))))))) [0, 1, 2, 3, 4, 5, 6, 7, 8, 9, 10, 11, 12, 13, 15, 16] (by kernel_rfl) (by kernel_rfl) rfl ?_
          simp (disch := omega) only [sop, rOf, sPick, sInt, sBin, ev, Env.get, setO, drawP_fin, drawP_q, drawP_l, dq, dqn, dl, GF.ft, guardP, R1Q, dstOK, again, undefS, undef, List.getElem?_toArray, List.getElem?_cons_succ, List.getElem?_cons_zero, Option.bind_some, ↓reduceIte, Nat.reduceLT, Nat.reduceEqDiff, Int.reduceLT, decide_false, true_and, reduceCtorEq, gl0]
          refine h3.run 300 ?_
          simp (disch := omega) only [exec_succ, runR_next, runR_fork_false, runR_stop, stepS, runOp, condS, goS, toSR, sop, rOf, sInt, sBin, ev, Env.get, exitTo, OutOK_stop, List.size_toArray, List.length_cons, List.length_nil, List.range, List.range.loop, List.getElem?_toArray, List.getElem?_cons_succ, List.getElem?_cons_zero, ↓reduceIte, Nat.reduceAdd, Nat.reduceLT, Nat.reduceEqDiff, Nat.zero_add, beq_self_eq_true, wrap_i64, gl0]
          exact hy.less (by repeat' (first | exact EnvSub.nil _ | exact HeapSub.nil _ | refine EnvSub.cons rfl ?_ | refine HeapSub.cons rfl ?_ | (refine EnvSub.cons (by simp [Env.get]; done) ?_) | (refine HeapSub.cons (by simp [Heap.get]; done) ?_))) (by repeat' (first | exact EnvSub.nil _ | exact HeapSub.nil _ | refine EnvSub.cons rfl ?_ | refine HeapSub.cons rfl ?_ | (refine EnvSub.cons (by simp [Env.get]; done) ?_) | (refine HeapSub.cons (by simp [Heap.get]; done) ?_)))
        obtain ⟨i, rfl⟩ : ∃ i, j = i + 1 := ⟨j - 1, by omega⟩
        have e1 : ((0 : Int) < (i : Int) + 1) = True := by first | (simp only [eq_iff_iff, iff_true]; first | assumption | omega) | (simp; omega)
        have e2 : ((i : Int) + 1).toNat = i + 1 := by omega
        have e3 : (i : Int) + 1 - 1 = i := by omega
        have m1 := hxm _ (getD_mem (show i + 1 < xs.length by omega))
        have m0 := hxm _ (getD_mem (show i < xs.length by omega))
        rw [insG] at he
        have gk1 : (List.map (eI .i64) xs).getD (i + 1) [] = [I (xs.getD (i + 1) default)] := getD_map _ _ _ (by omega)
        have gk0 : (List.map (eI .i64) xs).getD i [] = [I (xs.getD i default)] := getD_map _ _ _ (by omega)
        have gs : ∀ v, ((List.map (eI .i64) xs).set (i + 1) v).getD i [] = [I (xs.getD i default)] := fun v => by
          rw [List.getD, List.getElem?_set_ne (by omega), ← List.getD]; exact gk0
        have hsw : swp xs i = (xs.set (i + 1) (xs.getD i default)).set i (xs.getD (i + 1) default) := rfl
        have hsm := fun c => swp_mem (xs := xs) (j := i) (c := c) (by omega)
        have hsl := swp_len xs i
        generalize xs.getD (i + 1) default = x1 at *
        generalize xs.getD i default = x0 at *
        refine h3.runD 300 ?_
        simp (disch := omega) only [runR_next, stepS, OutOK_stop, halt, isDraw, drawC, execD_succ, Int.cast_ofNat_Int, Int.natCast_add, gl0]
        refine h3.draw (.q 0 (.q 1 (.q 2 (.q 3 (.q 4 (.q 5 (.q 6 (.q 7 (.q 8 (.q 9 (.q 10 (.q 11 (.q 12 (.q 13 (.l 14 [] (.q 15 (.q 16 (.fin)))))))))))))))))) [0, 1, 2, 3, 4, 5, 6, 7, 8, 9, 10, 11, 12, 13, 15, 16] (by kernel_rfl) (by kernel_rfl) rfl ?_
        simp (disch := omega) only [sop, rOf, sLoadIn, sLoad, sInt, sBin, sIndexAddr, elemT, obind, ev, evs, Env.get, Heap.get, takeN, cut, aggOf, setO, drawP_q, drawP_l, dq, dqn, dl, GF.tt, guardP, R1Q, dstOK, loudP, List.length_map, List.getElem?_toArray, List.getElem?_cons_succ, List.getElem?_cons_zero, Option.bind_some, ↓reduceIte, Nat.reduceLT, Nat.reduceEqDiff, Nat.zero_add, Nat.add_one_ne_zero, Int.toNat_natCast, decide_true, true_and, reduceCtorEq, wrap_i64, gl0, Tryd.sz3, Tryd.ag3, Tryd.underlying38, e1, e2, e3, gk1, gk0]
        (repeat (refine ⟨by first | omega | (refine ⟨?_, ?_⟩ <;> omega) | trivial | (simp; done) | decide +kernel, fun _ => ?_⟩))
        refine DCall.of ?_
        refine Does.inlc h3.hP h3.hgl Tryd.ok43 (nt := 16) (res := [.tmp 6]) Tryd.mixed Tryd.func43 rfl rfl rfl rfl fun κ_h5 x_h5 h5 => h5.run 300 ?_
        simp (disch := omega) only [allQuiet, quietOp, drawS, exec_succ, runR_next, runR_stop, stepS, runOp, toSR, sop, rOf, ev, envOf, OutOK_stop, Option.isNone_none, Bool.and_true, Bool.and_false, List.size_toArray, List.length_cons, List.length_nil, List.range, List.range.loop, List.getElem?_toArray, List.getElem?_cons_zero, List.cons_append, List.nil_append, ↓reduceIte, Nat.reduceAdd, Nat.reduceLT, Nat.zero_add, gl0]
        have d1 := tdist_int l p x1 (by omega) m1 hn
        have d0 := tdist_int l p x0 (by omega) m0 hn
        rw [Int.toNat_natCast] at d1 d0
        rw [farK, farK] at he
        have b1 := distN_bd l p x1.toNat
        have b0 := distN_bd l p x0.toNat
        generalize distN l p x1.toNat = q1 at *
        generalize distN l p x0.toNat = q0 at *
        refine h5.draw (.q 0 (.q 1 (.q 2 (.q 4 (.q 5 (.q 6 (.l 3 [4, 5] (.l 7 [0, 1] (.q 8 (.q 9 (.fin))))))))))) [0, 1, 2, 4, 5, 6, 8, 9] (by kernel_rfl) (by kernel_rfl) rfl ?_
        simp (disch := omega) only [sop, rOf, sLoadIn, sLoad, ev, evs, Env.get, Heap.get, takeN, cut, aggOf, setO, drawP_q, drawP_l, dq, dqn, dl, guardP, R1Q, dstOK, loudP, List.getElem?_toArray, List.getElem?_cons_succ, List.getElem?_cons_zero, ↓reduceIte, Nat.reduceLT, Nat.reduceEqDiff, Nat.add_one_ne_zero, true_and, reduceCtorEq, gl0, Tryd.sz3, Tryd.ag3, Tryd.sz24, Tryd.ag24]
        refine DCall.of (Does.ret h5.hP h5.hgl (d1) ⟨trivial, by simp [SV.bnd, SV.bndL], by first | (simp [SV.bnd, SV.bndL]; done) | assumption⟩ ?_)
        simp (disch := omega) only [sop, rOf, sLoadIn, sLoad, ev, evs, Env.get, Heap.get, takeN, cut, aggOf, setO, drawP_l, dnext, dl, slotR, ag, guardP, dstOK, loudP, again, again1, slotIs, R1OK, List.getElem?_toArray, List.getElem?_cons_succ, List.getElem?_cons_zero, ↓reduceIte, Nat.reduceLT, Nat.reduceEqDiff, Nat.add_one_ne_zero, true_and, and_self, reduceCtorEq, Tryd.sz3, Tryd.ag3, Tryd.sz24, Tryd.ag24]
        refine DCall.of (Does.ret h5.hP h5.hgl (d0) ⟨trivial, by simp [SV.bnd, SV.bndL], by first | (simp [SV.bnd, SV.bndL]; done) | assumption⟩ ?_)
        simp (disch := omega) only [sop, rOf, sLoadIn, sLoad, sInt, sBin, ev, Env.get, Heap.get, takeN, cut, aggOf, setO, drawP_fin, drawP_q, dnext, dq, dqn, slotR, ag, guardP, R1Q, dstOK, again, again1, slotIs, R1OK, List.getElem?_toArray, List.getElem?_cons_succ, List.getElem?_cons_zero, ↓reduceIte, Nat.reduceLT, Nat.reduceEqDiff, Nat.add_one_ne_zero, true_and, and_self, reduceCtorEq, wrap_i64, Tryd.sz3, Tryd.ag3, Tryd.sz24, Tryd.ag24]
        refine h5.run 300 ?_
        simp (disch := omega) only [exec_succ, runR_stop, stepS, OutOK_stop, gl0]
        refine h5.ret _ _ _ _ _ _ trivial rfl ?_
        simp (disch := omega) only [sop, rOf, sPick, sInt, sBin, ev, Env.get, setO, drawP_fin, drawP_q, dnext, dq, dqn, GF.tt, guardP, R1Q, dstOK, again, dropL, resV, List.getElem?_toArray, List.getElem?_cons_succ, List.getElem?_cons_zero, Option.bind_some, ↓reduceIte, Nat.reduceLT, Nat.reduceEqDiff, true_and]
        by_cases hlt : q1 < q0
        · rw [if_pos hlt] at he
          have e4 : (q1 - q0 < 0) = True := by first | (simp only [eq_iff_iff, iff_true]; first | assumption | omega) | (simp; omega)
          refine h3.runD 300 ?_
          simp (disch := omega) only [runR_next, runR_fork_true, stepS, condS, ev, Env.get, OutOK_stop, halt, isDraw, drawC, execD_succ, ↓reduceIte, decide_true, gl0, e4]
          refine h3.draw (.q 0 (.q 1 (.q 2 (.q 3 (.q 4 (.q 5 (.q 6 (.q 7 (.q 8 (.q 9 (.q 10 (.q 11 (.q 12 (.q 13 (.q 14 (.l 15 [] (.q 16 (.l 17 [] (.fin))))))))))))))))))) [0, 1, 2, 3, 4, 5, 6, 7, 8, 9, 10, 11, 12, 13, 14, 16] (by kernel_rfl) (by kernel_rfl) rfl ?_
          simp (disch := omega) only [sop, rOf, sLoadIn, sLoad, sStoreIn, sStore, sInt, sBin, sIndexAddr, elemT, obind, ev, svs, Env.get, Heap.get, Heap.set, takeN, cut, over, paste, aggOf, cellsS, one, ones, idFree, idFrees, setO, Value.cells, Value.oneCell', drawP_fin, drawP_q, drawP_l, dnext, dq, dqn, dl, guardP, R1Q, dstOK, loudP, again, R1OK, undefS, undef, Bool.and_true, List.length_cons, List.length_nil, List.length_map, List.length_set, List.getElem?_toArray, List.getElem?_cons_succ, List.getElem?_cons_zero, List.map_cons, List.map_nil, List.toList_toArray, ↓reduceIte, Nat.reduceLT, Nat.reduceEqDiff, Nat.zero_add, Nat.add_one_ne_zero, Int.toNat_natCast, and_true, true_and, and_self, wrap_i64, gl0, Tryd.sz3, Tryd.ag3, Tryd.underlying38, e2, e3, gk1, gk0, gs]
          (repeat (refine ⟨by first | omega | (refine ⟨?_, ?_⟩ <;> omega) | trivial | (simp; done) | decide +kernel, fun _ => ?_⟩))
          have hy := ihj (swp xs i, i) ⟨by dsimp only; omega, by rw [hsl]; exact hxl, fun c hc => hxm c (hsm c hc), he⟩ (by dsimp only; omega)
          dsimp only at hy
          rw [hsw, List.map_set, List.map_set] at hy
          refine h3.run 300 ?_
          simp (disch := omega) only [exec_succ, runR_next, runR_stop, stepS, runOp, toSR, sop, rOf, sInt, sBin, ev, Env.get, OutOK_stop, List.size_toArray, List.length_cons, List.length_nil, List.range, List.range.loop, List.getElem?_toArray, List.getElem?_cons_succ, List.getElem?_cons_zero, ↓reduceIte, Nat.reduceAdd, Nat.reduceLT, Nat.reduceEqDiff, Nat.zero_add, wrap_i64, gl0, e3]
          exact hy.less (by repeat' (first | exact EnvSub.nil _ | exact HeapSub.nil _ | refine EnvSub.cons rfl ?_ | refine HeapSub.cons rfl ?_ | (refine EnvSub.cons (by simp [Env.get]; done) ?_) | (refine HeapSub.cons (by simp [Heap.get]; done) ?_))) (by repeat' (first | exact EnvSub.nil _ | exact HeapSub.nil _ | refine EnvSub.cons rfl ?_ | refine HeapSub.cons rfl ?_ | (refine EnvSub.cons (by simp [Env.get]; done) ?_) | (refine HeapSub.cons (by simp [Heap.get]; done) ?_)))
        · rw [if_neg hlt] at he
          rw [he] at hz
          have hy := hz hxl hxm
          have e4 : (q1 - q0 < 0) = False := by first | (simp only [eq_iff_iff, iff_false]; first | assumption | omega) | (simp; omega)
          refine h3.run 300 ?_
          simp (disch := omega) only [exec_succ, runR_next, runR_fork_false, runR_stop, stepS, runOp, condS, goS, toSR, sop, rOf, sInt, sBin, ev, Env.get, exitTo, OutOK_stop, List.size_toArray, List.length_cons, List.length_nil, List.range, List.range.loop, List.getElem?_toArray, List.getElem?_cons_succ, List.getElem?_cons_zero, ↓reduceIte, Nat.reduceAdd, Nat.reduceLT, Nat.reduceEqDiff, Nat.zero_add, decide_false, beq_self_eq_true, wrap_i64, gl0, e4]
          exact hy.less (by repeat' (first | exact EnvSub.nil _ | exact HeapSub.nil _ | refine EnvSub.cons rfl ?_ | refine HeapSub.cons rfl ?_ | (refine EnvSub.cons (by simp [Env.get]; done) ?_) | (refine HeapSub.cons (by simp [Heap.get]; done) ?_))) (by repeat' (first | exact EnvSub.nil _ | exact HeapSub.nil _ | refine EnvSub.cons rfl ?_ | refine HeapSub.cons rfl ?_ | (refine EnvSub.cons (by simp [Env.get]; done) ?_) | (refine HeapSub.cons (by simp [Heap.get]; done) ?_)))
    · simp (disch := omega) only [exec_succ, runR_next, runR_stop, stepS, goS, exitTo, OutOK_stop, ↓reduceIte, beq_self_eq_true]
      have hs : sortG (farK l p) L (k + 1) = sortG (farK l p) L L.length := by
        by_cases e : k + 1 = L.length
        · rw [e]
        · obtain rfl : L = [] := List.length_eq_zero_iff.1 (by omega)
          obtain rfl : k = 0 := by simp at hk; omega
          rfl
      rw [hs] at hlen ⊢
      generalize hL : sortG (farK l p) L L.length = L2 at hκ hlen ⊢
      have et : List.take L.length (List.map (eI .i64) L2) = List.map (eI .i64) L2 := List.take_of_length_le (by simp; omega)
      refine h3.fin _ _ _ _ _ trivial rfl ?_
      refine h2.run 300 ?_
      simp (disch := omega) only [exec_succ, runR_next, runR_stop, stepS, setO, OutOK_stop, dropL, resV, gl0]
      refine Sat.enter ?_
      refine h2.run 300 ?_
      simp (disch := omega) only [exec_succ, runR_next, stepS, runOp, condS, toSR, sop, rOf, sInt, sBin, ev, Env.get, List.size_toArray, List.length_cons, List.length_nil, List.range, List.range.loop, List.getElem?_toArray, List.getElem?_cons_succ, List.getElem?_cons_zero, ↓reduceIte, Nat.reduceAdd, Nat.reduceLT, Nat.reduceEqDiff, Nat.zero_add, reduceCtorEq, gl0]
      refine OutOK_fork (fun h => (by first | (have h := of_decide_eq_true h; omega) | (simp only [Bool.not_true, Bool.not_false, decide_eq_true_eq, decide_eq_false_iff_not, Bool.not_eq_true', Bool.not_eq_false', Bool.and_eq_true, Bool.or_eq_false_iff, Bool.or_eq_true, Bool.and_eq_false_iff] at h; omega))) (fun _ => ?_)
      simp (disch := omega) only [exec_succ, runR_next, runR_stop, stepS, goS, exitTo, OutOK_stop, ↓reduceIte, beq_self_eq_true]
      refine h2.fin _ _ _ _ _ trivial rfl ?_
      refine h1.run 300 ?_
      simp (disch := omega) only [exec_succ, runR_next, runR_stop, stepS, setO, OutOK_stop, dropL, resV, gl0]
      refine h1.fin _ _ _ _ _ trivial rfl ?_
      refine hκ.run 300 ?_
      simp (disch := omega) only [exec_succ, runR_next, runR_stop, stepS, runOp, toSR, sop, rOf, ev, Env.get, setO, OutOK_stop, dropL, resV, List.size_toArray, List.length_cons, List.length_nil, List.range, List.range.loop, List.getElem?_toArray, List.getElem?_cons_succ, List.getElem?_cons_zero, ↓reduceIte, Nat.reduceAdd, Nat.reduceLT, Nat.reduceEqDiff, Nat.zero_add, gl0]
      refine hκ.ret _ _ _ _ _ _ trivial rfl ?_
      refine Post.frz [2] (by first | (simp [lendPL, lendP, lendSlP, dropL, Heap.get, Heap.drop, resV]; done) | (simp [lendPL, lendP, lendSlP, dropL, Heap.get, Heap.drop, resV]; omega) | (simp [lendPL, lendP, lendSlP, dropL, Heap.get, Heap.drop, resV, -List.length_eq_zero_iff]; omega)) ?_
      simp only [resV, lendL, lendS, lendSl, dropL, Heap.drop, Heap.get, List.mem_singleton, List.mem_cons, List.not_mem_nil, or_false, or_true, true_or, List.drop_zero, Nat.reduceEqDiff, Nat.one_ne_zero, Nat.zero_ne_one, ↓reduceIte, et]
      exact .ret (by simp [SV.bnd, SV.bndL])
end Go.Proofs.YtbgnnmlhpaaebaaDoor

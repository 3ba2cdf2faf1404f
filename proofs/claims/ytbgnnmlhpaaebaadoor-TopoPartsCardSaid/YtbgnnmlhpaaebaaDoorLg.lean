/- TopoParts: the walk of the law. No condition. -/
import Derived.Test.YtbgnnmlhpaaebaaDoorVb
namespace Go.Proofs.YtbgnnmlhpaaebaaDoor
open Go Go.Sy
set_option maxRecDepth 100000
set_option linter.unusedSimpArgs false
set_option linter.unusedVariables false

/-- How far the one before is. -/
def lastK (D : Int → Int) (L : List Int) : Nat → Int
  | 0 => -1
  | j + 1 => D (L.getD j default)
theorem dist_far (l : List Sea) (ho : okTs l = true) (hl : ∀ s ∈ l, inT s) (p : Nat) (c : Int) (hp : p < l.length) (hc : 0 ≤ c ∧ c < l.length) : Con Tryd.prog gl0 (fnv 13) [To l, I p, I c] 0 [] (Ret (.tup [I (farK l p c), I 0])) := by
  have h := dist_nat l ho hl p c.toNat hp (by omega)
  rw [Int.toNat_of_nonneg hc.1] at h
  exact h
theorem parts_law (x : List Sea) (cpu : Int) (am : Nat) (hx : ∀ s ∈ x, inT s) (hc : i64 cpu) (hs : am < 4294967296) (hn : x.length < 2 ^ 46) : Law Tryd.prog gl0 5 [To x, I cpu, S am] := by
  refine Law.of (nt := 118) (res := [.tmp 6]) Tryd.mixed Tryd.func5 rfl rfl rfl rfl fun κ xc hκ => hκ.run 300 ?_
  simp (disch := omega) only [exec_succ, runR_next, runR_call, stepS, runOp, toSR, sop, rOf, rNew, sBox, isArr, ev, evs, Env.get, cellsS, envOf, OutOK_call, Bool.false_eq_true, List.size_toArray, List.length_cons, List.length_nil, List.range, List.range.loop, List.getElem?_toArray, List.getElem?_cons_succ, List.getElem?_cons_zero, ↓reduceIte, Nat.reduceAdd, Nat.reduceLT, Nat.zero_add, Int.reduceNeg, gl0]
  refine Does.ret hκ.hP hκ.hgl (wakes_ok) ⟨trivial, by simp [SV.bnd, SV.bndL], by first | (simp [SV.bnd, SV.bndL]; done) | assumption⟩ ?_
  refine hκ.run 300 ?_
  simp (disch := omega) only [exec_succ, runR_next, runR_fork_false, runR_call, stepS, runOp, condS, toSR, sop, rOf, sLoadIn, sLoad, sUn, ev, evs, Env.get, Heap.get, takeN, cut, aggOf, setO, OutOK_call, List.size_toArray, List.length_cons, List.length_nil, List.range, List.range.loop, List.getElem?_toArray, List.getElem?_cons_succ, List.getElem?_cons_zero, ↓reduceIte, Nat.reduceAdd, Nat.reduceLT, Nat.reduceEqDiff, Nat.zero_add, Int.reduceNeg, Bool.not_true, gl0, Tryd.sz24, Tryd.ag24]
  have cx := short_ok x hn
  have ht := cut9_in hx
  have htl := cut9_len x
  generalize cut9 x = t at cx ht htl
  have c1 := tcheck_ok t ht (by omega)
  refine Does.ret hκ.hP hκ.hgl (cx) ⟨trivial, by simp [SV.bnd, SV.bndL], by first | (simp [SV.bnd, SV.bndL]; done) | assumption⟩ ?_
  refine hκ.run 300 ?_
  simp (disch := omega) only [exec_succ, runR_next, runR_need, runR_call, stepS, runOp, toSR, sop, rOf, rNew, sAlloc, sAlloc0, sLoadIn, sLoad, sStoreIn, sStore, ev, evs, svs, Env.get, Heap.get, Heap.set, takeN, cut, over, paste, aggOf, cellsS, one, ones, setO, OutOK_need, OutOK_call, undefS, undef, List.size_toArray, List.length_cons, List.length_nil, List.range, List.range.loop, List.getElem?_toArray, List.getElem?_cons_succ, List.getElem?_cons_zero, List.map_cons, List.map_nil, ↓reduceIte, Nat.reduceAdd, Nat.reduceLT, Nat.reduceEqDiff, Nat.zero_add, Int.reduceNeg, true_and, and_self, forall_const, gl0, Tryd.sz24, Tryd.ag24, Tryd.ze24, Tryd.ar24]
  cases ho : okTs t
  · rw [ho, if_neg (by decide)] at c1
    refine Does.ret hκ.hP hκ.hgl (c1) ⟨trivial, by simp [SV.bnd, SV.bndL], by first | (simp [SV.bnd, SV.bndL]; done) | assumption⟩ ?_
    refine hκ.run 300 ?_
    simp (disch := omega) only [exec_succ, runR_next, runR_fork_true, runR_stop, stepS, runOp, condS, toSR, sop, rOf, sInt, sBin, ev, Env.get, setO, OutOK_stop, List.size_toArray, List.length_cons, List.length_nil, List.range, List.range.loop, List.getElem?_toArray, List.getElem?_cons_succ, List.getElem?_cons_zero, ↓reduceIte, Nat.reduceLT, Nat.zero_add, Int.reduceEq, Int.reduceNeg, Bool.not_false, decide_false, gl0]
    refine hκ.ret _ _ _ _ _ _ trivial rfl ?_
    rfl
  rw [ho, if_pos rfl] at c1
  have hln : t.length < 2 ^ 40 := by omega
  refine Does.ret hκ.hP hκ.hgl (c1) ⟨trivial, by simp [SV.bnd, SV.bndL], by first | (simp [SV.bnd, SV.bndL]; done) | assumption⟩ ?_
  refine hκ.run 300 ?_
  simp (disch := omega) only [exec_succ, runR_next, runR_fork_false, runR_stop, stepS, runOp, condS, toSR, sop, rOf, sInt, sBin, ev, Env.get, setO, OutOK_stop, List.size_toArray, List.length_cons, List.length_nil, List.range, List.range.loop, List.getElem?_toArray, List.getElem?_cons_succ, List.getElem?_cons_zero, ↓reduceIte, Nat.reduceLT, Nat.zero_add, Int.reduceNeg, Bool.not_true, decide_true, gl0]
  refine Sat.less (Sat.loop (γ := Nat) (fun j => ([(27, I j), (8, S (metK t j)), (7, .ptr 1 0 0 0), (1, I cpu), (2, S am)], [(1, .own [Ss t] 24)], 2)) (fun j => 4 - j) (fun j => j ≤ 4) ?round 0 (Nat.zero_le _)) (by repeat' (first | exact EnvSub.nil _ | exact HeapSub.nil _ | refine EnvSub.cons rfl ?_ | refine HeapSub.cons rfl ?_ | (refine EnvSub.cons (by simp [Env.get]; done) ?_) | (refine HeapSub.cons (by simp [Heap.get]; done) ?_))) (by repeat' (first | exact EnvSub.nil _ | exact HeapSub.nil _ | refine EnvSub.cons rfl ?_ | refine HeapSub.cons rfl ?_ | (refine EnvSub.cons (by simp [Env.get]; done) ?_) | (refine HeapSub.cons (by simp [Heap.get]; done) ?_)))
  case round =>
    intro j hj ih
    dsimp only at hj ih ⊢
    refine hκ.runD 300 ?_
    simp (disch := omega) only [runR_next, stepS, runOp, condS, toSR, sop, sInt, sBin, ev, Env.get, halt, isDraw, drawC, execD_succ, List.size_toArray, List.length_cons, List.length_nil, List.range, List.range.loop, List.getElem?_toArray, List.getElem?_cons_zero, ↓reduceIte, Nat.reduceLT, Nat.zero_add, Int.reduceNeg, gl0]
    refine OutOK_fork (fun h => ?_) (fun h => ?_) <;> try simp only [Bool.not_true, Bool.not_false, decide_eq_true_eq, decide_eq_false_iff_not, Bool.not_eq_true', Bool.not_eq_false', Bool.and_eq_true, Bool.or_eq_false_iff, Bool.or_eq_true, Bool.and_eq_false_iff] at h
    · have hz := ih (j + 1) (by omega) (by omega)
      clear ih
      have c2 := socket_ok t j ht hln
      have h0 := met_and ho j
      have hm := metK_lt t j
      have hsk : sockK t j < 256 := qset_lt _ _
      rw [metK] at hz
      rw [← sockK] at c2
      generalize metK t j = m at h0 hm hz ⊢
      generalize sockK t j = sk at c2 h0 hsk hz
      have e1 : ((m &&& sk : Nat) : Int) = 0 := by rw [h0]; rfl
      simp (disch := omega) only [runR_next, runR_call, stepS, runOp, toSR, sop, rOf, sLoadIn, sLoad, ev, evs, Env.get, Heap.get, takeN, cut, aggOf, OutOK_call, halt, isDraw, drawC, execD_succ, List.size_toArray, List.length_cons, List.length_nil, List.range, List.range.loop, List.getElem?_toArray, List.getElem?_cons_succ, List.getElem?_cons_zero, ↓reduceIte, Nat.reduceAdd, Nat.reduceLT, Nat.reduceEqDiff, Nat.zero_add, Int.reduceNeg, Tryd.sz24, Tryd.ag24]
      refine Does.ret hκ.hP hκ.hgl (c2) ⟨trivial, by simp [SV.bnd, SV.bndL], by first | (simp [SV.bnd, SV.bndL]; done) | assumption⟩ ?_
      refine hκ.runD 300 ?_
      simp (disch := omega) only [runR_next, stepS, runOp, condS, toSR, sop, rOf, sInt, sBin, ev, Env.get, setO, halt, isDraw, drawC, execD_succ, List.size_toArray, List.length_cons, List.length_nil, List.range, List.range.loop, List.getElem?_toArray, List.getElem?_cons_succ, List.getElem?_cons_zero, ↓reduceIte, Nat.reduceAdd, Nat.reduceLT, Nat.reduceEqDiff, Nat.zero_add, Int.reduceNeg, gl0]
      rw [and32 (by omega) (by omega), e1]
      simp (disch := omega) only [runR_next, runR_fork_false, runR_stop, stepS, runOp, toSR, sop, rOf, sInt, sBin, ev, Env.get, OutOK_stop, halt, isDraw, drawC, execD_succ, List.size_toArray, List.length_cons, List.length_nil, List.range, List.range.loop, List.getElem?_toArray, List.getElem?_cons_succ, List.getElem?_cons_zero, ↓reduceIte, Nat.reduceAdd, Nat.reduceLT, Nat.reduceEqDiff, Nat.zero_add, Int.reduceNeg, Bool.not_true, decide_true, wrap_i64]
      rw [or32 (by omega) (by omega)]
      exact hz.less (by repeat' (first | exact EnvSub.nil _ | exact HeapSub.nil _ | refine EnvSub.cons rfl ?_ | refine HeapSub.cons rfl ?_ | (refine EnvSub.cons (by simp [Env.get]; done) ?_) | (refine HeapSub.cons (by simp [Heap.get]; done) ?_))) (by repeat' (first | exact EnvSub.nil _ | exact HeapSub.nil _ | refine EnvSub.cons rfl ?_ | refine HeapSub.cons rfl ?_ | (refine EnvSub.cons (by simp [Env.get]; done) ?_) | (refine HeapSub.cons (by simp [Heap.get]; done) ?_)))
    · simp (disch := omega) only [runR_next, stepS, goS, exitTo, OutOK_stop, halt, isDraw, drawC, execD_succ, ↓reduceIte, Int.reduceNeg, beq_self_eq_true]
      obtain rfl : j = 4 := by omega
      rw [met_all ho]
      have c2 := all_ok t ht hln
      have hcnt := cnt_all ho
      have hq := qset_lt (fun _ => true) t
      have c3 := count_ok (qset (fun _ => true) t) (by omega)
      rw [hcnt] at c3
      have c4 := near_ok t cpu am ht hln hs
      have hof := fun p => near_of ho p am
      have hlen := fun p => near_len t p am
      have hin := fun p => near_in ho p am
      have hris := fun p => near_rising t p am
      have hfst := fun (p : Nat) => near_first ho (p := p) (s := am)
      clear hcnt
      generalize qset (fun _ => true) t = q at c2 c3 hq hof hlen ⊢
      refine hκ.draw (.q 0 (.q 1 (.l 2 [] (.q 3 (.q 4 (.q 5 (.q 7 (.q 8 (.q 9 (.l 6 [1, 8] (.q 10 (.q 11 (.fin))))))))))))) [0, 1, 3, 4, 5, 7, 8, 9, 10, 11] (by kernel_rfl) (by kernel_rfl) rfl ?_
      simp (disch := omega) only [sop, rOf, sLoadIn, sLoad, ev, evs, Env.get, Heap.get, takeN, cut, aggOf, setO, drawP_q, drawP_l, dq, dqn, dl, guardP, R1Q, dstOK, loudP, Int.cast_ofNat_Int, List.getElem?_toArray, List.getElem?_cons_succ, List.getElem?_cons_zero, ↓reduceIte, Nat.reduceLT, Nat.reduceEqDiff, Int.reduceLT, Int.reduceNeg, decide_false, true_and, gl0, Tryd.sz24, Tryd.ag24]
      refine DCall.of (Does.ret hκ.hP hκ.hgl (c2) ⟨trivial, by simp [SV.bnd, SV.bndL], by first | (simp [SV.bnd, SV.bndL]; done) | assumption⟩ ?_)
      simp (disch := omega) only [sBuiltin, sop, rOf, sLoadIn, sLoad, sInt, sBin, sFieldAddr, sLen, ev, evs, Env.get, Heap.get, takeN, cut, aggOf, setO, drawP_q, drawP_l, dnext, dq, dqn, dl, GF.ff, guardP, R1Q, dstOK, loudP, again, List.length_map, List.getElem?_toArray, List.getElem?_cons_succ, List.getElem?_cons_zero, Option.bind_some, ↓reduceIte, Nat.reduceLT, Nat.reduceEqDiff, Nat.add_zero, Nat.add_one_ne_zero, Int.reduceNeg, Bool.not_true, decide_true, true_and, Tryd.underlying22, Tryd.sz22, Tryd.ag22, Tryd.fd24f0]
      refine DCall.of (Does.ret hκ.hP hκ.hgl (c3) ⟨trivial, by simp [SV.bnd, SV.bndL], by first | (simp [SV.bnd, SV.bndL]; done) | assumption⟩ ?_)
      simp (disch := omega) only [sop, rOf, sPick, sLoadIn, sLoad, sInt, sBin, ev, Env.get, Heap.get, takeN, cut, aggOf, setO, drawP_fin, drawP_q, dnext, dq, dqn, slotR, ag, GF.ff, guardP, R1Q, dstOK, again, again1, slotIs, R1OK, List.getElem?_toArray, List.getElem?_cons_succ, List.getElem?_cons_zero, Option.bind_some, ↓reduceIte, Nat.reduceLT, Nat.reduceEqDiff, Int.reduceNeg, Bool.not_true, decide_true, true_and, and_self, Tryd.sz22, Tryd.ag22, Tryd.sz24, Tryd.ag24]
      refine hκ.runD 300 ?_
      simp (disch := omega) only [runR_next, runR_fork_false, runR_call, stepS, runOp, condS, toSR, sop, rOf, sLoadIn, sLoad, ev, evs, Env.get, Heap.get, takeN, cut, aggOf, OutOK_call, halt, isDraw, drawC, execD_succ, List.size_toArray, List.length_cons, List.length_nil, List.range, List.range.loop, List.getElem?_toArray, List.getElem?_cons_succ, List.getElem?_cons_zero, ↓reduceIte, Nat.reduceAdd, Nat.reduceLT, Nat.reduceEqDiff, Nat.zero_add, Int.reduceNeg, gl0, Tryd.sz24, Tryd.ag24]
      refine Does.ret hκ.hP hκ.hgl (c4) ⟨trivial, by simp [SV.bnd, SV.bndL], by first | (simp [SV.bnd, SV.bndL]; done) | assumption⟩ ?_
      by_cases hE : nearE t cpu am = 0
      case neg =>
        rw [if_neg hE]
        have e1 : (nearE t cpu am = 0) = False := by first | (simp only [eq_iff_iff, iff_false]; first | assumption | omega) | (simp; omega)
        refine hκ.runD 300 ?_
        simp (disch := omega) only [runR_next, runR_fork_true, runR_stop, stepS, runOp, condS, toSR, sop, rOf, sInt, sBin, sExtract, ev, Env.get, setO, OutOK_stop, halt, isDraw, drawC, execD_succ, List.size_toArray, List.length_cons, List.length_nil, List.range, List.range.loop, List.getElem?_toArray, List.getElem?_cons_succ, List.getElem?_cons_zero, ↓reduceIte, Nat.reduceAdd, Nat.reduceLT, Nat.reduceEqDiff, Nat.zero_add, Int.reduceNeg, Bool.not_false, decide_false, gl0, e1]
        refine hκ.ret _ _ _ _ _ _ trivial rfl ?_
        rfl
      rw [if_pos hE, hE]
      have hpar : inN t cpu = true ∧ am < 256 := by
        rw [nearE, if_pos ho] at hE
        by_cases h1 : inN t cpu = true
        · rw [if_pos h1] at hE
          by_cases h2 : am < 256
          · exact ⟨h1, h2⟩
          · rw [if_neg h2] at hE; cases hE
        · rw [if_neg h1] at hE; cases hE
      have h1 := (inN_iff _ _).1 hpar.1
      obtain ⟨p, rfl⟩ : ∃ p : Nat, cpu = p := ⟨cpu.toNat, by omega⟩
      rw [Int.toNat_natCast]
      have hof := hof p
      have hlen := hlen p
      have hin := hin p
      have hris := hris p
      have hfst := fun h => hfst p (by omega) h
      have hqa : am &&& q < 256 := Nat.and_lt_two_pow (n := 8) _ hq
      have hcl := cnt_le (am &&& q)
      generalize nearL t p am = L at hof hlen hin hris hfst ⊢
      have c5 := of_ok L (fun c h => by have := hin c h; omega) (by omega)
      rw [hof.1, hof.2] at c5
      have c6 := count_ok (am &&& q) (by omega)
      rw [← hlen] at c6
      generalize haq : am &&& q = aq at hof hlen hqa hcl c5 c6
      have c7 := has_ok am p hs hc
      have hx3 : ∀ T3, Sat κ xc ⟨T3, [(7, .ptr 1 0 0 0), (11, Is L), (1, I p)], [(1, .own [Ss t] 24)], 2, []⟩ → True := fun _ _ => trivial
      clear hx3
      refine hκ.runA 23 300 ?_
      simp (disch := omega) only [runR_next, runR_fork_false, runR_call, stepS, runOp, condS, toSR, sop, rOf, sInt, sBin, sExtract, ev, evs, Env.get, setO, OutOK_call, halt, isAt, atC, execA_succ, List.size_toArray, List.length_cons, List.length_nil, List.range, List.range.loop, List.getElem?_toArray, List.getElem?_cons_succ, List.getElem?_cons_zero, ↓reduceIte, Nat.reduceAdd, Nat.reduceLT, Nat.reduceEqDiff, Nat.zero_add, Nat.reduceBEq, Int.reduceNeg, Bool.not_true, decide_true, gl0]
      refine Does.ret hκ.hP hκ.hgl (c5) ⟨trivial, by simp [SV.bnd, SV.bndL], by first | (simp [SV.bnd, SV.bndL]; done) | assumption⟩ ?_
      refine hκ.runA 23 300 ?_
      simp (disch := omega) only [runR_next, runR_guard_ff, runR_call, stepS, runOp, guardS, toSR, sop, rOf, sLoadIn, sLoad, sInt, sBin, sExtract, ev, evs, Env.get, Heap.get, takeN, cut, aggOf, setO, OutOK_call, undefS, undef, halt, isAt, atC, execA_succ, List.size_toArray, List.length_cons, List.length_nil, List.range, List.range.loop, List.getElem?_toArray, List.getElem?_cons_succ, List.getElem?_cons_zero, Option.bind_some, ↓reduceIte, Nat.reduceAdd, Nat.reduceLT, Nat.reduceEqDiff, Nat.zero_add, Nat.reduceBEq, Int.reduceNeg, Bool.not_true, Bool.not_false, decide_true, and_self, gl0, Tryd.sz24, Tryd.ag24]
      refine Does.ret hκ.hP hκ.hgl (c2) ⟨trivial, by simp [SV.bnd, SV.bndL], by first | (simp [SV.bnd, SV.bndL]; done) | assumption⟩ ?_
      refine hκ.runA 23 300 ?_
      simp (disch := omega) only [sBuiltin, runR_next, runR_guard_ff, runR_call, stepS, runOp, guardS, toSR, sop, rOf, sPick, sInt, sBin, sLen, ev, evs, Env.get, setO, OutOK_call, undefS, undef, halt, isAt, execA_succ, List.length_map, List.getElem?_toArray, List.getElem?_cons_succ, List.getElem?_cons_zero, Option.bind_some, ↓reduceIte, Nat.reduceLT, Nat.reduceEqDiff, Int.reduceNeg, Bool.not_true, Bool.not_false, decide_true, and_self, gl0, Tryd.underlying38, and32, haq]
      refine Does.ret hκ.hP hκ.hgl (c6) ⟨trivial, by simp [SV.bnd, SV.bndL], by first | (simp [SV.bnd, SV.bndL]; done) | assumption⟩ ?_
      refine hκ.runA 23 300 ?_
      simp (disch := omega) only [runR_next, runR_guard_ff, runR_call, stepS, runOp, guardS, toSR, sop, rOf, sPick, sInt, sBin, ev, evs, Env.get, setO, OutOK_call, undefS, undef, halt, isAt, execA_succ, List.getElem?_toArray, List.getElem?_cons_succ, List.getElem?_cons_zero, Option.bind_some, ↓reduceIte, Nat.reduceLT, Nat.reduceEqDiff, Int.reduceNeg, Bool.not_true, Bool.not_false, decide_true, and_self, gl0]
      refine Does.ret hκ.hP hκ.hgl (c7) ⟨trivial, by simp [SV.bnd, SV.bndL], by first | (simp [SV.bnd, SV.bndL]; done) | assumption⟩ ?_
      apply Sat.join (α := Unit) (nx := 2) (dfs := []) (fun _ => True) (fun _ => ([(7, .ptr 1 0 0 0), (11, Is L), (1, I p)], [(1, .own [Ss t] 24)]))
      · intro hj
        have hj := hj () trivial
        dsimp only at hj
        cases hb : hasB am p
        · refine hκ.runA 23 300 ?_
          simp (disch := omega) only [runR_next, runR_fork_false, runR_guard_ff, runR_guard_ft, stepS, runOp, guardS, condS, toSR, sop, rOf, sPick, sLoad, sEq, sEqR, sBin, sIndexAddr, ev, Env.get, setO, OutOK_stop, undefS, undef, halt, isAt, atC, execA_succ, List.getElem?_toArray, List.getElem?_cons_succ, List.getElem?_cons_zero, Option.bind_some, ↓reduceIte, Nat.reduceLT, Nat.reduceEqDiff, Int.reduceNeg, Bool.not_true, Bool.not_false, beq_self_eq_true, and_self, gl0]
          exact hj.less (by repeat' (first | exact EnvSub.nil _ | exact HeapSub.nil _ | refine EnvSub.cons rfl ?_ | refine HeapSub.cons rfl ?_ | (refine EnvSub.cons (by simp [Env.get]; done) ?_) | (refine HeapSub.cons (by simp [Heap.get]; done) ?_))) (by repeat' (first | exact EnvSub.nil _ | exact HeapSub.nil _ | refine EnvSub.cons rfl ?_ | refine HeapSub.cons rfl ?_ | (refine EnvSub.cons (by simp [Env.get]; done) ?_) | (refine HeapSub.cons (by simp [Heap.get]; done) ?_)))
        · obtain ⟨f1, f2⟩ := hfst hb
          have gl0' : (List.map (eI .i64) L).getD 0 [] = [I (L.getD 0 default)] := getD_map _ _ _ f1
          rw [f2] at gl0'
          refine hκ.runA 23 300 ?_
          simp (disch := omega) only [runR_next, runR_need, runR_fork_false, runR_guard_tt, runR_guard_ff, stepS, runOp, guardS, condS, toSR, sop, rOf, sPick, sLoad, sInt, sBin, sIndexAddr, elemT, obind, ev, Env.get, takeN, cut, aggOf, setO, OutOK_need, OutOK_stop, undefS, undef, halt, isAt, atC, execA_succ, List.length_map, List.getElem?_toArray, List.getElem?_cons_succ, List.getElem?_cons_zero, Option.bind_some, ↓reduceIte, Nat.reduceLT, Nat.reduceEqDiff, Int.reduceToNat, Int.reduceLE, Int.reduceNeg, Bool.not_true, Bool.not_false, decide_true, beq_self_eq_true, true_and, and_self, gl0, Tryd.sz3, Tryd.ag3, Tryd.underlying38, gl0']
          (repeat (refine ⟨by first | omega | (refine ⟨?_, ?_⟩ <;> omega) | trivial | (simp; done) | decide +kernel, fun _ => ?_⟩))
          exact hj.less (by repeat' (first | exact EnvSub.nil _ | exact HeapSub.nil _ | refine EnvSub.cons rfl ?_ | refine HeapSub.cons rfl ?_ | (refine EnvSub.cons (by simp [Env.get]; done) ?_) | (refine HeapSub.cons (by simp [Heap.get]; done) ?_))) (by repeat' (first | exact EnvSub.nil _ | exact HeapSub.nil _ | refine EnvSub.cons rfl ?_ | refine HeapSub.cons rfl ?_ | (refine EnvSub.cons (by simp [Env.get]; done) ?_) | (refine HeapSub.cons (by simp [Heap.get]; done) ?_)))
      intro _ _
      dsimp only
      refine hκ.run 300 ?_
      simp (disch := omega) only [sBuiltin, exec_succ, runR_next, runR_stop, stepS, runOp, toSR, sop, rOf, sLen, ev, Env.get, OutOK_stop, List.size_toArray, List.length_cons, List.length_nil, List.length_map, List.range, List.range.loop, List.getElem?_toArray, List.getElem?_cons_succ, List.getElem?_cons_zero, ↓reduceIte, Nat.reduceAdd, Nat.reduceLT, Nat.reduceEqDiff, Nat.zero_add, Int.reduceNeg, gl0, Tryd.underlying38]
      refine Sat.less (Sat.loop (γ := Nat) (fun j => ([(98, I j), (97, I L.length), (96, Is L), (15, I (lastK (farK t p) L j)), (7, .ptr 1 0 0 0), (1, I p)], [(1, .own [Ss t] 24)], 2)) (fun j => L.length - j) (fun j => j ≤ L.length) ?last 0 (Nat.zero_le _)) (by repeat' (first | exact EnvSub.nil _ | exact HeapSub.nil _ | refine EnvSub.cons rfl ?_ | refine HeapSub.cons rfl ?_ | (refine EnvSub.cons (by simp [Env.get]; done) ?_) | (refine HeapSub.cons (by simp [Heap.get]; done) ?_))) (by repeat' (first | exact EnvSub.nil _ | exact HeapSub.nil _ | refine EnvSub.cons rfl ?_ | refine HeapSub.cons rfl ?_ | (refine EnvSub.cons (by simp [Env.get]; done) ?_) | (refine HeapSub.cons (by simp [Heap.get]; done) ?_)))
      case last =>
        intro j hj ih
        dsimp only at hj ih ⊢
        refine hκ.run 300 ?_
        simp (disch := omega) only [exec_succ, runR_next, stepS, runOp, condS, toSR, sop, sInt, sBin, ev, Env.get, List.size_toArray, List.length_cons, List.length_nil, List.range, List.range.loop, List.getElem?_toArray, List.getElem?_cons_zero, ↓reduceIte, Nat.reduceLT, Nat.reduceEqDiff, Nat.zero_add, gl0]
        refine OutOK_fork (fun h => ?_) (fun h => ?_) <;> try simp only [Bool.not_true, Bool.not_false, decide_eq_true_eq, decide_eq_false_iff_not, Bool.not_eq_true', Bool.not_eq_false', Bool.and_eq_true, Bool.or_eq_false_iff, Bool.or_eq_true, Bool.and_eq_false_iff] at h
        · have hz := ih (j + 1) (by omega) (by omega)
          clear ih
          have hc := hin _ (getD_mem (show j < L.length by omega))
          have c8 := dist_far t ho ht p _ (by omega) hc
          have hrj : lastK (farK t p) L j ≤ farK t p (L.getD j default) := by
            cases j with
            | zero => have := far_bd t p (L.getD 0 default); rw [lastK]; omega
            | succ j => exact rising_at hris (by omega) (by omega)
          rw [lastK] at hz
          have gk : (List.map (eI .i64) L).getD j [] = [I (L.getD j default)] := getD_map _ _ _ (by omega)
          generalize lastK (farK t p) L j = la at hrj ⊢
          generalize farK t p (L.getD j default) = d at hrj hz c8
          generalize L.getD j default = n at gk c8
          have e1 : (d < la) = False := by first | (simp only [eq_iff_iff, iff_false]; first | assumption | omega) | (simp; omega)
          simp (disch := omega) only [exec_succ, runR_next, runR_need, runR_call, stepS, runOp, toSR, sop, rOf, sLoadIn, sLoad, sIndexAddr, elemT, obind, ev, evs, Env.get, Heap.get, takeN, cut, aggOf, OutOK_need, OutOK_call, List.size_toArray, List.length_cons, List.length_nil, List.length_map, List.range, List.range.loop, List.getElem?_toArray, List.getElem?_cons_succ, List.getElem?_cons_zero, ↓reduceIte, Nat.reduceAdd, Nat.reduceLT, Nat.reduceEqDiff, Nat.zero_add, Int.toNat_natCast, Tryd.sz3, Tryd.ag3, Tryd.sz24, Tryd.ag24, Tryd.underlying38, gk]
          (repeat (refine ⟨by first | omega | (refine ⟨?_, ?_⟩ <;> omega) | trivial | (simp; done) | decide +kernel, fun _ => ?_⟩))
          refine Does.ret hκ.hP hκ.hgl (c8) ⟨trivial, by simp [SV.bnd, SV.bndL], by first | (simp [SV.bnd, SV.bndL]; done) | assumption⟩ ?_
          refine hκ.run 300 ?_
          simp (disch := omega) only [exec_succ, runR_next, runR_fork_false, runR_guard_ff, runR_stop, stepS, runOp, guardS, condS, toSR, sop, rOf, sPick, sInt, sBin, sExtract, ev, Env.get, setO, OutOK_stop, undefS, undef, List.size_toArray, List.length_cons, List.length_nil, List.range, List.range.loop, List.getElem?_toArray, List.getElem?_cons_succ, List.getElem?_cons_zero, Option.bind_some, ↓reduceIte, Nat.reduceAdd, Nat.reduceLT, Nat.reduceEqDiff, Nat.zero_add, Bool.not_true, Bool.not_false, decide_true, decide_false, and_self, wrap_i64, gl0, e1]
          exact hz.less (by repeat' (first | exact EnvSub.nil _ | exact HeapSub.nil _ | refine EnvSub.cons rfl ?_ | refine HeapSub.cons rfl ?_ | (refine EnvSub.cons (by simp [Env.get]; done) ?_) | (refine HeapSub.cons (by simp [Heap.get]; done) ?_))) (by repeat' (first | exact EnvSub.nil _ | exact HeapSub.nil _ | refine EnvSub.cons rfl ?_ | refine HeapSub.cons rfl ?_ | (refine EnvSub.cons (by simp [Env.get]; done) ?_) | (refine HeapSub.cons (by simp [Heap.get]; done) ?_)))
        · simp (disch := omega) only [exec_succ, runR_next, runR_stop, stepS, runOp, goS, toSR, sop, rOf, ev, exitTo, OutOK_stop, List.size_toArray, List.length_cons, List.length_nil, List.range, List.range.loop, List.getElem?_toArray, List.getElem?_cons_zero, ↓reduceIte, Nat.reduceLT, Nat.zero_add, beq_self_eq_true]
          refine hκ.ret _ _ _ _ _ _ trivial rfl ?_
          rfl
end Go.Proofs.YtbgnnmlhpaaebaaDoor

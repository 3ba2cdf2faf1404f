/- Walk of the reference's Fair. No condition. -/
import Derived.Test.YtgnkhcnpjediaaaDoorR13c
import Derived.Test.YtgnkhcnpjediaaaDoorFa
namespace Go.Proofs.YtgnkhcnpjediaaaDoor
open Go Go.Sy
set_option maxRecDepth 100000
set_option linter.unusedSimpArgs false
set_option linter.unusedVariables false

/-- What is taken by placements. -/
def tkn (ps : List (Int × Int)) : Nat := ps.foldl (fun s p => s ||| 2 ^ p.2.toNat) 0
theorem tkn_snoc (ps : List (Int × Int)) (p : Int × Int) : tkn (ps ++ [p]) = tkn ps ||| 2 ^ p.2.toNat := by simp [tkn, List.foldl_append]
theorem tkn_bit : ∀ (n : Nat) (ps : List (Int × Int)), ps.length = n → (∀ p ∈ ps, 0 ≤ p.2) → ∀ c : Int, 0 ≤ c → (tkn ps).testBit c.toNat = ps.any fun p => decide (p.2 = c) := by
  intro n
  induction n with
  | zero => intro ps h _ c _; rw [List.eq_nil_of_length_eq_zero h]; simp [tkn]
  | succ n ih =>
    intro ps h hp c hc
    rcases List.eq_nil_or_concat ps with rfl | ⟨qs, p, rfl⟩
    · simp at h
    · rw [List.concat_eq_append] at h hp ⊢
      have h0 := hp p (by simp)
      rw [tkn_snoc, or_bit, ih qs (by simpa using h) (fun q hq => hp q (by simp [hq])) c hc, List.any_append]
      congr 1
      simp only [List.any_cons, List.any_nil, Bool.or_false]
      exact decide_eq_decide.2 ⟨fun h => by omega, fun h => by rw [h]⟩
theorem fairG_miss {free a : Nat} {w : Wi} {l : List Wi} {ps : List (Int × Int)} {n : Nat} (h : ¬ (n < ps.length ∧ (ps.getD n default).1 = w.v)) : fairG free a (w :: l) (ps.drop n) = (decide (dif (alw w.m free) a = 0) && fairG free a l (ps.drop n)) := by
  by_cases hn : n < ps.length
  · have hd : ps.drop n = ps.getD n default :: ps.drop (n + 1) := by
      rw [List.drop_eq_getElem_cons hn, List.getD, List.getElem?_eq_getElem hn]; rfl
    rw [hd, fairG, if_neg (fun e => h ⟨hn, e⟩)]
  · rw [List.drop_of_length_le (by omega), fairG]
theorem fairG_hit {free a : Nat} {w : Wi} {l : List Wi} {ps : List (Int × Int)} {n : Nat} (hn : n < ps.length) (h : (ps.getD n default).1 = w.v) : fairG free a (w :: l) (ps.drop n) = ((hasB (alw w.m free) (ps.getD n default).2 && !a.testBit (ps.getD n default).2.toNat) && fairG free (a ||| 2 ^ (ps.getD n default).2.toNat) l (ps.drop (n + 1))) := by
  have hd : ps.drop n = ps.getD n default :: ps.drop (n + 1) := by
    rw [List.drop_eq_getElem_cons hn, List.getD, List.getElem?_eq_getElem hn]; rfl
  rw [hd, fairG, if_pos h]
theorem any_snoc {α : Type} [Inhabited α] (f : α → Bool) (l : List α) (k : Nat) (h : k < l.length) : (l.take (k + 1)).any f = ((l.take k).any f || f (l.getD k default)) := by
  rw [List.take_succ_eq_append_getElem h, List.any_append, List.getD, List.getElem?_eq_getElem h]; simp

theorem rfair_ok (l : List Wi) (free : Nat) (puts : List (Int × Int)) (hl : ∀ w ∈ l, inW w) (hw : okWs [] l = true) (hn : l.length < 2 ^ 40) (hn2 : puts.length < 2 ^ 40) (hf : free < 256) :
    Con Tryd.prog gl0 (fnv 25) [Ws l, S free, Ps puts] 0 [] (Ret (Bo (fairG free 0 l puts))) := by
  refine Con.of Tryd.ok25 (nt := 96) (res := [.tmp 6]) Tryd.mixed Tryd.func25 rfl rfl rfl rfl fun κ xc hκ => hκ.run 300 ?_
  simp (disch := omega) only [exec_succ, runR_next, runR_stop, stepS, runOp, toSR, sop, rOf, ev, envOf, OutOK_stop, List.size_toArray, List.length_cons, List.length_nil, List.range, List.range.loop, List.getElem?_toArray, List.getElem?_cons_zero, ↓reduceIte, Nat.reduceAdd, Nat.reduceLT, Nat.zero_add, gl0]
  refine Sat.less (Sat.loop (γ := Nat × Nat) (fun g => ([(8, I g.1), (7, I g.2), (0, Ws l), (1, S free), (2, Ps puts)], [], 0)) (fun g => l.length - g.1)
    (fun g => g.1 ≤ l.length ∧ g.2 ≤ puts.length ∧ fairG free (tkn (puts.take g.2)) (l.drop g.1) (puts.drop g.2) = fairG free 0 l puts ∧ (∀ p ∈ puts.take g.2, 0 ≤ p.2 ∧ p.2 < 8)) ?round (0, 0) ⟨Nat.zero_le _, Nat.zero_le _, rfl, by simp⟩) (by repeat' (first | exact EnvSub.nil _ | exact HeapSub.nil _ | refine EnvSub.cons rfl ?_ | refine HeapSub.cons rfl ?_ | (refine EnvSub.cons (by simp [Env.get]; done) ?_) | (refine HeapSub.cons (by simp [Heap.get]; done) ?_))) (by repeat' (first | exact EnvSub.nil _ | exact HeapSub.nil _ | refine EnvSub.cons rfl ?_ | refine HeapSub.cons rfl ?_ | (refine EnvSub.cons (by simp [Env.get]; done) ?_) | (refine HeapSub.cons (by simp [Heap.get]; done) ?_)))
  case round =>
    rintro ⟨i, n⟩ ⟨hi, hnp, hfair, hbd⟩ ih
    dsimp only at hi hnp hfair hbd ih ⊢
    refine hκ.run 300 ?_
    simp (disch := omega) only [sBuiltin, exec_succ, runR_next, stepS, runOp, condS, toSR, sop, rOf, sInt, sBin, sLen, ev, Env.get, List.size_toArray, List.length_cons, List.length_nil, List.length_map, List.range, List.range.loop, List.getElem?_toArray, List.getElem?_cons_succ, List.getElem?_cons_zero, ↓reduceIte, Nat.reduceAdd, Nat.reduceLT, Nat.reduceEqDiff, Nat.zero_add, Nat.add_one_ne_zero, gl0, Tryd.underlying22]
    refine OutOK_fork (fun h => ?_) (fun h => ?_) <;> try simp only [Bool.not_true, Bool.not_false, decide_eq_true_eq, decide_eq_false_iff_not, Bool.not_eq_true', Bool.not_eq_false', Bool.and_eq_true, Bool.or_eq_false_iff, Bool.or_eq_true, Bool.and_eq_false_iff] at h
    · have hm : l.getD i default ∈ l := by
        rw [List.getD, List.getElem?_eq_getElem (by omega)]; exact List.getElem_mem _
      have hd : l.drop i = l.getD i default :: l.drop (i + 1) := by
        rw [List.drop_eq_getElem_cons (by omega), List.getD, List.getElem?_eq_getElem (by omega)]; rfl
      have hmk := okWs_mask _ _ hw _ hm
      have hz := fun n h0 h1 h2 => ih (i + 1, n) ⟨by dsimp only; omega, h0, h1, h2⟩ (by dsimp only; omega)
      dsimp only at hz
      rw [hd] at hfair
      have halw := alw_lt (l.getD i default).m free
      have htb := tkn_bit n (puts.take n) (by simp; omega) (fun p hp => (hbd p hp).1)
      simp (disch := omega) only [exec_succ, runR_next, runR_need, runR_call, stepS, runOp, toSR, sop, rOf, sLoad, sFieldAddr, sIndexAddr, elemT, obind, ev, evs, Env.get, takeN, cut, aggOf, OutOK_need, OutOK_call, List.size_toArray, List.length_cons, List.length_nil, List.length_map, List.range, List.range.loop, List.getElem?_toArray, List.getElem?_cons_succ, List.getElem?_cons_zero, ↓reduceIte, Nat.reduceAdd, Nat.reduceLT, Nat.reduceEqDiff, Nat.zero_add, Nat.add_one_ne_zero, Int.toNat_natCast, reduceCtorEq, getD_map, Tryd.underlying22, Tryd.sz34, Tryd.ag34, Tryd.sz36, Tryd.fd36f2, eW]
      (repeat (refine ⟨by first | omega | (refine ⟨?_, ?_⟩ <;> omega) | trivial | (simp; done) | decide +kernel, fun _ => ?_⟩))
      refine Does.ret hκ.hP hκ.hgl (rallows_ok (l.getD i default).m free hmk hf) ⟨trivial, by simp [SV.bnd, SV.bndL], by first | (simp [SV.bnd, SV.bndL]; done) | assumption⟩ ?_
      refine hκ.run 300 ?_
      simp (disch := omega) only [allQuiet, quietOp, drawS, exec_succ, runR_next, runR_stop, stepS, runOp, toSR, sop, rOf, ev, Env.get, setO, OutOK_stop, Option.isNone_none, Option.isNone_some, Bool.and_true, Bool.and_false, List.getElem?_toArray, List.getElem?_cons_succ, List.getElem?_cons_zero, ↓reduceIte, Nat.reduceLT, gl0]
      by_cases hit : n < puts.length ∧ (puts.getD n default).1 = (l.getD i default).v
      · obtain ⟨h1, h2⟩ := hit
        rw [fairG_hit h1 h2] at hfair
        have e1 : ((n : Int) < puts.length) = True := by simp only [eq_iff_iff, iff_true]; omega
        refine hκ.draw (.q 0 (.q 1 (.q 2 (.q 3 (.q 4 (.q 5 (.q 6 (.q 7 (.q 8 (.q 9 (.q 10 (.q 11 (.q 12 (.q 13 (.q 14 (.q 15 (.q 16 (.fin)))))))))))))))))) [0, 1, 2, 3, 4, 5, 6, 7, 8, 9, 10, 11, 12, 13, 14, 15, 16] (by kernel_rfl) (by kernel_rfl) rfl ?_
        simp (disch := omega) only [sBuiltin, sop, rOf, sPick, sLoad, sInt, sBin, sFieldAddr, sIndexAddr, sLen, elemT, obind, ev, Env.get, takeN, cut, aggOf, setO, drawP_fin, drawP_q, dq, dqn, GF.tt, guardP, R1Q, dstOK, List.length_map, List.getElem?_toArray, List.getElem?_cons_succ, List.getElem?_cons_zero, Option.bind_some, ↓reduceIte, Nat.reduceLT, Nat.reduceEqDiff, Nat.add_zero, Nat.add_one_ne_zero, Int.toNat_natCast, decide_true, and_true, true_and, reduceCtorEq, getD_map, gl0, Tryd.sz3, Tryd.ag3, Tryd.underlying22, Tryd.underlying26, Tryd.sz31, Tryd.fd31f0, Tryd.sz36, Tryd.fd36f0, e1, h2, eW, eP]
        (repeat (refine ⟨by first | omega | (refine ⟨?_, ?_⟩ <;> omega) | trivial | (simp; done) | decide +kernel, fun _ => ?_⟩))
        refine hκ.run 300 ?_
        simp (disch := omega) only [exec_succ, runR_next, runR_need, runR_fork_true, runR_call, stepS, runOp, condS, toSR, sop, rOf, sLoad, sFieldAddr, sIndexAddr, elemT, obind, ev, evs, Env.get, takeN, cut, aggOf, OutOK_need, OutOK_call, List.size_toArray, List.length_cons, List.length_nil, List.length_map, List.range, List.range.loop, List.getElem?_toArray, List.getElem?_cons_succ, List.getElem?_cons_zero, ↓reduceIte, Nat.reduceAdd, Nat.reduceLT, Nat.reduceEqDiff, Nat.zero_add, Nat.add_one_ne_zero, Int.toNat_natCast, reduceCtorEq, getD_map, gl0, Tryd.sz3, Tryd.ag3, Tryd.underlying26, Tryd.sz31, Tryd.fd31f1, eP]
        (repeat (refine ⟨by first | omega | (refine ⟨?_, ?_⟩ <;> omega) | trivial | (simp; done) | decide +kernel, fun _ => ?_⟩))
        refine Does.ret hκ.hP hκ.hgl (rhas_ok (alw (l.getD i default).m free) (puts.getD n default).2) ⟨trivial, by simp [SV.bnd, SV.bndL], by first | (simp [SV.bnd, SV.bndL]; done) | assumption⟩ ?_
        cases hb : hasB (alw (l.getD i default).m free) (puts.getD n default).2
        · rw [hb, Bool.false_and, Bool.false_and] at hfair
          refine hκ.run 300 ?_
          simp (disch := omega) only [exec_succ, runR_next, runR_fork_true, runR_stop, stepS, runOp, condS, toSR, sop, rOf, sUn, ev, Env.get, setO, OutOK_stop, List.size_toArray, List.length_cons, List.length_nil, List.range, List.range.loop, List.getElem?_toArray, List.getElem?_cons_succ, List.getElem?_cons_zero, ↓reduceIte, Nat.reduceLT, Nat.zero_add, Bool.not_false, gl0]
          refine hκ.ret _ _ _ _ _ _ trivial rfl ?_
          rw [← hfair]
          exact .ret (by simp [SV.bnd, SV.bndL])
        · rw [hb, Bool.true_and] at hfair
          have hb0 := hasB_bd hb
          have hb1 := htb (puts.getD n default).2 hb0.1
          refine hκ.run 300 ?_
          simp (disch := omega) only [exec_succ, runR_next, runR_fork_false, runR_stop, stepS, runOp, condS, toSR, sop, rOf, sUn, ev, Env.get, setO, OutOK_stop, List.size_toArray, List.length_cons, List.length_nil, List.range, List.range.loop, List.getElem?_toArray, List.getElem?_cons_succ, List.getElem?_cons_zero, ↓reduceIte, Nat.reduceLT, Nat.zero_add, Bool.not_true, gl0]
          refine Sat.less (Sat.loop (γ := Nat) (fun k => ([(10, I k), (8, I i), (7, I n), (0, Ws l), (1, S free), (2, Ps puts)], [], 0)) (fun k => n - k)
            (fun k => k ≤ n ∧ (puts.take k).any (fun p => decide (p.2 = (puts.getD n default).2)) = false) ?roundk 0 ⟨Nat.zero_le _, by simp⟩) (by repeat' (first | exact EnvSub.nil _ | exact HeapSub.nil _ | refine EnvSub.cons rfl ?_ | refine HeapSub.cons rfl ?_ | (refine EnvSub.cons (by simp [Env.get]; done) ?_) | (refine HeapSub.cons (by simp [Heap.get]; done) ?_))) (by repeat' (first | exact EnvSub.nil _ | exact HeapSub.nil _ | refine EnvSub.cons rfl ?_ | refine HeapSub.cons rfl ?_ | (refine EnvSub.cons (by simp [Env.get]; done) ?_) | (refine HeapSub.cons (by simp [Heap.get]; done) ?_)))
          case roundk =>
            rintro k ⟨hk, hal⟩ ih2
            dsimp only at hk hal ih2 ⊢
            refine hκ.run 300 ?_
            simp (disch := omega) only [exec_succ, runR_next, stepS, runOp, condS, toSR, sop, rOf, sInt, sBin, ev, Env.get, List.size_toArray, List.length_cons, List.length_nil, List.range, List.range.loop, List.getElem?_toArray, List.getElem?_cons_succ, List.getElem?_cons_zero, ↓reduceIte, Nat.reduceAdd, Nat.reduceLT, Nat.reduceEqDiff, Nat.zero_add, gl0]
            refine OutOK_fork (fun h => ?_) (fun h => ?_) <;> try simp only [Bool.not_true, Bool.not_false, decide_eq_true_eq, decide_eq_false_iff_not, Bool.not_eq_true', Bool.not_eq_false', Bool.and_eq_true, Bool.or_eq_false_iff, Bool.or_eq_true, Bool.and_eq_false_iff] at h
            · have hs := any_snoc (fun p => decide (p.2 = (puts.getD n default).2)) puts k (by omega)
              rw [hal, Bool.false_or] at hs
              by_cases e : (puts.getD k default).2 = (puts.getD n default).2
              · simp (disch := omega) only [allQuiet, quietOp, drawS, drawGo, drawN, drawFin, exec_succ, runR_next, runR_need, runR_fork_true, runR_stop, stepS, runOp, condS, toSR, sop, rOf, sLoadIn, sLoad, sInt, sEq, sEqR, sEqAgg, aggS, sBin, sFieldAddr, sIndexAddr, elemT, obind, ev, svs, Env.get, Heap.get, takeN, cut, aggOf, OutOK_need, OutOK_stop, Option.isNone_none, Bool.and_true, Bool.false_eq_true, List.size_toArray, List.length_cons, List.length_nil, List.length_map, List.range, List.range.loop, List.getElem?_toArray, List.getElem?_cons_zero, ↓reduceIte, Nat.reduceLT, Nat.reduceEqDiff, Nat.zero_add, Nat.add_one_ne_zero, Int.toNat_natCast, decide_true, reduceCtorEq, getD_map, Tryd.underlying3, Tryd.sz3, Tryd.ag3, Tryd.underlying26, Tryd.sz31, Tryd.fd31f1, e, eP]
                (repeat (refine ⟨by first | omega | (refine ⟨?_, ?_⟩ <;> omega) | trivial | (simp; done) | decide +kernel, fun _ => ?_⟩))
                refine hκ.ret _ _ _ _ _ _ trivial rfl ?_
                have ht : (puts.take n).any (fun p => decide (p.2 = (puts.getD n default).2)) = true := by
                  rw [List.any_eq_true]
                  refine ⟨puts.getD k default, ?_, by simp only [e, decide_true]⟩
                  rw [List.getD, List.getElem?_eq_getElem (by omega)]
                  exact List.mem_take_iff_getElem.2 ⟨k, by omega, rfl⟩
                rw [← hfair, hb1, ht]
                exact .ret (by simp [SV.bnd, SV.bndL])
              · simp (disch := omega) only [allQuiet, quietOp, drawS, drawGo, drawN, drawFin, exec_succ, runR_next, runR_need, runR_fork_false, runR_stop, stepS, runOp, condS, toSR, sop, rOf, sLoadIn, sLoad, sInt, sEq, sEqR, sEqAgg, aggS, sBin, sFieldAddr, sIndexAddr, elemT, obind, ev, svs, Env.get, Heap.get, takeN, cut, aggOf, OutOK_need, OutOK_stop, Option.isNone_none, Bool.and_true, Bool.false_eq_true, List.size_toArray, List.length_cons, List.length_nil, List.length_map, List.range, List.range.loop, List.getElem?_toArray, List.getElem?_cons_succ, List.getElem?_cons_zero, ↓reduceIte, Nat.reduceAdd, Nat.reduceLT, Nat.reduceEqDiff, Nat.zero_add, Nat.add_one_ne_zero, Int.toNat_natCast, decide_false, reduceCtorEq, getD_map, wrap_i64, Tryd.underlying3, Tryd.sz3, Tryd.ag3, Tryd.underlying26, Tryd.sz31, Tryd.fd31f1, e, eP]
                (repeat (refine ⟨by first | omega | (refine ⟨?_, ?_⟩ <;> omega) | trivial | (simp; done) | decide +kernel, fun _ => ?_⟩))
                exact (ih2 (k + 1) ⟨by omega, by rw [hs]; simp only [e, decide_false]⟩ (by omega)).less (by repeat' (first | exact EnvSub.nil _ | exact HeapSub.nil _ | refine EnvSub.cons rfl ?_ | refine HeapSub.cons rfl ?_ | (refine EnvSub.cons (by simp [Env.get]; done) ?_) | (refine HeapSub.cons (by simp [Heap.get]; done) ?_))) (by repeat' (first | exact EnvSub.nil _ | exact HeapSub.nil _ | refine EnvSub.cons rfl ?_ | refine HeapSub.cons rfl ?_ | (refine EnvSub.cons (by simp [Env.get]; done) ?_) | (refine HeapSub.cons (by simp [Heap.get]; done) ?_)))
            · obtain rfl : k = n := by omega
              rw [hb1, hal, Bool.not_false, Bool.true_and] at hfair
              have ht : puts.take (k + 1) = puts.take k ++ [puts.getD k default] := by
                rw [List.take_succ_eq_append_getElem (by omega), List.getD, List.getElem?_eq_getElem (by omega)]; rfl
              have hy := hz (k + 1) (by omega) (by rw [ht, tkn_snoc]; exact hfair) (fun p hp => by
                rw [ht] at hp
                rcases List.mem_append.1 hp with hp | hp
                · exact hbd p hp
                · rw [List.mem_singleton.1 hp]; exact hb0)
              simp (disch := omega) only [exec_succ, runR_next, runR_stop, stepS, runOp, goS, toSR, sop, rOf, sInt, sBin, ev, Env.get, exitTo, OutOK_stop, List.size_toArray, List.length_cons, List.length_nil, List.range, List.range.loop, List.getElem?_toArray, List.getElem?_cons_succ, List.getElem?_cons_zero, ↓reduceIte, Nat.reduceAdd, Nat.reduceLT, Nat.reduceEqDiff, Nat.zero_add, beq_self_eq_true, wrap_i64]
              exact hy.less (by repeat' (first | exact EnvSub.nil _ | exact HeapSub.nil _ | refine EnvSub.cons rfl ?_ | refine HeapSub.cons rfl ?_ | (refine EnvSub.cons (by simp [Env.get]; done) ?_) | (refine HeapSub.cons (by simp [Heap.get]; done) ?_))) (by repeat' (first | exact EnvSub.nil _ | exact HeapSub.nil _ | refine EnvSub.cons rfl ?_ | refine HeapSub.cons rfl ?_ | (refine EnvSub.cons (by simp [Env.get]; done) ?_) | (refine HeapSub.cons (by simp [Heap.get]; done) ?_)))
      · rw [fairG_miss hit] at hfair
        apply Sat.join (α := Unit) (nx := 0) (dfs := []) (fun _ => True) (fun _ => ([(43, Bo false), (9, S (alw (l.getD i default).m free)), (8, I i), (7, I n), (0, Ws l), (1, S free), (2, Ps puts)], []))
        · intro hj
          by_cases h1 : n < puts.length
          · have h2 : ¬ (puts.getD n default).1 = (l.getD i default).v := fun e => hit ⟨h1, e⟩
            have e1 : ((n : Int) < puts.length) = True := by simp only [eq_iff_iff, iff_true]; omega
            refine hκ.draw (.q 0 (.q 1 (.q 2 (.q 3 (.q 4 (.q 5 (.q 6 (.q 7 (.q 8 (.q 9 (.q 10 (.q 11 (.q 12 (.q 13 (.q 14 (.q 15 (.q 16 (.fin)))))))))))))))))) [0, 1, 2, 3, 4, 5, 6, 7, 8, 9, 10, 11, 12, 13, 14, 15, 16] (by kernel_rfl) (by kernel_rfl) rfl ?_
            simp (disch := omega) only [sBuiltin, sop, rOf, sPick, sLoad, sInt, sBin, sFieldAddr, sIndexAddr, sLen, elemT, obind, ev, Env.get, takeN, cut, aggOf, setO, drawP_fin, drawP_q, dq, dqn, GF.tt, guardP, R1Q, dstOK, List.length_map, List.getElem?_toArray, List.getElem?_cons_succ, List.getElem?_cons_zero, Option.bind_some, ↓reduceIte, Nat.reduceLT, Nat.reduceEqDiff, Nat.add_zero, Nat.add_one_ne_zero, Int.toNat_natCast, decide_true, decide_false, and_true, true_and, reduceCtorEq, getD_map, gl0, Tryd.sz3, Tryd.ag3, Tryd.underlying22, Tryd.underlying26, Tryd.sz31, Tryd.fd31f0, Tryd.sz36, Tryd.fd36f0, e1, h2, eW, eP]
            (repeat (refine ⟨by first | omega | (refine ⟨?_, ?_⟩ <;> omega) | trivial | (simp; done) | decide +kernel, fun _ => ?_⟩))
            exact (hj () trivial).less (by repeat' (first | exact EnvSub.nil _ | exact HeapSub.nil _ | refine EnvSub.cons rfl ?_ | refine HeapSub.cons rfl ?_ | (refine EnvSub.cons (by simp [Env.get]; done) ?_) | (refine HeapSub.cons (by simp [Heap.get]; done) ?_))) (by repeat' (first | exact EnvSub.nil _ | exact HeapSub.nil _ | refine EnvSub.cons rfl ?_ | refine HeapSub.cons rfl ?_ | (refine EnvSub.cons (by simp [Env.get]; done) ?_) | (refine HeapSub.cons (by simp [Heap.get]; done) ?_)))
          · have e1 : ((n : Int) < puts.length) = False := by simp only [eq_iff_iff, iff_false]; omega
            refine hκ.draw (.q 0 (.q 1 (.q 2 (.q 3 (.q 4 (.q 5 (.q 6 (.q 7 (.q 8 (.q 9 (.q 10 (.q 11 (.q 12 (.q 13 (.q 14 (.q 15 (.q 16 (.fin)))))))))))))))))) [0, 1, 2, 3, 4, 5, 6, 7, 8, 9, 10, 11, 12, 13, 14, 15, 16] (by kernel_rfl) (by kernel_rfl) rfl ?_
            simp (disch := omega) only [sBuiltin, sop, rOf, sPick, sInt, sBin, sLen, ev, Env.get, setO, drawP_fin, drawP_q, dq, dqn, GF.ft, guardP, R1Q, dstOK, undefS, undef, List.length_map, List.getElem?_toArray, List.getElem?_cons_succ, List.getElem?_cons_zero, Option.bind_some, ↓reduceIte, Nat.reduceLT, Nat.reduceEqDiff, decide_false, true_and, reduceCtorEq, gl0, Tryd.underlying26, e1]
            (repeat (refine ⟨by first | omega | (refine ⟨?_, ?_⟩ <;> omega) | trivial | (simp; done) | decide +kernel, fun _ => ?_⟩))
            exact (hj () trivial).less (by repeat' (first | exact EnvSub.nil _ | exact HeapSub.nil _ | refine EnvSub.cons rfl ?_ | refine HeapSub.cons rfl ?_ | (refine EnvSub.cons (by simp [Env.get]; done) ?_) | (refine HeapSub.cons (by simp [Heap.get]; done) ?_))) (by repeat' (first | exact EnvSub.nil _ | exact HeapSub.nil _ | refine EnvSub.cons rfl ?_ | refine HeapSub.cons rfl ?_ | (refine EnvSub.cons (by simp [Env.get]; done) ?_) | (refine HeapSub.cons (by simp [Heap.get]; done) ?_)))
        intro _ _
        refine hκ.run 300 ?_
        simp (disch := omega) only [exec_succ, runR_next, runR_fork_false, runR_stop, stepS, runOp, condS, toSR, sop, rOf, ev, Env.get, OutOK_stop, List.size_toArray, List.length_cons, List.length_nil, List.range, List.range.loop, List.getElem?_toArray, List.getElem?_cons_zero, ↓reduceIte, Nat.reduceLT, Nat.zero_add, gl0]
        refine Sat.less (Sat.loop (γ := Nat) (fun c => ([(11, I c), (9, S (alw (l.getD i default).m free)), (8, I i), (7, I n), (0, Ws l), (1, S free), (2, Ps puts)], [], 0)) (fun c => 8 - c)
          (fun c => c ≤ 8 ∧ ∀ d : Nat, d < c → hasB (alw (l.getD i default).m free) d = true → (tkn (puts.take n)).testBit d = true) ?roundc 0 ⟨Nat.zero_le _, fun d hd => by omega⟩) (by repeat' (first | exact EnvSub.nil _ | exact HeapSub.nil _ | refine EnvSub.cons rfl ?_ | refine HeapSub.cons rfl ?_ | (refine EnvSub.cons (by simp [Env.get]; done) ?_) | (refine HeapSub.cons (by simp [Heap.get]; done) ?_))) (by repeat' (first | exact EnvSub.nil _ | exact HeapSub.nil _ | refine EnvSub.cons rfl ?_ | refine HeapSub.cons rfl ?_ | (refine EnvSub.cons (by simp [Env.get]; done) ?_) | (refine HeapSub.cons (by simp [Heap.get]; done) ?_)))
        case roundc =>
          rintro c ⟨hc, hall⟩ ih2
          dsimp only at hc hall ih2 ⊢
          refine hκ.run 300 ?_
          simp (disch := omega) only [exec_succ, runR_next, stepS, runOp, condS, toSR, sop, rOf, sInt, sBin, ev, Env.get, List.size_toArray, List.length_cons, List.length_nil, List.range, List.range.loop, List.getElem?_toArray, List.getElem?_cons_succ, List.getElem?_cons_zero, ↓reduceIte, Nat.reduceAdd, Nat.reduceLT, Nat.zero_add, gl0]
          refine OutOK_fork (fun h => ?_) (fun h => ?_) <;> try simp only [Bool.not_true, Bool.not_false, decide_eq_true_eq, decide_eq_false_iff_not, Bool.not_eq_true', Bool.not_eq_false', Bool.and_eq_true, Bool.or_eq_false_iff, Bool.or_eq_true, Bool.and_eq_false_iff] at h
          · simp (disch := omega) only [exec_succ, runR_next, runR_call, stepS, runOp, toSR, sop, rOf, ev, evs, Env.get, OutOK_call, List.size_toArray, List.length_cons, List.length_nil, List.range, List.range.loop, List.getElem?_toArray, List.getElem?_cons_succ, List.getElem?_cons_zero, ↓reduceIte, Nat.reduceAdd, Nat.reduceLT, Nat.reduceEqDiff, Nat.zero_add]
            refine Does.ret hκ.hP hκ.hgl (rhas_ok (alw (l.getD i default).m free) (c : Int)) ⟨trivial, by simp [SV.bnd, SV.bndL], by first | (simp [SV.bnd, SV.bndL]; done) | assumption⟩ ?_
            refine hκ.run 300 ?_
            simp (disch := omega) only [exec_succ, runR_next, runR_stop, stepS, runOp, toSR, sop, rOf, sUn, ev, Env.get, setO, OutOK_stop, List.size_toArray, List.length_cons, List.length_nil, List.range, List.range.loop, List.getElem?_toArray, List.getElem?_cons_succ, List.getElem?_cons_zero, ↓reduceIte, Nat.reduceLT, Nat.zero_add, gl0]
            refine Sat.less (Sat.loop (γ := Nat) (fun j => ([(13, I j), (12, Bo (!hasB (alw (l.getD i default).m free) c || (puts.take j).any (fun p => decide (p.2 = (c : Int))))), (11, I c), (9, S (alw (l.getD i default).m free)), (8, I i), (7, I n), (0, Ws l), (1, S free), (2, Ps puts)], [], 0)) (fun j => n - j)
              (fun j => j ≤ n) ?roundj 0 (Nat.zero_le _)) (by simp only [List.take_zero, List.any_nil, Bool.or_false]; exact EnvSub.cons rfl (EnvSub.cons rfl (EnvSub.cons rfl (EnvSub.cons rfl (EnvSub.cons rfl (EnvSub.cons rfl (EnvSub.cons rfl (EnvSub.cons rfl (EnvSub.cons rfl (EnvSub.nil _)))))))))) (by repeat' (first | exact EnvSub.nil _ | exact HeapSub.nil _ | refine EnvSub.cons rfl ?_ | refine HeapSub.cons rfl ?_ | (refine EnvSub.cons (by simp [Env.get]; done) ?_) | (refine HeapSub.cons (by simp [Heap.get]; done) ?_)))
            case roundj =>
              intro j hj ih3
              dsimp only at ih3 ⊢
              refine hκ.run 300 ?_
              simp (disch := omega) only [exec_succ, runR_next, stepS, runOp, condS, toSR, sop, rOf, sInt, sBin, ev, Env.get, List.size_toArray, List.length_cons, List.length_nil, List.range, List.range.loop, List.getElem?_toArray, List.getElem?_cons_succ, List.getElem?_cons_zero, ↓reduceIte, Nat.reduceAdd, Nat.reduceLT, Nat.reduceEqDiff, Nat.zero_add, gl0]
              refine OutOK_fork (fun h => ?_) (fun h => ?_) <;> try simp only [Bool.not_true, Bool.not_false, decide_eq_true_eq, decide_eq_false_iff_not, Bool.not_eq_true', Bool.not_eq_false', Bool.and_eq_true, Bool.or_eq_false_iff, Bool.or_eq_true, Bool.and_eq_false_iff] at h
              · have hs := any_snoc (fun p => decide (p.2 = (c : Int))) puts j (by omega)
                have hy := ih3 (j + 1) (by omega) (by omega)
                rw [hs] at hy
                simp (disch := omega) only [exec_succ, runR_next, runR_need, stepS, runOp, condS, toSR, sop, rOf, sLoad, sInt, sBin, sFieldAddr, sIndexAddr, elemT, obind, ev, Env.get, takeN, cut, aggOf, OutOK_need, List.size_toArray, List.length_cons, List.length_nil, List.length_map, List.range, List.range.loop, List.getElem?_toArray, List.getElem?_cons_succ, List.getElem?_cons_zero, ↓reduceIte, Nat.reduceAdd, Nat.reduceLT, Nat.reduceEqDiff, Nat.zero_add, Nat.add_one_ne_zero, Int.toNat_natCast, reduceCtorEq, getD_map, Tryd.sz3, Tryd.ag3, Tryd.underlying26, Tryd.sz31, Tryd.fd31f1, eP]
                (repeat (refine ⟨by first | omega | (refine ⟨?_, ?_⟩ <;> omega) | trivial | (simp; done) | decide +kernel, fun _ => ?_⟩))
                by_cases e : (puts.getD j default).2 = (c : Int)
                · simp only [e, decide_true, Bool.or_true] at hy
                  simp (disch := omega) only [exec_succ, runR_next, runR_fork_true, runR_stop, stepS, runOp, toSR, sop, rOf, sInt, sBin, ev, Env.get, OutOK_stop, List.size_toArray, List.length_cons, List.length_nil, List.range, List.range.loop, List.getElem?_toArray, List.getElem?_cons_succ, List.getElem?_cons_zero, ↓reduceIte, Nat.reduceAdd, Nat.reduceLT, Nat.reduceEqDiff, Nat.zero_add, decide_true, wrap_i64, e]
                  exact hy.less (by repeat' (first | exact EnvSub.nil _ | exact HeapSub.nil _ | refine EnvSub.cons rfl ?_ | refine HeapSub.cons rfl ?_ | (refine EnvSub.cons (by simp [Env.get]; done) ?_) | (refine HeapSub.cons (by simp [Heap.get]; done) ?_))) (by repeat' (first | exact EnvSub.nil _ | exact HeapSub.nil _ | refine EnvSub.cons rfl ?_ | refine HeapSub.cons rfl ?_ | (refine EnvSub.cons (by simp [Env.get]; done) ?_) | (refine HeapSub.cons (by simp [Heap.get]; done) ?_)))
                · simp only [e, decide_false, Bool.or_false] at hy
                  simp (disch := omega) only [exec_succ, runR_next, runR_fork_false, runR_stop, stepS, runOp, toSR, sop, rOf, sInt, sBin, ev, Env.get, OutOK_stop, List.size_toArray, List.length_cons, List.length_nil, List.range, List.range.loop, List.getElem?_toArray, List.getElem?_cons_succ, List.getElem?_cons_zero, ↓reduceIte, Nat.reduceAdd, Nat.reduceLT, Nat.reduceEqDiff, Nat.zero_add, decide_false, wrap_i64, e]
                  exact hy.less (by repeat' (first | exact EnvSub.nil _ | exact HeapSub.nil _ | refine EnvSub.cons rfl ?_ | refine HeapSub.cons rfl ?_ | (refine EnvSub.cons (by simp [Env.get]; done) ?_) | (refine HeapSub.cons (by simp [Heap.get]; done) ?_))) (by repeat' (first | exact EnvSub.nil _ | exact HeapSub.nil _ | refine EnvSub.cons rfl ?_ | refine HeapSub.cons rfl ?_ | (refine EnvSub.cons (by simp [Env.get]; done) ?_) | (refine HeapSub.cons (by simp [Heap.get]; done) ?_)))
              · obtain rfl : j = n := by omega
                have hb1 := htb (c : Int) (by omega)
                rw [Int.toNat_natCast] at hb1
                simp (disch := omega) only [exec_succ, runR_next, stepS, runOp, condS, goS, toSR, sop, rOf, sUn, ev, Env.get, exitTo, List.size_toArray, List.length_cons, List.length_nil, List.range, List.range.loop, List.getElem?_toArray, List.getElem?_cons_succ, List.getElem?_cons_zero, ↓reduceIte, Nat.reduceAdd, Nat.reduceLT, Nat.reduceEqDiff, Nat.zero_add, beq_self_eq_true]
                cases hh : hasB (alw (l.getD i default).m free) c
                · simp (disch := omega) only [exec_succ, runR_next, runR_fork_false, runR_stop, stepS, runOp, toSR, sop, rOf, sInt, sBin, ev, Env.get, OutOK_stop, List.size_toArray, List.length_cons, List.length_nil, List.range, List.range.loop, List.getElem?_toArray, List.getElem?_cons_succ, List.getElem?_cons_zero, ↓reduceIte, Nat.reduceAdd, Nat.reduceLT, Nat.reduceEqDiff, Nat.zero_add, Bool.not_true, Bool.not_false, Bool.true_or, wrap_i64]
                  refine (ih2 (c + 1) ⟨by omega, fun d hd hhd => ?_⟩ (by omega)).less (by repeat' (first | exact EnvSub.nil _ | exact HeapSub.nil _ | refine EnvSub.cons rfl ?_ | refine HeapSub.cons rfl ?_ | (refine EnvSub.cons (by simp [Env.get]; done) ?_) | (refine HeapSub.cons (by simp [Heap.get]; done) ?_))) (by repeat' (first | exact EnvSub.nil _ | exact HeapSub.nil _ | refine EnvSub.cons rfl ?_ | refine HeapSub.cons rfl ?_ | (refine EnvSub.cons (by simp [Env.get]; done) ?_) | (refine HeapSub.cons (by simp [Heap.get]; done) ?_)))
                  by_cases ed : d = c
                  · rw [ed, hh] at hhd; cases hhd
                  · exact hall d (by omega) hhd
                · cases ht : (puts.take j).any (fun p => decide (p.2 = (c : Int)))
                  · simp (disch := omega) only [exec_succ, runR_next, runR_fork_true, runR_stop, stepS, runOp, toSR, sop, rOf, ev, OutOK_stop, List.size_toArray, List.length_cons, List.length_nil, List.range, List.range.loop, List.getElem?_toArray, List.getElem?_cons_zero, ↓reduceIte, Nat.reduceLT, Nat.zero_add, Bool.not_true, Bool.not_false, Bool.or_false]
                    refine hκ.ret _ _ _ _ _ _ trivial rfl ?_
                    have hne : ¬ dif (alw (l.getD i default).m free) (tkn (puts.take j)) = 0 := fun h => by
                      have := (sub_bits (b := tkn (puts.take j)) halw).1 h c (mem_bits.2 hh)
                      rw [Int.toNat_natCast, hb1, ht] at this; cases this
                    rw [decide_eq_false hne, Bool.false_and] at hfair
                    rw [← hfair]
                    exact .ret (by simp [SV.bnd, SV.bndL])
                  · simp (disch := omega) only [exec_succ, runR_next, runR_fork_false, runR_stop, stepS, runOp, toSR, sop, rOf, sInt, sBin, ev, Env.get, OutOK_stop, List.size_toArray, List.length_cons, List.length_nil, List.range, List.range.loop, List.getElem?_toArray, List.getElem?_cons_succ, List.getElem?_cons_zero, ↓reduceIte, Nat.reduceAdd, Nat.reduceLT, Nat.reduceEqDiff, Nat.zero_add, Bool.not_true, Bool.or_true, wrap_i64]
                    refine (ih2 (c + 1) ⟨by omega, fun d hd hhd => ?_⟩ (by omega)).less (by repeat' (first | exact EnvSub.nil _ | exact HeapSub.nil _ | refine EnvSub.cons rfl ?_ | refine HeapSub.cons rfl ?_ | (refine EnvSub.cons (by simp [Env.get]; done) ?_) | (refine HeapSub.cons (by simp [Heap.get]; done) ?_))) (by repeat' (first | exact EnvSub.nil _ | exact HeapSub.nil _ | refine EnvSub.cons rfl ?_ | refine HeapSub.cons rfl ?_ | (refine EnvSub.cons (by simp [Env.get]; done) ?_) | (refine HeapSub.cons (by simp [Heap.get]; done) ?_)))
                    by_cases ed : d = c
                    · rw [ed, hb1, ht]
                    · exact hall d (by omega) hhd
          · obtain rfl : c = 8 := by omega
            have he : dif (alw (l.getD i default).m free) (tkn (puts.take n)) = 0 := (sub_bits halw).2 fun c hc => by
              have h8 := bits_bd hc
              obtain ⟨d, rfl⟩ := Int.eq_ofNat_of_zero_le h8.1
              rw [Int.toNat_natCast]
              exact hall d (by omega) (mem_bits.1 hc)
            rw [decide_eq_true he, Bool.true_and] at hfair
            have hy := hz n hnp hfair hbd
            simp (disch := omega) only [exec_succ, runR_next, runR_stop, stepS, runOp, goS, toSR, sop, rOf, sInt, sBin, ev, Env.get, exitTo, OutOK_stop, Int.cast_ofNat_Int, List.size_toArray, List.length_cons, List.length_nil, List.range, List.range.loop, List.getElem?_toArray, List.getElem?_cons_succ, List.getElem?_cons_zero, ↓reduceIte, Nat.reduceAdd, Nat.reduceLT, Nat.reduceEqDiff, Nat.zero_add, Int.reduceLT, decide_false, beq_self_eq_true, wrap_i64]
            exact hy.less (by repeat' (first | exact EnvSub.nil _ | exact HeapSub.nil _ | refine EnvSub.cons rfl ?_ | refine HeapSub.cons rfl ?_ | (refine EnvSub.cons (by simp [Env.get]; done) ?_) | (refine HeapSub.cons (by simp [Heap.get]; done) ?_))) (by repeat' (first | exact EnvSub.nil _ | exact HeapSub.nil _ | refine EnvSub.cons rfl ?_ | refine HeapSub.cons rfl ?_ | (refine EnvSub.cons (by simp [Env.get]; done) ?_) | (refine HeapSub.cons (by simp [Heap.get]; done) ?_)))
    · obtain rfl : i = l.length := by omega
      rw [List.drop_length, fairG] at hfair
      have e9 : (puts.drop n).isEmpty = decide ((n : Int) = puts.length) := by
        rw [Bool.eq_iff_iff, List.isEmpty_iff, List.drop_eq_nil_iff, decide_eq_true_iff]; omega
      simp (disch := omega) only [sBuiltin, exec_succ, runR_next, runR_stop, stepS, runOp, goS, toSR, sop, rOf, sInt, sBin, sLen, ev, Env.get, exitTo, OutOK_stop, List.size_toArray, List.length_cons, List.length_nil, List.length_map, List.range, List.range.loop, List.getElem?_toArray, List.getElem?_cons_succ, List.getElem?_cons_zero, ↓reduceIte, Nat.reduceAdd, Nat.reduceLT, Nat.reduceEqDiff, Nat.zero_add, beq_self_eq_true, reduceCtorEq, Tryd.underlying26]
      refine hκ.ret _ _ _ _ _ _ trivial rfl ?_
      rw [← hfair, e9]
      exact .ret (by simp [SV.bnd, SV.bndL])
end Go.Proofs.YtgnkhcnpjediaaaDoor

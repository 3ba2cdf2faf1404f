/- Times that lie apart, as the document tells. No condition. -/
import Derived.Test.YtomfpciigaopiaaAt
import Derived.Test.YtomfpciigaopiaaAs
namespace Go.Proofs.Ytomfpciigaopiaa
open Go Go.Sy
set_option maxRecDepth 100000
set_option linter.unusedSimpArgs false
set_option linter.unusedVariables false

set_option maxHeartbeats 4000000 in
theorem rapart_ok (l : List Pt) (ts : List Int) (sp : Nat) (hr : rightP l = true) (hsp : sp < 2 ^ 128) (hok : okT l ts ts.length = true) : Con Try.prog gl0 (fnv 26) [Ps l, Ts ts, W sp] 0 [] (Ret (Bo (apartB l ts sp))) := by
  obtain ⟨hn, hall, -⟩ := (rightP_iff l).1 hr
  obtain ⟨htl, hts⟩ := okT_iff.1 hok
  have hyes := fun i k hi hk h => ap_yes (l := l) (ts := ts) (sp := sp) (i := i) (k := k) hi hk h
  have hno := ap_no (l := l) (ts := ts) (sp := sp)
  have csp := bof_ok sp hsp
  generalize apartB l ts sp = R at *
  refine Con.of Try.ok26 (nt := 73) (res := [.tmp 6]) Try.mixed Try.func26 rfl rfl rfl rfl fun κ xc hκ => hκ.run 300 ?_
  simp (disch := omega) only [exec_succ, runR_next, runR_stop, stepS, runOp, toSR, sop, rOf, rNew, sBox, isArr, ev, Env.get, cellsS, envOf, OutOK_stop, Bool.false_eq_true, List.size_toArray, List.length_cons, List.length_nil, List.range, List.range.loop, List.getElem?_toArray, List.getElem?_cons_succ, List.getElem?_cons_zero, ↓reduceIte, Nat.reduceAdd, Nat.reduceLT, Nat.reduceEqDiff, Nat.zero_add, reduceCtorEq, gl0]
  refine Sat.less (Sat.loop (γ := Nat) (fun i => ([(7, I i), (5, .ptr 0 0 0 0), (0, Ps l), (1, Ts ts)], [(0, .own [U (sp / 18446744073709551616), U (sp % 18446744073709551616)] 44)], 1)) (fun i => l.length - i) (fun i => i ≤ l.length ∧ ∀ a, a < i → ∀ b, b < l.length → apP l ts sp a b = false) ?round2 0 ⟨Nat.zero_le _, fun a ha => by omega⟩) (by repeat' (first | exact EnvSub.nil _ | exact HeapSub.nil _ | refine EnvSub.cons rfl ?_ | refine HeapSub.cons rfl ?_ | (refine EnvSub.cons (by simp [Env.get]; done) ?_) | (refine HeapSub.cons (by simp [Heap.get]; done) ?_))) (by repeat' (first | exact EnvSub.nil _ | exact HeapSub.nil _ | refine EnvSub.cons rfl ?_ | refine HeapSub.cons rfl ?_ | (refine EnvSub.cons (by simp [Env.get]; done) ?_) | (refine HeapSub.cons (by simp [Heap.get]; done) ?_)))
  case round2 =>
    rintro i ⟨hi, hni⟩ ih
    dsimp only at ih ⊢
    refine hκ.run 300 ?_
    simp (disch := omega) only [sBuiltin, exec_succ, runR_next, stepS, runOp, condS, toSR, sop, rOf, sInt, sBin, sLen, ev, Env.get, List.size_toArray, List.length_cons, List.length_nil, List.length_map, List.range, List.range.loop, List.getElem?_toArray, List.getElem?_cons_succ, List.getElem?_cons_zero, ↓reduceIte, Nat.reduceAdd, Nat.reduceLT, Nat.reduceEqDiff, Nat.zero_add, Nat.add_one_ne_zero, gl0, Try.underlying22]
    refine OutOK_fork (fun h => ?_) (fun h => ?_) <;> try simp only [Bool.not_true, Bool.not_false, decide_eq_true_eq, decide_eq_false_iff_not, Bool.not_eq_true', Bool.not_eq_false', Bool.and_eq_true, Bool.or_eq_false_iff, Bool.or_eq_true, Bool.and_eq_false_iff] at h
    · have hz := fun h => ih (i + 1) ⟨by omega, h⟩ (by omega)
      have gi : (List.map eP l).getD i [] = eP (l.getD i default) := getD_map _ _ _ (by omega)
      have ti : (List.map (eI .i64) ts).getD i [] = eI .i64 (ts.getD i default) := getD_map _ _ _ (by omega)
      have hpi := (okP_iff _).1 (hall _ (getD_mem (show i < l.length by omega)))
      have hti := hts _ (getD_mem (show i < ts.length by omega))
      simp (disch := omega) only [exec_succ, runR_next, runR_stop, stepS, runOp, toSR, sop, rOf, ev, OutOK_stop, List.size_toArray, List.length_cons, List.length_nil, List.range, List.range.loop, List.getElem?_toArray, List.getElem?_cons_zero, ↓reduceIte, Nat.reduceLT, Nat.zero_add]
      refine Sat.less (Sat.loop (γ := Nat) (fun k => ([(8, I k), (7, I i), (5, .ptr 0 0 0 0), (0, Ps l), (1, Ts ts)], [(0, .own [U (sp / 18446744073709551616), U (sp % 18446744073709551616)] 44)], 1)) (fun k => l.length - k) (fun k => k ≤ l.length ∧ ∀ b, b < k → apP l ts sp i b = false) ?round3 0 ⟨Nat.zero_le _, fun a ha => by omega⟩) (by repeat' (first | exact EnvSub.nil _ | exact HeapSub.nil _ | refine EnvSub.cons rfl ?_ | refine HeapSub.cons rfl ?_ | (refine EnvSub.cons (by simp [Env.get]; done) ?_) | (refine HeapSub.cons (by simp [Heap.get]; done) ?_))) (by repeat' (first | exact EnvSub.nil _ | exact HeapSub.nil _ | refine EnvSub.cons rfl ?_ | refine HeapSub.cons rfl ?_ | (refine EnvSub.cons (by simp [Env.get]; done) ?_) | (refine HeapSub.cons (by simp [Heap.get]; done) ?_)))
      case round3 =>
        rintro k ⟨hk2, hnk⟩ ih2
        dsimp only at ih2 ⊢
        refine hκ.runD 300 ?_
        simp (disch := omega) only [sBuiltin, runR_next, stepS, runOp, condS, toSR, sop, rOf, sInt, sBin, sLen, ev, Env.get, halt, isDraw, drawC, execD_succ, List.size_toArray, List.length_cons, List.length_nil, List.length_map, List.range, List.range.loop, List.getElem?_toArray, List.getElem?_cons_succ, List.getElem?_cons_zero, ↓reduceIte, Nat.reduceAdd, Nat.reduceLT, Nat.reduceEqDiff, Nat.zero_add, Nat.add_one_ne_zero, gl0, Try.underlying22]
        refine OutOK_fork (fun h => ?_) (fun h => ?_) <;> try simp only [Bool.not_true, Bool.not_false, decide_eq_true_eq, decide_eq_false_iff_not, Bool.not_eq_true', Bool.not_eq_false', Bool.and_eq_true, Bool.or_eq_false_iff, Bool.or_eq_true, Bool.and_eq_false_iff] at h
        · have hz2 := fun h => ih2 (k + 1) ⟨by omega, h⟩ (by omega)
          have hz2 := fun (h : apP l ts sp i k = false) => hz2 fun b hb => by
            by_cases e : b = k
            · rw [e]; exact h
            · exact hnk b (by omega)
          have gk : (List.map eP l).getD k [] = eP (l.getD k default) := getD_map _ _ _ (by omega)
          have tk : (List.map (eI .i64) ts).getD k [] = eI .i64 (ts.getD k default) := getD_map _ _ _ (by omega)
          have hpk := (okP_iff _).1 (hall _ (getD_mem (show k < l.length by omega)))
          have htk := hts _ (getD_mem (show k < ts.length by omega))
          have hy := hyes i k (by omega) (by omega)
          rw [apP] at hz2 hy
          clear ih ih2 hz hni hnk
          generalize l.getD i default = p at *
          generalize l.getD k default = q at *
          generalize ts.getD i default = s at *
          generalize ts.getD k default = t at *
          obtain ⟨p1, p2⟩ := p
          obtain ⟨q1, q2⟩ := q
          dsimp only at hpi hpk hz2 hy gi gk ⊢
          obtain ⟨P, rfl⟩ : ∃ X : Nat, p1 = (X : Int) := ⟨p1.toNat, by omega⟩
          obtain ⟨Q, rfl⟩ : ∃ X : Nat, q1 = (X : Int) := ⟨q1.toNat, by omega⟩
          obtain ⟨S, rfl⟩ : ∃ X : Nat, s = (X : Int) := ⟨s.toNat, by omega⟩
          obtain ⟨T, rfl⟩ : ∃ X : Nat, t = (X : Int) := ⟨t.toNat, by omega⟩
          rw [Int.toNat_natCast, Int.toNat_natCast, Int.toNat_natCast, Int.toNat_natCast] at hz2 hy
          have cS := bofU_ok S (by omega)
          have cT := bofU_ok T (by omega)
          have ca := bprod_ok S Q (by omega)
          have cb := bprod_ok T P (by omega)
          have cr1 := bprod_ok sp P (by omega)
          have cr2 := bprod_ok (sp * P) Q (by omega)
          have hSQ : S * Q < 2 ^ 128 := Nat.lt_of_lt_of_le (Nat.mul_lt_mul'' (show S < 2 ^ 64 by omega) (show Q < 2 ^ 64 by omega)) (by decide)
          have hTP : T * P < 2 ^ 128 := Nat.lt_of_lt_of_le (Nat.mul_lt_mul'' (show T < 2 ^ 64 by omega) (show P < 2 ^ 64 by omega)) (by decide)
          have hPQ : P * Q < 2 ^ 32 := Nat.lt_of_lt_of_le (Nat.mul_lt_mul'' (show P < 2 ^ 16 by omega) (show Q < 2 ^ 16 by omega)) (by decide)
          have hRM : sp * (P * Q) < 2 ^ 160 := Nat.lt_of_lt_of_le (Nat.mul_lt_mul'' hsp hPQ) (by decide)
          rw [Nat.mul_assoc] at cr2
          have cr3 := bsum_ok (T * P) (sp * (P * Q))
          generalize sp * P = spP at *
          generalize sp * (P * Q) = RM at *
          generalize S * Q = A at *
          generalize T * P = B at *
          have cl := bless_ok (B + RM) A (by omega) (by omega)
          simp (disch := omega) only [runR_next, stepS, OutOK_stop, halt, isDraw, drawC, execD_succ]
          apply Sat.join (α := Unit) (nx := 2) (dfs := []) (fun _ => True) (fun _ => ([(9, .ptr 1 0 0 0), (8, I k), (7, I i), (5, .ptr 0 0 0 0), (0, Ps l), (1, Ts ts)], [(1, .row 1 256 76 (Nb A)), (0, .own [U (sp / 18446744073709551616), U (sp % 18446744073709551616)] 44)]))
          · intro hj
            have hj := hj () trivial
            refine hκ.runD 300 ?_
            simp (disch := omega) only [OutOK_stop, halt, isDraw, drawC, execD_succ, gl0]
            refine hκ.draw (.q 0 (.q 1 (.q 2 (.q 3 (.q 4 (.q 5 (.q 7 (.q 8 (.q 9 (.q 10 (.q 11 (.q 12 (.or (.m 6 [3, 11] (.or (.m 13 [3, 11] (.l 14 [3, 11] (.l 15 [] (.fin)))) (.m 14 [3, 11] (.l 13 [3, 11] (.l 15 [] (.fin)))))) (.m 14 [3, 11] (.l 6 [3, 11] (.l 13 [3, 11] (.l 15 [] (.fin)))))))))))))))))) [0, 1, 2, 3, 4, 5, 7, 8, 9, 10, 11, 12] (by kernel_rfl) (by kernel_rfl) rfl ?_
            simp (disch := omega) only [sBuild0, sop, rOf, rNew, sAlloc, isArr, sLoad, sConv, sFieldAddr, sIndexAddr, elemT, obind, fillS, evps, sBuild, ev, evs, svs, Env.get, takeN, cut, over, paste, aggOf, cellsS, setO, Value.cells, drawP_q, drawP_l, dnext, dq, dqn, dl, slotR, ag, guardP, R1Q, dstOK, loudP, again, again1, slotIs, R1OK, drawP_m, drawP_or, List.length_cons, List.length_nil, List.length_map, List.getElem?_toArray, List.getElem?_cons_succ, List.getElem?_cons_zero, List.map_cons, List.map_nil, List.toList_toArray, ↓reduceIte, Nat.reduceAdd, Nat.reduceLT, Nat.reduceEqDiff, Nat.zero_add, Nat.add_zero, Nat.add_one_ne_zero, Int.toNat_natCast, true_and, and_self, reduceCtorEq, eI, wrap_u64, gl0, Try.underlying2, Try.sz2, Try.ag2, Try.underlying3, Try.sz3, Try.ag3, Try.underlying22, Try.underlying31, Try.ze44, Try.pl44, Try.ar44, Try.sz54, Try.fd54f0, Try.underlying56, Try.ar76, gk, ti, eP]
            (repeat (refine ⟨by first | omega | (refine ⟨?_, ?_⟩ <;> omega) | trivial | (simp; done) | decide +kernel, fun _ => ?_⟩))
            repeat' (refine And.intro ?_ ?_)
            all_goals
              refine DCall.of (Does.ret hκ.hP hκ.hgl (cS) ⟨trivial, by simp [SV.bnd, SV.bndL], by first | (simp [SV.bnd, SV.bndL]; done) | assumption⟩ ?_)
              simp (disch := omega) only [sop, rOf, rNew, sAlloc, sLoad, ev, evs, svs, Env.get, takeN, cut, aggOf, setO, drawP_l, dnext, dl, slotR, ag, guardP, dstOK, loudP, again, again1, slotIs, R1OK, drawP_m, drawP_or, List.getElem?_toArray, List.getElem?_cons_succ, List.getElem?_cons_zero, List.map_cons, List.map_nil, ↓reduceIte, Nat.reduceAdd, Nat.reduceLT, Nat.reduceEqDiff, true_and, and_self, Try.sz2, Try.ag2, Try.sz3, Try.ag3, Try.ar76]
              (try (repeat (refine ⟨by first | omega | (refine ⟨?_, ?_⟩ <;> omega) | trivial | (simp; done) | decide +kernel, fun _ => ?_⟩)))
            repeat' (refine And.intro ?_ ?_)
            all_goals
              refine DCall.of (Does.ret hκ.hP hκ.hgl (ca) ⟨trivial, by simp [SV.bnd, SV.bndL], by first | (simp [SV.bnd, SV.bndL]; done) | assumption⟩ ?_)
              simp (disch := omega) only [sop, rOf, rNew, sAlloc, sLoad, sStoreArr, sStore, ev, svs, Env.get, Heap.get, Heap.set, takeN, cut, aggOf, setO, drawP_fin, drawP_l, dnext, dl, slotR, ag, guardP, dstOK, loudP, again, again1, slotIs, R1OK, undefS, undef, List.getElem?_toArray, List.getElem?_cons_succ, List.getElem?_cons_zero, List.map_cons, List.map_nil, ↓reduceIte, Nat.reduceAdd, Nat.reduceLT, Nat.reduceEqDiff, Nat.mul_one, Nat.add_one_ne_zero, ne_eq, not_false_eq_true, true_and, and_self, forall_const, Try.sz2, Try.ag2, Try.sz3, Try.ag3, Try.sz76, Try.ar76, Nb_len]
              (try (repeat (refine ⟨by first | omega | (refine ⟨?_, ?_⟩ <;> omega) | trivial | (simp; done) | decide +kernel, fun _ => ?_⟩)))
            repeat' (refine And.intro ?_ ?_)
            all_goals
              (try (repeat (refine ⟨by first | omega | (refine ⟨?_, ?_⟩ <;> omega) | trivial | (simp; done) | decide +kernel, fun _ => ?_⟩)))
            all_goals
              (refine hj.less ?_ ?_ <;> (repeat' (first | exact EnvSub.nil _ | exact HeapSub.nil _ | refine EnvSub.cons rfl ?_ | refine HeapSub.cons rfl ?_)) <;> done)
          intro _ _
          apply Sat.join (α := Unit) (nx := 3) (dfs := []) (fun _ => True) (fun _ => ([(10, .ptr 2 0 0 0), (9, .ptr 1 0 0 0), (8, I k), (7, I i), (5, .ptr 0 0 0 0), (0, Ps l), (1, Ts ts)], [(2, .row 1 256 76 (Nb B)), (1, .row 1 256 76 (Nb A)), (0, .own [U (sp / 18446744073709551616), U (sp % 18446744073709551616)] 44)]))
          · intro hj
            have hj := hj () trivial
            refine hκ.runD 300 ?_
            simp (disch := omega) only [runR_next, stepS, OutOK_stop, halt, isDraw, drawC, execD_succ, gl0]
            refine hκ.draw (.q 0 (.q 1 (.q 2 (.q 3 (.q 4 (.q 5 (.q 7 (.q 8 (.q 9 (.q 10 (.q 11 (.q 12 (.or (.m 6 [3, 11] (.or (.m 13 [3, 11] (.l 14 [3, 11] (.l 15 [] (.fin)))) (.m 14 [3, 11] (.l 13 [3, 11] (.l 15 [] (.fin)))))) (.m 14 [3, 11] (.l 6 [3, 11] (.l 13 [3, 11] (.l 15 [] (.fin)))))))))))))))))) [0, 1, 2, 3, 4, 5, 7, 8, 9, 10, 11, 12] (by kernel_rfl) (by kernel_rfl) rfl ?_
            simp (disch := omega) only [sBuild0, sop, rOf, rNew, sAlloc, isArr, sLoad, sConv, sFieldAddr, sIndexAddr, elemT, obind, fillS, evps, sBuild, ev, evs, svs, Env.get, takeN, cut, over, paste, aggOf, cellsS, setO, Value.cells, drawP_q, drawP_l, dnext, dq, dqn, dl, slotR, ag, guardP, R1Q, dstOK, loudP, again, again1, slotIs, R1OK, drawP_m, drawP_or, List.length_cons, List.length_nil, List.length_map, List.getElem?_toArray, List.getElem?_cons_succ, List.getElem?_cons_zero, List.map_cons, List.map_nil, List.toList_toArray, ↓reduceIte, Nat.reduceAdd, Nat.reduceLT, Nat.reduceEqDiff, Nat.zero_add, Nat.add_zero, Nat.add_one_ne_zero, Int.toNat_natCast, true_and, and_self, reduceCtorEq, eI, wrap_u64, gl0, Try.underlying2, Try.sz2, Try.ag2, Try.underlying3, Try.sz3, Try.ag3, Try.underlying22, Try.underlying31, Try.ze44, Try.pl44, Try.ar44, Try.sz54, Try.fd54f0, Try.underlying56, Try.ar76, gi, tk, eP]
            (repeat (refine ⟨by first | omega | (refine ⟨?_, ?_⟩ <;> omega) | trivial | (simp; done) | decide +kernel, fun _ => ?_⟩))
            repeat' (refine And.intro ?_ ?_)
            all_goals
              refine DCall.of (Does.ret hκ.hP hκ.hgl (cT) ⟨trivial, by simp [SV.bnd, SV.bndL], by first | (simp [SV.bnd, SV.bndL]; done) | assumption⟩ ?_)
              simp (disch := omega) only [sop, rOf, rNew, sAlloc, sLoad, ev, evs, svs, Env.get, takeN, cut, aggOf, setO, drawP_l, dnext, dl, slotR, ag, guardP, dstOK, loudP, again, again1, slotIs, R1OK, drawP_m, drawP_or, List.getElem?_toArray, List.getElem?_cons_succ, List.getElem?_cons_zero, List.map_cons, List.map_nil, ↓reduceIte, Nat.reduceAdd, Nat.reduceLT, Nat.reduceEqDiff, true_and, and_self, Try.sz2, Try.ag2, Try.sz3, Try.ag3, Try.ar76]
              (try (repeat (refine ⟨by first | omega | (refine ⟨?_, ?_⟩ <;> omega) | trivial | (simp; done) | decide +kernel, fun _ => ?_⟩)))
            repeat' (refine And.intro ?_ ?_)
            all_goals
              refine DCall.of (Does.ret hκ.hP hκ.hgl (cb) ⟨trivial, by simp [SV.bnd, SV.bndL], by first | (simp [SV.bnd, SV.bndL]; done) | assumption⟩ ?_)
              simp (disch := omega) only [sop, rOf, rNew, sAlloc, sLoad, sStoreArr, sStore, ev, svs, Env.get, Heap.get, Heap.set, takeN, cut, aggOf, setO, drawP_fin, drawP_l, dnext, dl, slotR, ag, guardP, dstOK, loudP, again, again1, slotIs, R1OK, undefS, undef, List.getElem?_toArray, List.getElem?_cons_succ, List.getElem?_cons_zero, List.map_cons, List.map_nil, ↓reduceIte, Nat.reduceAdd, Nat.reduceLT, Nat.reduceEqDiff, Nat.mul_one, Nat.add_one_ne_zero, ne_eq, not_false_eq_true, true_and, and_self, forall_const, Try.sz2, Try.ag2, Try.sz3, Try.ag3, Try.sz76, Try.ar76, Nb_len]
              (try (repeat (refine ⟨by first | omega | (refine ⟨?_, ?_⟩ <;> omega) | trivial | (simp; done) | decide +kernel, fun _ => ?_⟩)))
            repeat' (refine And.intro ?_ ?_)
            all_goals
              (try (repeat (refine ⟨by first | omega | (refine ⟨?_, ?_⟩ <;> omega) | trivial | (simp; done) | decide +kernel, fun _ => ?_⟩)))
            all_goals
              (refine hj.less ?_ ?_ <;> (repeat' (first | exact EnvSub.nil _ | exact HeapSub.nil _ | refine EnvSub.cons rfl ?_ | refine HeapSub.cons rfl ?_)) <;> done)
          intro _ _
          apply Sat.join (α := Unit) (nx := 4) (dfs := []) (fun _ => True) (fun _ => ([(11, .ptr 3 0 0 0), (10, .ptr 2 0 0 0), (9, .ptr 1 0 0 0), (8, I k), (7, I i), (5, .ptr 0 0 0 0), (0, Ps l), (1, Ts ts)], [(3, .row 1 256 76 (Nb RM)), (2, .row 1 256 76 (Nb B)), (1, .row 1 256 76 (Nb A)), (0, .own [U (sp / 18446744073709551616), U (sp % 18446744073709551616)] 44)]))
          · intro hj
            have hj := hj () trivial
            refine hκ.runD 300 ?_
            simp (disch := omega) only [runR_next, stepS, OutOK_stop, halt, isDraw, drawC, execD_succ, gl0]
            refine hκ.draw (.q 0 (.q 2 (.q 3 (.q 4 (.q 5 (.q 6 (.q 7 (.q 9 (.q 10 (.q 11 (.q 12 (.q 13 (.q 14 (.or (.m 1 [6, 13] (.or (.m 8 [0, 6, 13] (.or (.m 15 [0, 6, 13] (.l 16 [0, 6, 13] (.l 17 [] (.fin)))) (.m 16 [0, 6, 13] (.l 15 [0, 6, 13] (.l 17 [] (.fin)))))) (.m 16 [0, 6, 13] (.l 8 [0, 6, 13] (.l 15 [0, 6, 13] (.l 17 [] (.fin))))))) (.m 16 [0, 6, 13] (.l 1 [6, 13] (.l 8 [0, 6, 13] (.l 15 [0, 6, 13] (.l 17 [] (.fin)))))))))))))))))))) [0, 2, 3, 4, 5, 6, 7, 9, 10, 11, 12, 13, 14] (by kernel_rfl) (by kernel_rfl) rfl ?_
            simp (disch := omega) only [sop, rOf, rNew, sAlloc, sLoadIn, sLoad, sConv, sFieldAddr, sIndexAddr, elemT, obind, ev, evs, svs, Env.get, Heap.get, takeN, cut, aggOf, setO, drawP_q, drawP_l, dnext, dq, dqn, dl, slotR, ag, guardP, R1Q, dstOK, loudP, again, again1, slotIs, R1OK, drawP_m, drawP_or, List.length_map, List.getElem?_toArray, List.getElem?_cons_succ, List.getElem?_cons_zero, List.map_cons, List.map_nil, ↓reduceIte, Nat.reduceAdd, Nat.reduceLT, Nat.reduceEqDiff, Nat.add_zero, Nat.add_one_ne_zero, Int.toNat_natCast, true_and, and_self, wrap_u64, gl0, Try.underlying3, Try.sz3, Try.ag3, Try.underlying22, Try.underlying31, Try.sz44, Try.ag44, Try.sz54, Try.fd54f0, Try.ar76, gi, gk, eP]
            (repeat (refine ⟨by first | omega | (refine ⟨?_, ?_⟩ <;> omega) | trivial | (simp; done) | decide +kernel, fun _ => ?_⟩))
            repeat' (refine And.intro ?_ ?_)
            all_goals
              refine DCall.of (Does.ret hκ.hP hκ.hgl (csp) ⟨trivial, by simp [SV.bnd, SV.bndL], by first | (simp [SV.bnd, SV.bndL]; done) | assumption⟩ ?_)
              simp (disch := omega) only [sop, rOf, rNew, sAlloc, sLoadIn, sLoad, ev, evs, svs, Env.get, Heap.get, takeN, cut, aggOf, setO, drawP_l, dnext, dl, slotR, ag, guardP, dstOK, loudP, again, again1, slotIs, R1OK, drawP_m, drawP_or, List.getElem?_toArray, List.getElem?_cons_succ, List.getElem?_cons_zero, List.map_cons, List.map_nil, ↓reduceIte, Nat.reduceAdd, Nat.reduceLT, Nat.reduceEqDiff, Nat.add_one_ne_zero, true_and, and_self, Try.sz3, Try.ag3, Try.sz44, Try.ag44, Try.ar76]
              (try (repeat (refine ⟨by first | omega | (refine ⟨?_, ?_⟩ <;> omega) | trivial | (simp; done) | decide +kernel, fun _ => ?_⟩)))
            repeat' (refine And.intro ?_ ?_)
            all_goals
              refine DCall.of (Does.ret hκ.hP hκ.hgl (cr1) ⟨trivial, by simp [SV.bnd, SV.bndL], by first | (simp [SV.bnd, SV.bndL]; done) | assumption⟩ ?_)
              simp (disch := omega) only [sop, rOf, rNew, sAlloc, sLoadIn, sLoad, ev, evs, svs, Env.get, Heap.get, takeN, cut, aggOf, setO, drawP_l, dnext, dl, slotR, ag, guardP, dstOK, loudP, again, again1, slotIs, R1OK, drawP_m, drawP_or, List.getElem?_toArray, List.getElem?_cons_succ, List.getElem?_cons_zero, List.map_cons, List.map_nil, ↓reduceIte, Nat.reduceAdd, Nat.reduceLT, Nat.reduceEqDiff, Nat.add_one_ne_zero, true_and, and_self, Try.sz3, Try.ag3, Try.sz44, Try.ag44, Try.ar76]
              (try (repeat (refine ⟨by first | omega | (refine ⟨?_, ?_⟩ <;> omega) | trivial | (simp; done) | decide +kernel, fun _ => ?_⟩)))
            repeat' (refine And.intro ?_ ?_)
            all_goals
              refine DCall.of (Does.ret hκ.hP hκ.hgl (cr2) ⟨trivial, by simp [SV.bnd, SV.bndL], by first | (simp [SV.bnd, SV.bndL]; done) | assumption⟩ ?_)
              simp (disch := omega) only [sop, rOf, rNew, sAlloc, sLoadIn, sLoad, sStoreArr, sStore, ev, svs, Env.get, Heap.get, Heap.set, takeN, cut, aggOf, setO, drawP_fin, drawP_l, dnext, dl, slotR, ag, guardP, dstOK, loudP, again, again1, slotIs, R1OK, undefS, undef, List.getElem?_toArray, List.getElem?_cons_succ, List.getElem?_cons_zero, List.map_cons, List.map_nil, ↓reduceIte, Nat.reduceAdd, Nat.reduceLT, Nat.reduceEqDiff, Nat.mul_one, Nat.add_one_ne_zero, ne_eq, not_false_eq_true, true_and, and_self, forall_const, Try.sz3, Try.ag3, Try.sz44, Try.ag44, Try.sz76, Try.ar76, Nb_len]
              (try (repeat (refine ⟨by first | omega | (refine ⟨?_, ?_⟩ <;> omega) | trivial | (simp; done) | decide +kernel, fun _ => ?_⟩)))
            repeat' (refine And.intro ?_ ?_)
            all_goals
              (try (repeat (refine ⟨by first | omega | (refine ⟨?_, ?_⟩ <;> omega) | trivial | (simp; done) | decide +kernel, fun _ => ?_⟩)))
            all_goals
              (refine hj.less ?_ ?_ <;> (repeat' (first | exact EnvSub.nil _ | exact HeapSub.nil _ | refine EnvSub.cons rfl ?_ | refine HeapSub.cons rfl ?_)) <;> done)
          intro _ _
          refine hκ.runD 300 ?_
          simp (disch := omega) only [runR_next, stepS, OutOK_stop, halt, isDraw, drawC, execD_succ, gl0]
          refine hκ.draw (.q 0 (.q 1 (.q 3 (.l 2 [3] (.l 4 [0, 1] (.fin)))))) [0, 1, 3] (by kernel_rfl) (by kernel_rfl) rfl ?_
          simp (disch := omega) only [sop, sLoadIn, sLoad, ev, evs, Env.get, Heap.get, setO, drawP_q, drawP_l, dq, dqn, dl, guardP, R1Q, dstOK, loudP, List.getElem?_toArray, List.getElem?_cons_succ, List.getElem?_cons_zero, ↓reduceIte, Nat.reduceLT, Nat.reduceEqDiff, Nat.mul_one, Nat.add_one_ne_zero, true_and, and_self, forall_const, gl0, Try.sz76, Try.ag76, Nb_len]
          (repeat (refine ⟨by first | omega | (refine ⟨?_, ?_⟩ <;> omega) | trivial | (simp; done) | decide +kernel, fun _ => ?_⟩))
          refine DCall.of (Does.ret hκ.hP hκ.hgl (cr3) ⟨trivial, by simp [SV.bnd, SV.bndL], by first | (simp [SV.bnd, SV.bndL]; done) | assumption⟩ ?_)
          simp (disch := omega) only [sop, sLoadIn, sLoad, ev, evs, Env.get, Heap.get, setO, drawP_l, dnext, dl, slotR, ag, guardP, dstOK, loudP, again, again1, slotIs, R1OK, List.getElem?_toArray, List.getElem?_cons_succ, List.getElem?_cons_zero, ↓reduceIte, Nat.reduceLT, Nat.reduceEqDiff, Nat.mul_one, Nat.add_one_ne_zero, true_and, and_self, forall_const, Try.sz76, Try.ag76, Nb_len]
          (repeat (refine ⟨by first | omega | (refine ⟨?_, ?_⟩ <;> omega) | trivial | (simp; done) | decide +kernel, fun _ => ?_⟩))
          refine DCall.of (Does.ret hκ.hP hκ.hgl (cl) ⟨trivial, by simp [SV.bnd, SV.bndL], by first | (simp [SV.bnd, SV.bndL]; done) | assumption⟩ ?_)
          simp (disch := omega) only [sop, sLoadIn, sLoad, ev, Env.get, Heap.get, setO, drawP_fin, dnext, slotR, ag, guardP, again, again1, slotIs, R1OK, List.getElem?_toArray, List.getElem?_cons_succ, List.getElem?_cons_zero, ↓reduceIte, Nat.reduceEqDiff, Nat.mul_one, Nat.add_one_ne_zero, true_and, and_self, forall_const, Try.sz76, Try.ag76, Nb_len]
          (repeat (refine ⟨by first | omega | (refine ⟨?_, ?_⟩ <;> omega) | trivial | (simp; done) | decide +kernel, fun _ => ?_⟩))
          by_cases hc : B + RM < A
          · rw [hy (decide_eq_true hc)] at hκ
            rw [decide_eq_true hc]
            refine hκ.run 300 ?_
            simp (disch := omega) only [exec_succ, runR_next, runR_fork_true, runR_stop, stepS, runOp, condS, toSR, sop, rOf, ev, Env.get, OutOK_stop, List.size_toArray, List.length_cons, List.length_nil, List.range, List.range.loop, List.getElem?_toArray, List.getElem?_cons_zero, ↓reduceIte, Nat.reduceLT, Nat.zero_add, gl0]
            refine hκ.ret _ _ _ _ _ _ trivial rfl ?_
            exact .ret trivial
          · have hz2 := hz2 (decide_eq_false hc)
            rw [decide_eq_false hc]
            refine hκ.run 300 ?_
            simp (disch := omega) only [exec_succ, runR_next, runR_fork_false, runR_stop, stepS, runOp, condS, toSR, sop, rOf, sInt, sBin, ev, Env.get, OutOK_stop, List.size_toArray, List.length_cons, List.length_nil, List.range, List.range.loop, List.getElem?_toArray, List.getElem?_cons_succ, List.getElem?_cons_zero, ↓reduceIte, Nat.reduceAdd, Nat.reduceLT, Nat.reduceEqDiff, Nat.zero_add, wrap_i64, gl0]
            refine Sat.via (fun i => i) (hz2) (by intro i j; (repeat (first | omega | split))) (by repeat' (first | exact EnvVia.nil | refine EnvVia.cons (by first | trivial | decide | (simp [SV.bnd, SV.bndL]; done)) rfl ?_)) (by repeat' (first | exact HeapVia.nil | refine HeapVia.cons (by decide) (by first | trivial | (simp [Blk.bnd, SV.bnd, SV.bndL]; done) | exact bndL_mapV _ _ _ | exact LR.bnd (by rw [l2]; simp [bndE, SV.bnd, SV.bndL]) (by rw [l6]; decide)) (by first | rfl | (simp only [Blk.ren, renL_mapV]; rfl) | (rw [LR.ren (by rw [l2] <;> rfl) (by rw [l6] <;> rfl)]; rfl)) ?_)) ⟨by have := hκ.hm; (try dsimp only at this); (first | done | omega), fun i hi => by have := hκ.hm; (try dsimp only at this); (first | omega | (dsimp only; omega) | (rw [if_neg (by omega)]))⟩ ⟨by simp, rfl⟩
        · obtain rfl : k = l.length := by omega
          have hz := hz fun a ha b hb => by
            by_cases e : a = i
            · rw [e]; exact hnk b hb
            · exact hni a (by omega) b hb
          simp (disch := omega) only [runR_next, runR_stop, stepS, runOp, goS, toSR, sop, rOf, sInt, sBin, ev, Env.get, exitTo, OutOK_stop, halt, isDraw, drawC, execD_succ, List.size_toArray, List.length_cons, List.length_nil, List.range, List.range.loop, List.getElem?_toArray, List.getElem?_cons_succ, List.getElem?_cons_zero, ↓reduceIte, Nat.reduceAdd, Nat.reduceLT, Nat.reduceEqDiff, Nat.zero_add, beq_self_eq_true, wrap_i64]
          refine Sat.via (fun i => i) (hz) (by intro i j; (repeat (first | omega | split))) (by repeat' (first | exact EnvVia.nil | refine EnvVia.cons (by first | trivial | decide | (simp [SV.bnd, SV.bndL]; done)) rfl ?_)) (by repeat' (first | exact HeapVia.nil | refine HeapVia.cons (by decide) (by first | trivial | (simp [Blk.bnd, SV.bnd, SV.bndL]; done) | exact bndL_mapV _ _ _ | exact LR.bnd (by rw [l2]; simp [bndE, SV.bnd, SV.bndL]) (by rw [l6]; decide)) (by first | rfl | (simp only [Blk.ren, renL_mapV]; rfl) | (rw [LR.ren (by rw [l2] <;> rfl) (by rw [l6] <;> rfl)]; rfl)) ?_)) ⟨by have := hκ.hm; (try dsimp only at this); (first | done | omega), fun i hi => by have := hκ.hm; (try dsimp only at this); (first | omega | (dsimp only; omega) | (rw [if_neg (by omega)]))⟩ ⟨by simp, rfl⟩
    · simp (disch := omega) only [exec_succ, runR_next, runR_stop, stepS, runOp, goS, toSR, sop, rOf, ev, exitTo, OutOK_stop, List.size_toArray, List.length_cons, List.length_nil, List.range, List.range.loop, List.getElem?_toArray, List.getElem?_cons_zero, ↓reduceIte, Nat.reduceLT, Nat.zero_add, beq_self_eq_true]
      obtain rfl : i = l.length := by omega
      rw [hno hni] at hκ
      refine hκ.ret _ _ _ _ _ _ trivial rfl ?_
      exact .ret trivial
end Go.Proofs.Ytomfpciigaopiaa

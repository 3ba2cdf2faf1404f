/- TopoTells: the walk of the law. No condition. -/
import Derived.Test.YtbgnnmlhpaaebaaDoorLb
namespace Go.Proofs.YtbgnnmlhpaaebaaDoor
open Go Go.Sy
set_option maxRecDepth 100000
set_option linter.unusedSimpArgs false
set_option linter.unusedVariables false

/-- What the law counts up to. -/
def gK (b : Bool) (q : Sea → Bool) (l : List Sea) : Nat → Nat
  | 0 => 0
  | k + 1 => gK b q l k ||| if b = true ∧ q (l.getD k default) = true then 2 ^ k else 0
theorem gK_no (q : Sea → Bool) (l : List Sea) (k : Nat) : gK false q l k = 0 := by
  induction k with
  | zero => rfl
  | succ k ih => rw [gK, ih, if_neg (fun h => by cases h.1)]; rfl
theorem gK_yes (q : Sea → Bool) (l : List Sea) (k : Nat) : gK true q l k = setK q l k := by
  induction k with
  | zero => rfl
  | succ k ih =>
    rw [gK, ih, setK]
    by_cases h : q (l.getD k default) = true
    · rw [if_pos ⟨rfl, h⟩, if_pos h]
    · rw [if_neg (fun x => h x.2), if_neg h]
theorem qset_g (q : Sea → Bool) (l : List Sea) : qset q l = gK (okTs l) q l l.length := by
  rw [qset]
  cases h : okTs l
  · rw [gK_no]; rfl
  · rw [gK_yes]; rfl
theorem sib_g (l : List Sea) (n : Int) : sibK l n = gK (okTs l && inN l n) (fun s => decide (s = l.getD n.toNat default)) l l.length := by
  rw [sibK, qset_g]
  cases okTs l <;> cases inN l n <;> simp [gK_no]
theorem setK_lt8 (q : Sea → Bool) (l : List Sea) {k : Nat} (h : k ≤ 8) : setK q l k < 256 :=
  Nat.lt_of_lt_of_le (setK_lt q l k) (Nat.pow_le_pow_right (by decide) h : 2 ^ k ≤ 2 ^ 8)
theorem setK_succ (q : Sea → Bool) (l : List Sea) (k : Nat) : setK q l (k + 1) = setK q l k ||| if q (l.getD k default) = true then 2 ^ k else 0 := rfl
def eTo (x : List Sea) : List SV := [Ss x]
abbrev Tos (l : List (List Sea)) : SV := .rd 1 (l.map eTo)
set_option maxHeartbeats 2000000 in
theorem tells_law (l : List (List Sea)) (cs : List Int) (hl : ∀ x ∈ l, (∀ s ∈ x, inT s) ∧ x.length < 2 ^ 46) (hc : ∀ c ∈ cs, i64 c) (hn : l.length < 2 ^ 62) (hn2 : cs.length < 2 ^ 62) : Law Tryd.prog gl0 7 [Tos l, Is cs] := by
  refine Law.of (nt := 146) (res := [.tmp 4]) Tryd.mixed Tryd.func7 rfl rfl rfl rfl fun κ xc hκ => hκ.run 300 ?_
  simp (disch := omega) only [exec_succ, runR_next, runR_call, stepS, runOp, toSR, sop, rOf, ev, evs, envOf, OutOK_call, List.size_toArray, List.length_cons, List.length_nil, List.range, List.range.loop, List.getElem?_toArray, List.getElem?_cons_zero, ↓reduceIte, Nat.reduceAdd, Nat.reduceLT, Nat.zero_add, gl0]
  refine Does.ret hκ.hP hκ.hgl (wakes_ok) ⟨trivial, by simp [SV.bnd, SV.bndL], by first | (simp [SV.bnd, SV.bndL]; done) | assumption⟩ ?_
  refine hκ.run 300 ?_
  simp (disch := omega) only [sBuiltin, exec_succ, runR_next, runR_fork_false, runR_stop, stepS, runOp, condS, toSR, sop, rOf, sUn, sLen, ev, Env.get, setO, OutOK_stop, List.size_toArray, List.length_cons, List.length_nil, List.length_map, List.range, List.range.loop, List.getElem?_toArray, List.getElem?_cons_succ, List.getElem?_cons_zero, ↓reduceIte, Nat.reduceAdd, Nat.reduceLT, Nat.zero_add, Nat.add_one_ne_zero, Bool.not_true, gl0, Tryd.underlying64]
  refine Sat.less (Sat.loop (γ := Nat) (fun k => ([(23, I k), (22, I l.length), (21, Tos l), (0, Tos l), (1, Is cs)], [], 0)) (fun k => l.length - k) (fun k => k ≤ l.length) ?round 0 (Nat.zero_le _)) (by repeat' (first | exact EnvSub.nil _ | exact HeapSub.nil _ | refine EnvSub.cons rfl ?_ | refine HeapSub.cons rfl ?_ | (refine EnvSub.cons (by simp [Env.get]; done) ?_) | (refine HeapSub.cons (by simp [Heap.get]; done) ?_))) (by repeat' (first | exact EnvSub.nil _ | exact HeapSub.nil _ | refine EnvSub.cons rfl ?_ | refine HeapSub.cons rfl ?_ | (refine EnvSub.cons (by simp [Env.get]; done) ?_) | (refine HeapSub.cons (by simp [Heap.get]; done) ?_)))
  case round =>
    intro k hk ih
    dsimp only at hk ih ⊢
    refine hκ.runD 300 ?_
    simp (disch := omega) only [runR_next, stepS, runOp, condS, toSR, sop, sInt, sBin, ev, Env.get, halt, isDraw, drawC, execD_succ, List.size_toArray, List.length_cons, List.length_nil, List.range, List.range.loop, List.getElem?_toArray, List.getElem?_cons_zero, ↓reduceIte, Nat.reduceLT, Nat.reduceEqDiff, Nat.zero_add, gl0]
    refine OutOK_fork (fun h => ?_) (fun h => ?_) <;> try simp only [Bool.not_true, Bool.not_false, decide_eq_true_eq, decide_eq_false_iff_not, Bool.not_eq_true', Bool.not_eq_false', Bool.and_eq_true, Bool.or_eq_false_iff, Bool.or_eq_true, Bool.and_eq_false_iff] at h
    · have hz := ih (k + 1) (by omega) (by omega)
      clear ih
      have h0l : 0 < l.length := by omega
      have hx := hl _ (getD_mem (show k < l.length by omega))
      have hf := hl _ (getD_mem h0l)
      have gk : (List.map eTo l).getD k [] = eTo (l.getD k default) := getD_map _ _ _ (by omega)
      have g0 : (List.map eTo l).getD 0 [] = eTo (l.getD 0 default) := getD_map _ _ _ h0l
      generalize l.getD k default = x at gk hx
      generalize l.getD 0 default = f at g0 hf
      rw [eTo] at gk g0
      by_cases h20 : k = 8
      · have e0 : ((k : Int) = 8) = True := by first | (simp only [eq_iff_iff, iff_true]; first | assumption | omega) | (simp; omega)
        simp (disch := omega) only [runR_next, runR_need, runR_fork_true, runR_stop, stepS, runOp, condS, goS, toSR, sop, rOf, rNew, sAlloc, sAlloc0, sLoad, sStoreIn, sStore, sInt, sBin, sIndexAddr, elemT, obind, ev, svs, Env.get, Heap.get, Heap.set, takeN, cut, over, paste, aggOf, cellsS, one, ones, exitTo, OutOK_need, OutOK_stop, undefS, undef, halt, isDraw, drawC, execD_succ, Bool.false_eq_true, List.size_toArray, List.length_cons, List.length_nil, List.length_map, List.range, List.range.loop, List.getElem?_toArray, List.getElem?_cons_succ, List.getElem?_cons_zero, List.map_cons, List.map_nil, ↓reduceIte, Nat.reduceAdd, Nat.reduceLT, Nat.reduceEqDiff, Nat.zero_add, Nat.reduceBEq, Int.toNat_natCast, decide_true, beq_self_eq_true, true_and, and_self, forall_const, Tryd.sz24, Tryd.ag24, Tryd.ze24, Tryd.ar24, Tryd.underlying64, e0, gk]
        (repeat (refine ⟨by first | omega | (refine ⟨?_, ?_⟩ <;> omega) | trivial | (simp; done) | decide +kernel, fun _ => ?_⟩))
        refine hκ.ret _ _ _ _ _ _ trivial rfl ?_
        rfl
      have e0 : ((k : Int) = 8) = False := by first | (simp only [eq_iff_iff, iff_false]; first | assumption | omega) | (simp; omega)
      have cx := short_ok x hx.2
      have cf := short_ok f hf.2
      have ht := cut9_in hx.1
      have htl := cut9_len x
      have hfl := cut9_len f
      generalize cut9 x = t at cx ht htl
      generalize cut9 f = u at cf hfl
      have c1 := tright_ok t ht (by omega)
      have c2 := tcheck_ok t ht (by omega)
      have c3 := tsame_ok t u (by omega)
      have c4 := trsame_ok t u (by omega)
      have c5 := tsame_ok t t (by omega)
      rw [decide_eq_true rfl] at c5
      generalize decide (t = u) = bb at c3 c4
      simp (disch := omega) only [runR_next, runR_need, runR_fork_false, stepS, runOp, condS, toSR, sop, rOf, rNew, sAlloc, sAlloc0, sLoad, sStoreIn, sStore, sInt, sBin, sIndexAddr, elemT, obind, ev, svs, Env.get, Heap.get, Heap.set, takeN, cut, over, paste, aggOf, cellsS, one, ones, OutOK_need, OutOK_stop, undefS, undef, halt, isDraw, drawC, execD_succ, List.size_toArray, List.length_cons, List.length_nil, List.length_map, List.range, List.range.loop, List.getElem?_toArray, List.getElem?_cons_succ, List.getElem?_cons_zero, List.map_cons, List.map_nil, ↓reduceIte, Nat.reduceAdd, Nat.reduceLT, Nat.reduceEqDiff, Nat.zero_add, Int.toNat_natCast, decide_false, true_and, and_self, forall_const, Tryd.sz24, Tryd.ag24, Tryd.ze24, Tryd.ar24, Tryd.underlying64, e0, gk]
      (repeat (refine ⟨by first | omega | (refine ⟨?_, ?_⟩ <;> omega) | trivial | (simp; done) | decide +kernel, fun _ => ?_⟩))
      apply Sat.join (α := Unit) (nx := 3) (dfs := []) (fun _ => True) (fun _ => ([(8, .ptr 2 0 0 0), (7, .ptr 1 0 0 0), (6, .ptr 0 0 0 0), (23, I k), (22, I l.length), (21, Tos l), (0, Tos l), (1, Is cs)], [(2, .own [Ss u] 24), (1, .own [Ss t] 24), (0, .own [Ss x] 24)]))
      · intro hj
        have hj := hj () trivial
        dsimp only at hj
        refine hκ.draw (.q 0 (.q 2 (.q 3 (.q 4 (.or (.m 1 [4] (.or (.m 5 [0] (.or (.m 6 [0, 4] (.l 7 [0, 4] (.l 8 [4] (.l 9 [] (.fin))))) (.m 7 [0, 4] (.l 6 [0, 4] (.l 8 [4] (.l 9 [] (.fin))))))) (.or (.m 6 [0, 4] (.or (.m 5 [0] (.l 7 [0, 4] (.l 8 [4] (.l 9 [] (.fin))))) (.m 7 [0, 4] (.l 5 [0] (.l 8 [4] (.l 9 [] (.fin))))))) (.m 7 [0, 4] (.or (.m 5 [0] (.l 6 [0, 4] (.l 8 [4] (.l 9 [] (.fin))))) (.m 6 [0, 4] (.l 5 [0] (.l 8 [4] (.l 9 [] (.fin)))))))))) (.or (.m 6 [0, 4] (.or (.m 1 [4] (.or (.m 5 [0] (.l 7 [0, 4] (.l 8 [4] (.l 9 [] (.fin))))) (.m 7 [0, 4] (.l 5 [0] (.l 8 [4] (.l 9 [] (.fin))))))) (.m 7 [0, 4] (.l 1 [4] (.l 5 [0] (.l 8 [4] (.l 9 [] (.fin)))))))) (.m 7 [0, 4] (.or (.m 1 [4] (.or (.m 5 [0] (.l 6 [0, 4] (.l 8 [4] (.l 9 [] (.fin))))) (.m 6 [0, 4] (.l 5 [0] (.l 8 [4] (.l 9 [] (.fin))))))) (.m 6 [0, 4] (.l 1 [4] (.l 5 [0] (.l 8 [4] (.l 9 [] (.fin)))))))))))))) [0, 2, 3, 4] (by kernel_rfl) (by kernel_rfl) rfl ?_
        simp (disch := omega) only [sop, rOf, rNew, sAlloc, sAlloc0, sLoadIn, sLoad, sIndexAddr, elemT, obind, ev, evs, svs, Env.get, Heap.get, takeN, cut, aggOf, setO, drawP_q, drawP_l, dnext, dq, dqn, dl, slotR, ag, guardP, R1Q, dstOK, loudP, again, again1, slotIs, R1OK, drawP_m, drawP_or, List.length_map, List.getElem?_toArray, List.getElem?_cons_succ, List.getElem?_cons_zero, List.map_cons, List.map_nil, ↓reduceIte, Nat.reduceAdd, Nat.reduceLT, Nat.reduceEqDiff, Nat.add_one_ne_zero, Int.reduceToNat, Int.reduceLE, true_and, and_self, gl0, Tryd.sz24, Tryd.ag24, Tryd.ze24, Tryd.ar24, Tryd.underlying64, g0]
        (repeat (refine ⟨by first | omega | (refine ⟨?_, ?_⟩ <;> omega) | trivial | (simp; done) | decide +kernel, fun _ => ?_⟩))
        repeat' (refine And.intro ?_ ?_)
        all_goals
          refine DCall.of (Does.ret hκ.hP hκ.hgl cx ⟨trivial, by simp [SV.bnd, SV.bndL], by first | (simp [SV.bnd, SV.bndL]; done) | assumption⟩ ?_)
          simp (disch := omega) only [sop, rOf, rNew, sAlloc, sAlloc0, sLoadIn, sLoad, ev, evs, svs, Env.get, Heap.get, takeN, cut, aggOf, setO, drawP_l, dnext, dl, slotR, ag, guardP, dstOK, loudP, again, again1, slotIs, R1OK, drawP_m, drawP_or, List.getElem?_toArray, List.getElem?_cons_succ, List.getElem?_cons_zero, List.map_cons, List.map_nil, ↓reduceIte, Nat.reduceAdd, Nat.reduceLT, Nat.reduceEqDiff, Nat.add_one_ne_zero, true_and, and_self, Tryd.sz24, Tryd.ag24, Tryd.ze24, Tryd.ar24]
        repeat' (refine And.intro ?_ ?_)
        all_goals
          refine DCall.of (Does.ret hκ.hP hκ.hgl cf ⟨trivial, by simp [SV.bnd, SV.bndL], by first | (simp [SV.bnd, SV.bndL]; done) | assumption⟩ ?_)
          simp (disch := omega) only [sop, rOf, rNew, sAlloc, sAlloc0, sLoadIn, sLoad, sStoreIn, sStore, ev, svs, Env.get, Heap.get, Heap.set, takeN, cut, over, paste, aggOf, cellsS, one, ones, setO, drawP_fin, drawP_l, dnext, dl, slotR, ag, guardP, dstOK, loudP, again, again1, slotIs, R1OK, undefS, undef, drawP_m, drawP_or, List.length_cons, List.length_nil, List.getElem?_toArray, List.getElem?_cons_succ, List.getElem?_cons_zero, List.map_cons, List.map_nil, ↓reduceIte, Nat.reduceAdd, Nat.reduceLT, Nat.reduceEqDiff, Nat.zero_add, Nat.add_one_ne_zero, true_and, and_self, forall_const, Tryd.sz24, Tryd.ag24, Tryd.ze24, Tryd.ar24]
        repeat' (refine And.intro ?_ ?_)
        all_goals first
          | (refine hj.less ?_ ?_ <;> (repeat' (first | exact EnvSub.nil _ | exact HeapSub.nil _ | refine EnvSub.cons rfl ?_ | refine HeapSub.cons rfl ?_)) <;> done)
          | (refine Sat.via (fun i => if i = 1 then 2 else if i = 2 then 1 else i) (hj) ?_ ?_ ?_ ?_ ?_; (focus (intro i j; (repeat (first | omega | split)); done)); (focus ((repeat' (first | exact EnvVia.nil | refine EnvVia.cons (by first | trivial | decide | (simp [SV.bnd, SV.bndL]; done)) rfl ?_)); done)); (focus ((repeat' (first | exact HeapVia.nil | refine HeapVia.cons (by decide) (by first | trivial | (simp [Blk.bnd, SV.bnd, SV.bndL]; done) | exact bndL_mapV _ _ _ | exact LR.bnd (by rw [l2]; simp [bndE, SV.bnd, SV.bndL]) (by rw [l6]; decide)) (by first | rfl | (simp only [Blk.ren, renL_mapV]; rfl) | (rw [LR.ren (by rw [l2] <;> rfl) (by rw [l6] <;> rfl)]; rfl)) ?_)); done)); (focus (exact ⟨by have := hκ.hm; (try dsimp only at this); (first | done | omega), fun i hi => by have := hκ.hm; (try dsimp only at this); (first | omega | (dsimp only; omega) | (rw [if_neg (by omega)]))⟩)); (focus (exact ⟨by simp, rfl⟩)))
      intro _ _
      dsimp only
      apply Sat.join (α := Unit) (nx := 3) (dfs := []) (fun _ => True) (fun _ => ([(71, I 0), (70, I t.length), (11, S 0), (9, Bo (okTs t)), (7, .ptr 1 0 0 0), (23, I k), (22, I l.length), (21, Tos l), (0, Tos l), (1, Is cs)], [(1, .own [Ss t] 24)]))
      · intro hj
        have hj := hj () trivial
        dsimp only at hj
        refine hκ.runD 300 ?_
        simp (disch := omega) only [runR_next, runR_call, stepS, runOp, toSR, sop, rOf, sLoadIn, sLoad, ev, evs, Env.get, Heap.get, takeN, cut, aggOf, OutOK_call, halt, isDraw, drawC, execD_succ, List.size_toArray, List.length_cons, List.length_nil, List.range, List.range.loop, List.getElem?_toArray, List.getElem?_cons_succ, List.getElem?_cons_zero, ↓reduceIte, Nat.reduceAdd, Nat.reduceLT, Nat.reduceEqDiff, Nat.zero_add, gl0, Tryd.sz24, Tryd.ag24]
        refine Does.ret hκ.hP hκ.hgl (c1) ⟨trivial, by simp [SV.bnd, SV.bndL], by first | (simp [SV.bnd, SV.bndL]; done) | assumption⟩ ?_
        refine hκ.runD 300 ?_
        simp (disch := omega) only [runR_next, runR_call, stepS, runOp, toSR, sop, rOf, sLoadIn, sLoad, ev, evs, Env.get, Heap.get, takeN, cut, aggOf, setO, OutOK_call, halt, isDraw, drawC, execD_succ, List.size_toArray, List.length_cons, List.length_nil, List.range, List.range.loop, List.getElem?_toArray, List.getElem?_cons_succ, List.getElem?_cons_zero, ↓reduceIte, Nat.reduceAdd, Nat.reduceLT, Nat.reduceEqDiff, Nat.zero_add, gl0, Tryd.sz24, Tryd.ag24]
        refine Does.ret hκ.hP hκ.hgl (c2) ⟨trivial, by simp [SV.bnd, SV.bndL], by first | (simp [SV.bnd, SV.bndL]; done) | assumption⟩ ?_
        refine hκ.runD 300 ?_
        simp (disch := omega) only [runR_next, stepS, runOp, toSR, sop, rOf, ev, Env.get, setO, OutOK_stop, halt, isDraw, drawC, execD_succ, List.getElem?_toArray, List.getElem?_cons_succ, List.getElem?_cons_zero, ↓reduceIte, Nat.reduceLT, gl0]
        cases ho : okTs t
        · rw [if_neg (by decide)]
          rw [ho] at hj
          refine hκ.draw (.q 0 (.q 1 (.q 2 (.q 3 (.q 4 (.q 5 (.q 6 (.q 7 (.q 8 (.q 9 (.q 10 (.q 11 (.q 12 (.q 13 (.q 14 (.q 16 (.q 17 (.l 15 [16, 17] (.l 18 [13, 14] (.q 19 (.q 20 (.q 21 (.q 22 (.q 23 (.l 24 [13, 14, 16, 17, 22] (.l 25 [13, 14, 16, 17, 23] (.q 26 (.q 27 (.fin))))))))))))))))))))))))))))) [0, 1, 2, 3, 4, 5, 6, 7, 8, 9, 10, 11, 12, 13, 14, 16, 17, 19, 20, 21, 22, 23, 26, 27] (by kernel_rfl) (by kernel_rfl) rfl ?_
          simp (disch := omega) only [sop, rOf, sPick, sLoadIn, sLoad, sInt, sEq, sEqR, sBin, sUn, ev, evs, Env.get, Heap.get, takeN, cut, aggOf, setO, drawP_q, drawP_l, dq, dqn, dl, GF.tt, GF.ff, guardP, R1Q, dstOK, loudP, List.getElem?_toArray, List.getElem?_cons_succ, List.getElem?_cons_zero, Option.bind_some, ↓reduceIte, Nat.reduceLT, Nat.reduceEqDiff, Int.reduceEq, Bool.not_true, Bool.not_false, decide_true, decide_false, beq_self_eq_true, true_and, forall_const, gl0, Tryd.underlying4, Tryd.sz24, Tryd.ag24]
          refine DCall.of (Does.ret hκ.hP hκ.hgl (c3) ⟨trivial, by simp [SV.bnd, SV.bndL], by first | (simp [SV.bnd, SV.bndL]; done) | assumption⟩ ?_)
          simp (disch := omega) only [sop, rOf, sLoadIn, sLoad, ev, evs, Env.get, Heap.get, takeN, cut, aggOf, setO, drawP_l, dnext, dl, slotR, ag, GF.ff, guardP, dstOK, loudP, again, again1, slotIs, R1OK, List.getElem?_toArray, List.getElem?_cons_succ, List.getElem?_cons_zero, Option.bind_some, ↓reduceIte, Nat.reduceLT, Nat.reduceEqDiff, true_and, and_self, Tryd.sz24, Tryd.ag24]
          refine DCall.of (Does.ret hκ.hP hκ.hgl (c4) ⟨trivial, by simp [SV.bnd, SV.bndL], by first | (simp [SV.bnd, SV.bndL]; done) | assumption⟩ ?_)
          simp (disch := omega) only [sop, rOf, sPick, sLoadIn, sLoad, sEq, sEqR, sBin, ev, evs, Env.get, Heap.get, takeN, cut, aggOf, setO, drawP_q, drawP_l, dnext, dq, dqn, dl, slotR, ag, GF.ff, guardP, R1Q, dstOK, loudP, again, again1, slotIs, R1OK, List.getElem?_toArray, List.getElem?_cons_succ, List.getElem?_cons_zero, Option.bind_some, ↓reduceIte, Nat.reduceLT, Nat.reduceEqDiff, Nat.add_one_ne_zero, Bool.not_true, beq_self_eq_true, true_and, and_self, forall_const, Tryd.underlying4, Tryd.sz24, Tryd.ag24]
          cases bb
          all_goals
            refine DCall.of (Does.ret hκ.hP hκ.hgl (cx) ⟨trivial, by simp [SV.bnd, SV.bndL], by first | (simp [SV.bnd, SV.bndL]; done) | assumption⟩ ?_)
            simp (disch := omega) only [sop, rOf, sLoadIn, sLoad, ev, evs, Env.get, Heap.get, takeN, cut, aggOf, setO, drawP_l, dnext, dl, slotR, ag, GF.ff, guardP, dstOK, loudP, again, again1, slotIs, R1OK, List.getElem?_toArray, List.getElem?_cons_succ, List.getElem?_cons_zero, Option.bind_some, ↓reduceIte, Nat.reduceLT, Nat.reduceEqDiff, true_and, and_self, Tryd.sz24, Tryd.ag24]
            refine DCall.of (Does.ret hκ.hP hκ.hgl (c5) ⟨trivial, by simp [SV.bnd, SV.bndL], by first | (simp [SV.bnd, SV.bndL]; done) | assumption⟩ ?_)
            simp (disch := omega) only [sop, rOf, sPick, sLoadIn, sLoad, sUn, ev, Env.get, Heap.get, takeN, cut, aggOf, setO, drawP_fin, drawP_q, dnext, dq, dqn, slotR, ag, GF.ff, guardP, R1Q, dstOK, again, again1, slotIs, R1OK, List.getElem?_toArray, List.getElem?_cons_succ, List.getElem?_cons_zero, Option.bind_some, ↓reduceIte, Nat.reduceLT, Nat.reduceEqDiff, Nat.add_one_ne_zero, Bool.not_true, true_and, and_self, Tryd.sz24, Tryd.ag24]
            refine hκ.runD 300 ?_
            simp (disch := omega) only [sBuiltin, runR_next, runR_fork_false, runR_stop, stepS, runOp, condS, toSR, sop, rOf, sLoadIn, sLoad, sFieldAddr, sLen, ev, Env.get, Heap.get, takeN, cut, aggOf, OutOK_stop, halt, isDraw, drawC, execD_succ, List.size_toArray, List.length_cons, List.length_nil, List.length_map, List.range, List.range.loop, List.getElem?_toArray, List.getElem?_cons_succ, List.getElem?_cons_zero, ↓reduceIte, Nat.reduceAdd, Nat.reduceLT, Nat.reduceEqDiff, Nat.zero_add, Nat.add_zero, Nat.add_one_ne_zero, gl0, Tryd.underlying22, Tryd.sz22, Tryd.ag22, Tryd.fd24f0]
            exact hj.less (by repeat' (first | exact EnvSub.nil _ | exact HeapSub.nil _ | refine EnvSub.cons rfl ?_ | refine HeapSub.cons rfl ?_ | (refine EnvSub.cons (by simp [Env.get]; done) ?_) | (refine HeapSub.cons (by simp [Heap.get]; done) ?_))) (by repeat' (first | exact EnvSub.nil _ | exact HeapSub.nil _ | refine EnvSub.cons rfl ?_ | refine HeapSub.cons rfl ?_ | (refine EnvSub.cons (by simp [Env.get]; done) ?_) | (refine HeapSub.cons (by simp [Heap.get]; done) ?_)))
        · rw [if_pos rfl]
          rw [ho] at hj
          refine hκ.draw (.q 0 (.q 1 (.q 2 (.q 3 (.q 4 (.q 5 (.q 6 (.q 7 (.q 8 (.q 9 (.q 10 (.q 11 (.q 12 (.q 13 (.q 14 (.q 16 (.q 17 (.l 15 [16, 17] (.l 18 [13, 14] (.q 19 (.q 20 (.q 21 (.q 22 (.q 23 (.l 24 [13, 14, 16, 17, 22] (.l 25 [13, 14, 16, 17, 23] (.q 26 (.q 27 (.fin))))))))))))))))))))))))))))) [0, 1, 2, 3, 4, 5, 6, 7, 8, 9, 10, 11, 12, 13, 14, 16, 17, 19, 20, 21, 22, 23, 26, 27] (by kernel_rfl) (by kernel_rfl) rfl ?_
          simp (disch := omega) only [sop, rOf, sPick, sLoadIn, sLoad, sInt, sEq, sEqR, sBin, sUn, ev, evs, Env.get, Heap.get, takeN, cut, aggOf, setO, drawP_q, drawP_l, dq, dqn, dl, GF.ff, GF.ft, guardP, R1Q, dstOK, loudP, undefS, undef, List.getElem?_toArray, List.getElem?_cons_succ, List.getElem?_cons_zero, Option.bind_some, ↓reduceIte, Nat.reduceLT, Nat.reduceEqDiff, Bool.not_true, decide_true, beq_self_eq_true, true_and, forall_const, gl0, Tryd.underlying4, Tryd.sz24, Tryd.ag24]
          refine DCall.of (Does.ret hκ.hP hκ.hgl (c3) ⟨trivial, by simp [SV.bnd, SV.bndL], by first | (simp [SV.bnd, SV.bndL]; done) | assumption⟩ ?_)
          simp (disch := omega) only [sop, rOf, sLoadIn, sLoad, ev, evs, Env.get, Heap.get, takeN, cut, aggOf, setO, drawP_l, dnext, dl, slotR, ag, GF.ff, guardP, dstOK, loudP, again, again1, slotIs, R1OK, List.getElem?_toArray, List.getElem?_cons_succ, List.getElem?_cons_zero, Option.bind_some, ↓reduceIte, Nat.reduceLT, Nat.reduceEqDiff, true_and, and_self, Tryd.sz24, Tryd.ag24]
          refine DCall.of (Does.ret hκ.hP hκ.hgl (c4) ⟨trivial, by simp [SV.bnd, SV.bndL], by first | (simp [SV.bnd, SV.bndL]; done) | assumption⟩ ?_)
          simp (disch := omega) only [sop, rOf, sPick, sLoadIn, sLoad, sEq, sEqR, sBin, ev, evs, Env.get, Heap.get, takeN, cut, aggOf, setO, drawP_q, drawP_l, dnext, dq, dqn, dl, slotR, ag, GF.ff, guardP, R1Q, dstOK, loudP, again, again1, slotIs, R1OK, List.getElem?_toArray, List.getElem?_cons_succ, List.getElem?_cons_zero, Option.bind_some, ↓reduceIte, Nat.reduceLT, Nat.reduceEqDiff, Nat.add_one_ne_zero, Bool.not_true, beq_self_eq_true, true_and, and_self, forall_const, Tryd.underlying4, Tryd.sz24, Tryd.ag24]
          cases bb
          all_goals
            refine DCall.of (Does.ret hκ.hP hκ.hgl (cx) ⟨trivial, by simp [SV.bnd, SV.bndL], by first | (simp [SV.bnd, SV.bndL]; done) | assumption⟩ ?_)
            simp (disch := omega) only [sop, rOf, sLoadIn, sLoad, ev, evs, Env.get, Heap.get, takeN, cut, aggOf, setO, drawP_l, dnext, dl, slotR, ag, GF.ff, guardP, dstOK, loudP, again, again1, slotIs, R1OK, List.getElem?_toArray, List.getElem?_cons_succ, List.getElem?_cons_zero, Option.bind_some, ↓reduceIte, Nat.reduceLT, Nat.reduceEqDiff, true_and, and_self, Tryd.sz24, Tryd.ag24]
            refine DCall.of (Does.ret hκ.hP hκ.hgl (c5) ⟨trivial, by simp [SV.bnd, SV.bndL], by first | (simp [SV.bnd, SV.bndL]; done) | assumption⟩ ?_)
            simp (disch := omega) only [sop, rOf, sPick, sLoadIn, sLoad, sUn, ev, Env.get, Heap.get, takeN, cut, aggOf, setO, drawP_fin, drawP_q, dnext, dq, dqn, slotR, ag, GF.ff, guardP, R1Q, dstOK, again, again1, slotIs, R1OK, List.getElem?_toArray, List.getElem?_cons_succ, List.getElem?_cons_zero, Option.bind_some, ↓reduceIte, Nat.reduceLT, Nat.reduceEqDiff, Nat.add_one_ne_zero, Bool.not_true, true_and, and_self, Tryd.sz24, Tryd.ag24]
            refine hκ.runD 300 ?_
            simp (disch := omega) only [sBuiltin, runR_next, runR_fork_false, runR_stop, stepS, runOp, condS, toSR, sop, rOf, sLoadIn, sLoad, sFieldAddr, sLen, ev, Env.get, Heap.get, takeN, cut, aggOf, OutOK_stop, halt, isDraw, drawC, execD_succ, List.size_toArray, List.length_cons, List.length_nil, List.length_map, List.range, List.range.loop, List.getElem?_toArray, List.getElem?_cons_succ, List.getElem?_cons_zero, ↓reduceIte, Nat.reduceAdd, Nat.reduceLT, Nat.reduceEqDiff, Nat.zero_add, Nat.add_zero, Nat.add_one_ne_zero, gl0, Tryd.underlying22, Tryd.sz22, Tryd.ag22, Tryd.fd24f0]
            exact hj.less (by repeat' (first | exact EnvSub.nil _ | exact HeapSub.nil _ | refine EnvSub.cons rfl ?_ | refine HeapSub.cons rfl ?_ | (refine EnvSub.cons (by simp [Env.get]; done) ?_) | (refine HeapSub.cons (by simp [Heap.get]; done) ?_))) (by repeat' (first | exact EnvSub.nil _ | exact HeapSub.nil _ | refine EnvSub.cons rfl ?_ | refine HeapSub.cons rfl ?_ | (refine EnvSub.cons (by simp [Env.get]; done) ?_) | (refine HeapSub.cons (by simp [Heap.get]; done) ?_)))
      intro _ _
      dsimp only
      clear cx cf c1 c2 c3 c4 c5
      have htn : t.length < 2 ^ 40 := by omega
      have c1 := all_ok t ht htn
      have ho8 : okTs t = true → t.length ≤ 8 := fun h => ((okTs_iff t).1 h).2.2
      apply Sat.join (α := Unit) (nx := 3) (dfs := []) (fun _ => True) (fun _ => ([(9, Bo (okTs t)), (7, .ptr 1 0 0 0), (11, S (qset (fun _ => true) t)), (23, I k), (22, I l.length), (21, Tos l), (0, Tos l), (1, Is cs)], [(1, .own [Ss t] 24)]))
      · intro hj
        have hj := hj () trivial
        dsimp only at hj
        rw [qset_g] at hj
        refine Sat.less (Sat.loop (γ := Nat) (fun j => ([(71, I j), (70, I t.length), (9, Bo (okTs t)), (7, .ptr 1 0 0 0), (11, S (gK (okTs t) (fun _ => true) t j)), (23, I k), (22, I l.length), (21, Tos l), (0, Tos l), (1, Is cs)], [(1, .own [Ss t] 24)], 3)) (fun j => t.length - j) (fun j => j ≤ t.length) ?alls 0 (Nat.zero_le _)) (by repeat' (first | exact EnvSub.nil _ | exact HeapSub.nil _ | refine EnvSub.cons rfl ?_ | refine HeapSub.cons rfl ?_ | (refine EnvSub.cons (by simp [Env.get]; done) ?_) | (refine HeapSub.cons (by simp [Heap.get]; done) ?_))) (by repeat' (first | exact EnvSub.nil _ | exact HeapSub.nil _ | refine EnvSub.cons rfl ?_ | refine HeapSub.cons rfl ?_ | (refine EnvSub.cons (by simp [Env.get]; done) ?_) | (refine HeapSub.cons (by simp [Heap.get]; done) ?_)))
        case alls =>
          intro j hjt ihj
          dsimp only at hjt ihj ⊢
          refine hκ.runA 19 300 ?_
          simp (disch := omega) only [runR_next, stepS, runOp, condS, toSR, sop, sInt, sBin, ev, Env.get, halt, isAt, atC, execA_succ, List.size_toArray, List.length_cons, List.length_nil, List.range, List.range.loop, List.getElem?_toArray, List.getElem?_cons_zero, ↓reduceIte, Nat.reduceLT, Nat.reduceEqDiff, Nat.zero_add, Nat.reduceBEq, gl0]
          refine OutOK_fork (fun h => ?_) (fun h => ?_) <;> try simp only [Bool.not_true, Bool.not_false, decide_eq_true_eq, decide_eq_false_iff_not, Bool.not_eq_true', Bool.not_eq_false', Bool.and_eq_true, Bool.or_eq_false_iff, Bool.or_eq_true, Bool.and_eq_false_iff] at h
          · have hy := ihj (j + 1) (by omega) (by omega)
            clear ihj
            cases ho : okTs t
            · rw [ho, gK_no] at hy
              rw [gK_no]
              simp (disch := omega) only [runR_next, runR_fork_false, runR_stop, stepS, runOp, condS, toSR, sop, rOf, sInt, sBin, ev, Env.get, OutOK_stop, halt, isAt, atC, execA_succ, List.size_toArray, List.length_cons, List.length_nil, List.range, List.range.loop, List.getElem?_toArray, List.getElem?_cons_succ, List.getElem?_cons_zero, ↓reduceIte, Nat.reduceAdd, Nat.reduceLT, Nat.reduceEqDiff, Nat.zero_add, Nat.reduceBEq, wrap_i64]
              exact hy.less (by repeat' (first | exact EnvSub.nil _ | exact HeapSub.nil _ | refine EnvSub.cons rfl ?_ | refine HeapSub.cons rfl ?_ | (refine EnvSub.cons (by simp [Env.get]; done) ?_) | (refine HeapSub.cons (by simp [Heap.get]; done) ?_))) (by repeat' (first | exact EnvSub.nil _ | exact HeapSub.nil _ | refine EnvSub.cons rfl ?_ | refine HeapSub.cons rfl ?_ | (refine EnvSub.cons (by simp [Env.get]; done) ?_) | (refine HeapSub.cons (by simp [Heap.get]; done) ?_)))
            · have h8 := ho8 ho
              have hlt := setK_lt8 (fun _ => true) t (show j ≤ 8 by omega)
              have hp : 2 ^ j < 256 := pow_lt_256 (by omega)
              rw [ho, gK_yes, setK_succ, if_pos rfl] at hy
              rw [gK_yes]
              generalize setK (fun _ => true) t j = s at hy hlt ⊢
              simp (disch := omega) only [runR_next, runR_need, runR_fork_true, runR_stop, stepS, runOp, condS, toSR, sop, rOf, sInt, sBin, ev, Env.get, OutOK_need, OutOK_stop, halt, isAt, atC, execA_succ, List.size_toArray, List.length_cons, List.length_nil, List.range, List.range.loop, List.getElem?_toArray, List.getElem?_cons_succ, List.getElem?_cons_zero, ↓reduceIte, Nat.reduceAdd, Nat.reduceLT, Nat.reduceEqDiff, Nat.zero_add, Nat.reduceBEq, Int.toNat_natCast, shAmt_of, IntKind.bits, wrap_i64]
              refine ⟨by omega, fun _ => ?_⟩
              rw [pow32 _ (by omega), or32 (by omega) (by omega)]
              exact hy.less (by repeat' (first | exact EnvSub.nil _ | exact HeapSub.nil _ | refine EnvSub.cons rfl ?_ | refine HeapSub.cons rfl ?_ | (refine EnvSub.cons (by simp [Env.get]; done) ?_) | (refine HeapSub.cons (by simp [Heap.get]; done) ?_))) (by repeat' (first | exact EnvSub.nil _ | exact HeapSub.nil _ | refine EnvSub.cons rfl ?_ | refine HeapSub.cons rfl ?_ | (refine EnvSub.cons (by simp [Env.get]; done) ?_) | (refine HeapSub.cons (by simp [Heap.get]; done) ?_)))
          · simp (disch := omega) only [runR_next, stepS, goS, exitTo, OutOK_stop, halt, isAt, atC, execA_succ, ↓reduceIte, beq_self_eq_true]
            obtain rfl : j = t.length := by omega
            exact hj.less (by repeat' (first | exact EnvSub.nil _ | exact HeapSub.nil _ | refine EnvSub.cons rfl ?_ | refine HeapSub.cons rfl ?_ | (refine EnvSub.cons (by simp [Env.get]; done) ?_) | (refine HeapSub.cons (by simp [Heap.get]; done) ?_))) (by repeat' (first | exact EnvSub.nil _ | exact HeapSub.nil _ | refine EnvSub.cons rfl ?_ | refine HeapSub.cons rfl ?_ | (refine EnvSub.cons (by simp [Env.get]; done) ?_) | (refine HeapSub.cons (by simp [Heap.get]; done) ?_)))
      intro _ _
      dsimp only
      refine hκ.runA 37 300 ?_
      simp (disch := omega) only [runR_next, runR_call, stepS, runOp, toSR, sop, rOf, sLoadIn, sLoad, ev, evs, Env.get, Heap.get, takeN, cut, aggOf, OutOK_call, halt, isAt, atC, execA_succ, List.size_toArray, List.length_cons, List.length_nil, List.range, List.range.loop, List.getElem?_toArray, List.getElem?_cons_succ, List.getElem?_cons_zero, ↓reduceIte, Nat.reduceAdd, Nat.reduceLT, Nat.reduceEqDiff, Nat.zero_add, Nat.reduceBEq, gl0, Tryd.sz24, Tryd.ag24]
      refine Does.ret hκ.hP hκ.hgl (c1) ⟨trivial, by simp [SV.bnd, SV.bndL], by first | (simp [SV.bnd, SV.bndL]; done) | assumption⟩ ?_
      refine hκ.runA 37 300 ?_
      simp (disch := omega) only [sBuiltin, runR_next, runR_fork_false, runR_stop, stepS, runOp, condS, toSR, sop, rOf, sInt, sBin, sLen, ev, Env.get, setO, OutOK_stop, halt, isAt, atC, execA_succ, List.size_toArray, List.length_cons, List.length_nil, List.length_map, List.range, List.range.loop, List.getElem?_toArray, List.getElem?_cons_succ, List.getElem?_cons_zero, ↓reduceIte, Nat.reduceAdd, Nat.reduceLT, Nat.reduceEqDiff, Nat.zero_add, Nat.reduceBEq, Bool.not_true, decide_true, reduceCtorEq, gl0, Tryd.underlying38]
      refine Sat.less (Sat.loop (γ := Nat) (fun j => ([(86, I j), (85, I cs.length), (84, Is cs), (9, Bo (okTs t)), (7, .ptr 1 0 0 0), (23, I k), (22, I l.length), (21, Tos l), (0, Tos l), (1, Is cs)], [(1, .own [Ss t] 24)], 3)) (fun j => cs.length - j) (fun j => j ≤ cs.length) ?nums 0 (Nat.zero_le _)) (by repeat' (first | exact EnvSub.nil _ | exact HeapSub.nil _ | refine EnvSub.cons rfl ?_ | refine HeapSub.cons rfl ?_ | (refine EnvSub.cons (by simp [Env.get]; done) ?_) | (refine HeapSub.cons (by simp [Heap.get]; done) ?_))) (by repeat' (first | exact EnvSub.nil _ | exact HeapSub.nil _ | refine EnvSub.cons rfl ?_ | refine HeapSub.cons rfl ?_ | (refine EnvSub.cons (by simp [Env.get]; done) ?_) | (refine HeapSub.cons (by simp [Heap.get]; done) ?_)))
      case nums =>
        intro j hjc ihj
        dsimp only at hjc ihj ⊢
        refine hκ.runA 37 300 ?_
        simp (disch := omega) only [runR_next, stepS, runOp, condS, toSR, sop, sInt, sBin, ev, Env.get, halt, isAt, atC, execA_succ, List.size_toArray, List.length_cons, List.length_nil, List.range, List.range.loop, List.getElem?_toArray, List.getElem?_cons_zero, ↓reduceIte, Nat.reduceLT, Nat.reduceEqDiff, Nat.zero_add, Nat.reduceBEq, gl0]
        refine OutOK_fork (fun h => ?_) (fun h => ?_) <;> try simp only [Bool.not_true, Bool.not_false, decide_eq_true_eq, decide_eq_false_iff_not, Bool.not_eq_true', Bool.not_eq_false', Bool.and_eq_true, Bool.or_eq_false_iff, Bool.or_eq_true, Bool.and_eq_false_iff] at h
        · have hy := ihj (j + 1) (by omega) (by omega)
          clear ihj
          have hcj := hc _ (getD_mem (show j < cs.length by omega))
          have gc : (List.map (eI .i64) cs).getD j [] = [I (cs.getD j default)] := getD_map _ _ _ (by omega)
          generalize cs.getD j default = n at gc hcj
          by_cases h10 : j = 10
          · have e10 : ((j : Int) = 10) = True := by first | (simp only [eq_iff_iff, iff_true]; first | assumption | omega) | (simp; omega)
            simp (disch := omega) only [runR_next, runR_need, runR_fork_true, stepS, runOp, condS, goS, toSR, sop, rOf, sLoad, sInt, sBin, sIndexAddr, elemT, obind, ev, Env.get, takeN, cut, aggOf, exitTo, OutOK_need, OutOK_stop, halt, isAt, atC, execA_succ, Bool.false_eq_true, List.size_toArray, List.length_cons, List.length_nil, List.length_map, List.range, List.range.loop, List.getElem?_toArray, List.getElem?_cons_succ, List.getElem?_cons_zero, ↓reduceIte, Nat.reduceAdd, Nat.reduceLT, Nat.reduceEqDiff, Nat.zero_add, Nat.reduceBEq, Int.toNat_natCast, decide_true, beq_self_eq_true, Tryd.sz3, Tryd.ag3, Tryd.underlying38, e10, gc]
            (repeat (refine ⟨by first | omega | (refine ⟨?_, ?_⟩ <;> omega) | trivial | (simp; done) | decide +kernel, fun _ => ?_⟩))
            refine hκ.run 300 ?_
            simp (disch := omega) only [exec_succ, runR_next, runR_stop, stepS, runOp, toSR, sop, rOf, sInt, sBin, ev, Env.get, OutOK_stop, List.size_toArray, List.length_cons, List.length_nil, List.range, List.range.loop, List.getElem?_toArray, List.getElem?_cons_succ, List.getElem?_cons_zero, ↓reduceIte, Nat.reduceAdd, Nat.reduceLT, Nat.reduceEqDiff, Nat.zero_add, wrap_i64, gl0]
            refine Sat.via (fun i => i) (hz) (by intro i j; (repeat (first | omega | split))) (by repeat' (first | exact EnvVia.nil | refine EnvVia.cons (by first | trivial | decide | (simp [SV.bnd, SV.bndL]; done)) rfl ?_)) (by repeat' (first | exact HeapVia.nil | refine HeapVia.cons (by decide) (by first | trivial | (simp [Blk.bnd, SV.bnd, SV.bndL]; done) | exact bndL_mapV _ _ _ | exact LR.bnd (by rw [l2]; simp [bndE, SV.bnd, SV.bndL]) (by rw [l6]; decide)) (by first | rfl | (simp only [Blk.ren, renL_mapV]; rfl) | (rw [LR.ren (by rw [l2] <;> rfl) (by rw [l6] <;> rfl)]; rfl)) ?_)) ⟨by have := hκ.hm; (try dsimp only at this); (first | done | omega), fun i hi => by have := hκ.hm; (try dsimp only at this); (first | omega | (dsimp only; omega) | (rw [if_neg (by omega)]))⟩ ⟨by simp, rfl⟩
          have e10 : ((j : Int) = 10) = False := by first | (simp only [eq_iff_iff, iff_false]; first | assumption | omega) | (simp; omega)
          have c2 := socket_ok t n ht htn
          have c3 := sib_ok t n ht htn
          have c4 := tcpu_ok t n
          rw [qset_g] at c2
          rw [sib_g] at c3
          simp (disch := omega) only [sBuiltin, runR_next, runR_need, runR_fork_false, runR_stop, stepS, runOp, condS, toSR, sop, rOf, sLoadIn, sLoad, sInt, sBin, sFieldAddr, sIndexAddr, sLen, elemT, obind, ev, Env.get, Heap.get, takeN, cut, aggOf, OutOK_need, OutOK_stop, halt, isAt, atC, execA_succ, List.size_toArray, List.length_cons, List.length_nil, List.length_map, List.range, List.range.loop, List.getElem?_toArray, List.getElem?_cons_succ, List.getElem?_cons_zero, ↓reduceIte, Nat.reduceAdd, Nat.reduceLT, Nat.reduceEqDiff, Nat.zero_add, Nat.add_zero, Nat.add_one_ne_zero, Nat.reduceBEq, Int.toNat_natCast, decide_false, Tryd.sz3, Tryd.ag3, Tryd.underlying22, Tryd.sz22, Tryd.ag22, Tryd.fd24f0, Tryd.underlying38, e10, gc]
          (repeat (refine ⟨by first | omega | (refine ⟨?_, ?_⟩ <;> omega) | trivial | (simp; done) | decide +kernel, fun _ => ?_⟩))
          refine Sat.less (Sat.loop (γ := Nat) (fun m => ([(96, I m), (95, I t.length), (94, Ss t), (14, I n), (15, S (gK (okTs t) (fun s => decide (s.1 = n)) t m)), (16, S (gK (okTs t && inN t n) (fun s => decide (s = t.getD n.toNat default)) t m)), (86, I j), (85, I cs.length), (84, Is cs), (9, Bo (okTs t)), (7, .ptr 1 0 0 0), (23, I k), (22, I l.length), (21, Tos l), (0, Tos l), (1, Is cs)], [(1, .own [Ss t] 24)], 3)) (fun m => t.length - m) (fun m => m ≤ t.length) ?inner 0 (Nat.zero_le _)) (by repeat' (first | exact EnvSub.nil _ | exact HeapSub.nil _ | refine EnvSub.cons rfl ?_ | refine HeapSub.cons rfl ?_ | (refine EnvSub.cons (by simp [Env.get]; done) ?_) | (refine HeapSub.cons (by simp [Heap.get]; done) ?_))) (by repeat' (first | exact EnvSub.nil _ | exact HeapSub.nil _ | refine EnvSub.cons rfl ?_ | refine HeapSub.cons rfl ?_ | (refine EnvSub.cons (by simp [Env.get]; done) ?_) | (refine HeapSub.cons (by simp [Heap.get]; done) ?_)))
          case inner =>
            intro m hmt ihm
            dsimp only at hmt ihm ⊢
            refine hκ.runA 29 300 ?_
            simp (disch := omega) only [runR_next, stepS, runOp, condS, toSR, sop, sInt, sBin, ev, Env.get, halt, isAt, atC, execA_succ, List.size_toArray, List.length_cons, List.length_nil, List.range, List.range.loop, List.getElem?_toArray, List.getElem?_cons_zero, ↓reduceIte, Nat.reduceLT, Nat.reduceEqDiff, Nat.zero_add, Nat.reduceBEq, gl0]
            refine OutOK_fork (fun h => ?_) (fun h => ?_) <;> try simp only [Bool.not_true, Bool.not_false, decide_eq_true_eq, decide_eq_false_iff_not, Bool.not_eq_true', Bool.not_eq_false', Bool.and_eq_true, Bool.or_eq_false_iff, Bool.or_eq_true, Bool.and_eq_false_iff] at h
            · have hw := ihm (m + 1) (by omega) (by omega)
              clear ihm
              have gm : (List.map eT t).getD m [] = eT (t.getD m default) := getD_map _ _ _ (by omega)
              rw [gK, gK] at hw
              have hlt1 : okTs t = true → gK (okTs t) (fun s => decide (s.1 = n)) t m < 256 := fun h => by
                have := ho8 h
                rw [h, gK_yes]; exact setK_lt8 _ t (by omega)
              have hlt2 : okTs t = true → gK (okTs t && inN t n) (fun s => decide (s = t.getD n.toNat default)) t m < 256 := fun h => by
                have := ho8 h
                cases hi : inN t n
                · rw [Bool.and_false, gK_no]; decide
                · rw [h, Bool.and_true, gK_yes]; exact setK_lt8 _ t (by omega)
              generalize gK (okTs t) (fun s => decide (s.1 = n)) t m = s1 at hw hlt1 ⊢
              generalize gK (okTs t && inN t n) (fun s => decide (s = t.getD n.toNat default)) t m = s2 at hw hlt2 ⊢
              generalize t.getD m default = s at gm hw
              rw [eT] at gm
              simp (disch := omega) only [runR_next, runR_need, stepS, runOp, toSR, sop, rOf, rNew, sAlloc, sAlloc0, sLoad, sStoreIn, sStore, sIndexAddr, elemT, obind, ev, svs, Env.get, Heap.get, Heap.set, takeN, cut, over, paste, aggOf, cellsS, one, ones, Value.oneCell', OutOK_need, OutOK_stop, undefS, undef, halt, isAt, atC, execA_succ, List.size_toArray, List.length_cons, List.length_nil, List.length_map, List.range, List.range.loop, List.getElem?_toArray, List.getElem?_cons_succ, List.getElem?_cons_zero, List.map_cons, List.map_nil, ↓reduceIte, Nat.reduceAdd, Nat.reduceLT, Nat.reduceEqDiff, Nat.zero_add, Nat.reduceBEq, Int.toNat_natCast, beq_self_eq_true, true_and, and_self, forall_const, Tryd.underlying22, Tryd.sz50, Tryd.ag50, Tryd.ze50, Tryd.ar50, gm]
              (repeat (refine ⟨by first | omega | (refine ⟨?_, ?_⟩ <;> omega) | trivial | (simp; done) | decide +kernel, fun _ => ?_⟩))
              apply Sat.join (α := Unit) (nx := 4) (dfs := []) (fun _ => True) (fun _ => ([(18, .ptr 3 0 0 0), (17, I m), (96, I m), (95, I t.length), (94, Ss t), (14, I n), (15, S (s1 ||| if okTs t = true ∧ decide (s.1 = n) = true then 2 ^ m else 0)), (16, S s2), (86, I j), (85, I cs.length), (84, Is cs), (9, Bo (okTs t)), (7, .ptr 1 0 0 0), (23, I k), (22, I l.length), (21, Tos l), (0, Tos l), (1, Is cs)], [(3, .own [I s.1, I s.2] 50), (1, .own [Ss t] 24)]))
              · intro hj2
                have hj2 := hj2 () trivial
                dsimp only at hj2
                cases ho : okTs t
                · rw [ho, if_neg (fun h => by cases h.1), Nat.or_zero] at hj2
                  refine hκ.runA 31 300 ?_
                  simp (disch := omega) only [runR_next, runR_fork_false, runR_guard_ft, stepS, runOp, guardS, condS, toSR, sop, rOf, sPick, sLoad, sEq, sEqR, sBin, sFieldAddr, ev, Env.get, OutOK_stop, undefS, undef, halt, isAt, atC, execA_succ, List.size_toArray, List.length_cons, List.length_nil, List.range, List.range.loop, List.getElem?_toArray, List.getElem?_cons_succ, List.getElem?_cons_zero, Option.bind_some, ↓reduceIte, Nat.reduceAdd, Nat.reduceLT, Nat.reduceEqDiff, Nat.zero_add, Nat.add_zero, Nat.add_one_ne_zero, Nat.reduceBEq, Bool.not_true, beq_self_eq_true, and_self, gl0, Tryd.fd50f0]
                  exact hj2.less (by repeat' (first | exact EnvSub.nil _ | exact HeapSub.nil _ | refine EnvSub.cons rfl ?_ | refine HeapSub.cons rfl ?_ | (refine EnvSub.cons (by simp [Env.get]; done) ?_) | (refine HeapSub.cons (by simp [Heap.get]; done) ?_))) (by repeat' (first | exact EnvSub.nil _ | exact HeapSub.nil _ | refine EnvSub.cons rfl ?_ | refine HeapSub.cons rfl ?_ | (refine EnvSub.cons (by simp [Env.get]; done) ?_) | (refine HeapSub.cons (by simp [Heap.get]; done) ?_)))
                · have h8 := ho8 ho
                  have hlt := hlt1 ho
                  have hp : 2 ^ m < 256 := pow_lt_256 (by omega)
                  rw [ho] at hj2
                  by_cases es : s.1 = n
                  · rw [if_pos ⟨rfl, decide_eq_true es⟩] at hj2
                    have es2 : (s.1 = n) = True := by first | (simp only [eq_iff_iff, iff_true]; first | assumption | omega) | (simp; omega)
                    refine hκ.runA 31 300 ?_
                    simp (disch := omega) only [runR_next, runR_need, runR_fork_true, runR_guard_tt, stepS, runOp, guardS, condS, toSR, sop, rOf, sPick, sLoadIn, sLoad, sInt, sBin, sFieldAddr, ev, Env.get, Heap.get, takeN, cut, aggOf, OutOK_need, OutOK_stop, undefS, undef, halt, isAt, atC, execA_succ, List.size_toArray, List.length_cons, List.length_nil, List.range, List.range.loop, List.getElem?_toArray, List.getElem?_cons_succ, List.getElem?_cons_zero, Option.bind_some, ↓reduceIte, Nat.reduceAdd, Nat.reduceLT, Nat.reduceEqDiff, Nat.zero_add, Nat.add_zero, Nat.add_one_ne_zero, Nat.reduceBEq, Int.toNat_natCast, Bool.not_true, decide_true, beq_self_eq_true, and_self, shAmt_of, IntKind.bits, gl0, Tryd.sz3, Tryd.ag3, Tryd.fd50f0, es2]
                    refine ⟨by omega, fun _ => ?_⟩
                    rw [pow32 _ (by omega), or32 (by omega) (by omega)]
                    exact hj2.less (by repeat' (first | exact EnvSub.nil _ | exact HeapSub.nil _ | refine EnvSub.cons rfl ?_ | refine HeapSub.cons rfl ?_ | (refine EnvSub.cons (by simp [Env.get]; done) ?_) | (refine HeapSub.cons (by simp [Heap.get]; done) ?_))) (by repeat' (first | exact EnvSub.nil _ | exact HeapSub.nil _ | refine EnvSub.cons rfl ?_ | refine HeapSub.cons rfl ?_ | (refine EnvSub.cons (by simp [Env.get]; done) ?_) | (refine HeapSub.cons (by simp [Heap.get]; done) ?_)))
                  · rw [if_neg (fun h => es (of_decide_eq_true h.2)), Nat.or_zero] at hj2
                    have es2 : (s.1 = n) = False := by first | (simp only [eq_iff_iff, iff_false]; first | assumption | omega) | (simp; omega)
                    refine hκ.runA 31 300 ?_
                    simp (disch := omega) only [runR_next, runR_fork_false, runR_guard_tt, stepS, runOp, guardS, condS, toSR, sop, rOf, sPick, sLoadIn, sLoad, sInt, sBin, sFieldAddr, ev, Env.get, Heap.get, takeN, cut, aggOf, OutOK_stop, undefS, undef, halt, isAt, atC, execA_succ, List.size_toArray, List.length_cons, List.length_nil, List.range, List.range.loop, List.getElem?_toArray, List.getElem?_cons_succ, List.getElem?_cons_zero, Option.bind_some, ↓reduceIte, Nat.reduceAdd, Nat.reduceLT, Nat.reduceEqDiff, Nat.zero_add, Nat.add_zero, Nat.add_one_ne_zero, Nat.reduceBEq, Bool.not_true, decide_false, beq_self_eq_true, and_self, gl0, Tryd.sz3, Tryd.ag3, Tryd.fd50f0, es2]
                    exact hj2.less (by repeat' (first | exact EnvSub.nil _ | exact HeapSub.nil _ | refine EnvSub.cons rfl ?_ | refine HeapSub.cons rfl ?_ | (refine EnvSub.cons (by simp [Env.get]; done) ?_) | (refine HeapSub.cons (by simp [Heap.get]; done) ?_))) (by repeat' (first | exact EnvSub.nil _ | exact HeapSub.nil _ | refine EnvSub.cons rfl ?_ | refine HeapSub.cons rfl ?_ | (refine EnvSub.cons (by simp [Env.get]; done) ?_) | (refine HeapSub.cons (by simp [Heap.get]; done) ?_)))
              intro _ _
              dsimp only
              generalize (s1 ||| if okTs t = true ∧ decide (s.1 = n) = true then 2 ^ m else 0) = s3 at hw ⊢
              cases ho : okTs t
              · rw [ho, Bool.false_and, if_neg (fun h => by cases h.1), Nat.or_zero] at hw
                refine hκ.draw (.q 0 (.q 1 (.q 2 (.q 3 (.l 4 [] (.q 5 (.q 6 (.q 7 (.q 8 (.q 9 (.q 10 (.q 11 (.q 12 (.q 13 (.q 14 (.fin)))))))))))))))) [0, 1, 2, 3, 5, 6, 7, 8, 9, 10, 11, 12, 13, 14] (by kernel_rfl) (by kernel_rfl) rfl ?_
                simp (disch := omega) only [sop, rOf, sPick, ev, Env.get, setO, drawP_fin, drawP_q, drawP_l, dq, dqn, dl, GF.ft, guardP, R1Q, dstOK, again, undefS, undef, List.getElem?_toArray, List.getElem?_cons_succ, List.getElem?_cons_zero, Option.bind_some, ↓reduceIte, Nat.reduceLT, Nat.reduceEqDiff, true_and, gl0]
                refine hκ.run 300 ?_
                simp (disch := omega) only [exec_succ, runR_next, runR_fork_false, runR_stop, stepS, runOp, condS, toSR, sop, rOf, sInt, sBin, ev, Env.get, OutOK_stop, List.size_toArray, List.length_cons, List.length_nil, List.range, List.range.loop, List.getElem?_toArray, List.getElem?_cons_succ, List.getElem?_cons_zero, ↓reduceIte, Nat.reduceAdd, Nat.reduceLT, Nat.reduceEqDiff, Nat.zero_add, wrap_i64, gl0]
                refine Sat.via (fun i => i) (hw) (by intro i j; (repeat (first | omega | split))) (by repeat' (first | exact EnvVia.nil | refine EnvVia.cons (by first | trivial | decide | (simp [SV.bnd, SV.bndL]; done)) rfl ?_)) (by repeat' (first | exact HeapVia.nil | refine HeapVia.cons (by decide) (by first | trivial | (simp [Blk.bnd, SV.bnd, SV.bndL]; done) | exact bndL_mapV _ _ _ | exact LR.bnd (by rw [l2]; simp [bndE, SV.bnd, SV.bndL]) (by rw [l6]; decide)) (by first | rfl | (simp only [Blk.ren, renL_mapV]; rfl) | (rw [LR.ren (by rw [l2] <;> rfl) (by rw [l6] <;> rfl)]; rfl)) ?_)) ⟨by have := hκ.hm; (try dsimp only at this); (first | done | omega), fun i hi => by have := hκ.hm; (try dsimp only at this); (first | omega | (dsimp only; omega) | (rw [if_neg (by omega)]))⟩ ⟨by simp, rfl⟩
              have h8 := ho8 ho
              have hlt := hlt2 ho
              have hp : 2 ^ m < 256 := pow_lt_256 (by omega)
              rw [ho, Bool.true_and] at hw
              cases hi : inN t n
              · rw [hi, if_neg (fun h => by cases h.1), Nat.or_zero] at hw
                rw [hi] at c4
                refine hκ.draw (.q 0 (.q 1 (.q 2 (.q 3 (.l 4 [] (.q 5 (.q 6 (.q 7 (.q 8 (.q 9 (.q 10 (.q 11 (.q 12 (.q 13 (.q 14 (.fin)))))))))))))))) [0, 1, 2, 3, 5, 6, 7, 8, 9, 10, 11, 12, 13, 14] (by kernel_rfl) (by kernel_rfl) rfl ?_
                simp (disch := omega) only [sop, rOf, sLoadIn, sLoad, ev, evs, Env.get, Heap.get, takeN, cut, aggOf, setO, drawP_q, drawP_l, dq, dqn, dl, GF.tt, guardP, R1Q, dstOK, loudP, List.getElem?_toArray, List.getElem?_cons_succ, List.getElem?_cons_zero, Option.bind_some, ↓reduceIte, Nat.reduceLT, Nat.reduceEqDiff, true_and, gl0, Tryd.sz24, Tryd.ag24]
                refine DCall.of (Does.ret hκ.hP hκ.hgl (c4) ⟨trivial, by simp [SV.bnd, SV.bndL], by first | (simp [SV.bnd, SV.bndL]; done) | assumption⟩ ?_)
                simp (disch := omega) only [sop, rOf, sPick, ev, Env.get, setO, drawP_fin, drawP_q, dnext, dq, dqn, GF.ft, guardP, R1Q, dstOK, again, undefS, undef, List.getElem?_toArray, List.getElem?_cons_succ, List.getElem?_cons_zero, Option.bind_some, ↓reduceIte, Nat.reduceLT, Nat.reduceEqDiff, true_and]
                refine hκ.run 300 ?_
                simp (disch := omega) only [exec_succ, runR_next, runR_fork_false, runR_stop, stepS, runOp, condS, toSR, sop, rOf, sInt, sBin, ev, Env.get, OutOK_stop, List.size_toArray, List.length_cons, List.length_nil, List.range, List.range.loop, List.getElem?_toArray, List.getElem?_cons_succ, List.getElem?_cons_zero, ↓reduceIte, Nat.reduceAdd, Nat.reduceLT, Nat.reduceEqDiff, Nat.zero_add, wrap_i64, gl0]
                refine Sat.via (fun i => i) (hw) (by intro i j; (repeat (first | omega | split))) (by repeat' (first | exact EnvVia.nil | refine EnvVia.cons (by first | trivial | decide | (simp [SV.bnd, SV.bndL]; done)) rfl ?_)) (by repeat' (first | exact HeapVia.nil | refine HeapVia.cons (by decide) (by first | trivial | (simp [Blk.bnd, SV.bnd, SV.bndL]; done) | exact bndL_mapV _ _ _ | exact LR.bnd (by rw [l2]; simp [bndE, SV.bnd, SV.bndL]) (by rw [l6]; decide)) (by first | rfl | (simp only [Blk.ren, renL_mapV]; rfl) | (rw [LR.ren (by rw [l2] <;> rfl) (by rw [l6] <;> rfl)]; rfl)) ?_)) ⟨by have := hκ.hm; (try dsimp only at this); (first | done | omega), fun i hi => by have := hκ.hm; (try dsimp only at this); (first | omega | (dsimp only; omega) | (rw [if_neg (by omega)]))⟩ ⟨by simp, rfl⟩
              rw [hi] at c4 hw
              have hin := (inN_iff _ _).1 hi
              have gn : (List.map eT t).getD n.toNat [] = eT (t.getD n.toNat default) := getD_map _ _ _ (by omega)
              generalize t.getD n.toNat default = own at gn hw
              rw [eT] at gn
              have es := seat_eq s own
              by_cases e : s = own
              · rw [if_pos ⟨rfl, decide_eq_true e⟩] at hw
                rw [decide_eq_true e] at es
                refine hκ.draw (.q 0 (.q 1 (.q 2 (.q 3 (.l 4 [] (.q 5 (.q 6 (.q 7 (.q 8 (.q 9 (.q 10 (.q 11 (.q 12 (.q 13 (.q 14 (.fin)))))))))))))))) [0, 1, 2, 3, 5, 6, 7, 8, 9, 10, 11, 12, 13, 14] (by kernel_rfl) (by kernel_rfl) rfl ?_
                simp (disch := omega) only [sop, rOf, sLoadIn, sLoad, ev, evs, Env.get, Heap.get, takeN, cut, aggOf, setO, drawP_q, drawP_l, dq, dqn, dl, GF.tt, guardP, R1Q, dstOK, loudP, List.getElem?_toArray, List.getElem?_cons_succ, List.getElem?_cons_zero, Option.bind_some, ↓reduceIte, Nat.reduceLT, Nat.reduceEqDiff, true_and, gl0, Tryd.sz24, Tryd.ag24]
                refine DCall.of (Does.ret hκ.hP hκ.hgl (c4) ⟨trivial, by simp [SV.bnd, SV.bndL], by first | (simp [SV.bnd, SV.bndL]; done) | assumption⟩ ?_)
                simp (disch := omega) only [sop, rOf, sPick, sLoadIn, sLoad, sEqAgg, aggS, eqCells, sBin, sFieldAddr, sIndexAddr, elemT, obind, ev, Env.get, Heap.get, takeN, cut, aggOf, setO, drawP_fin, drawP_q, dnext, dq, dqn, GF.tt, guardP, R1Q, dstOK, again, Bool.and_true, Bool.false_eq_true, List.length_map, List.getElem?_toArray, List.getElem?_cons_succ, List.getElem?_cons_zero, Option.bind_some, Option.map_some, ↓reduceIte, Nat.reduceLT, Nat.reduceEqDiff, Nat.add_zero, Nat.add_one_ne_zero, true_and, Tryd.underlying22, Tryd.sz22, Tryd.ag22, Tryd.fd24f0, Tryd.sz50, Tryd.ag50, Tryd.eq50, gn, es]
                (repeat (refine ⟨by first | omega | (refine ⟨?_, ?_⟩ <;> omega) | trivial | (simp; done) | decide +kernel, fun _ => ?_⟩))
                refine hκ.run 300 ?_
                simp (disch := omega) only [exec_succ, runR_next, runR_need, runR_fork_true, runR_stop, stepS, runOp, condS, toSR, sop, rOf, sInt, sBin, ev, Env.get, OutOK_need, OutOK_stop, List.size_toArray, List.length_cons, List.length_nil, List.range, List.range.loop, List.getElem?_toArray, List.getElem?_cons_succ, List.getElem?_cons_zero, ↓reduceIte, Nat.reduceAdd, Nat.reduceLT, Nat.reduceEqDiff, Nat.zero_add, Int.toNat_natCast, shAmt_of, IntKind.bits, wrap_i64, gl0]
                refine ⟨by omega, fun _ => ?_⟩
                rw [pow32 _ (by omega), or32 (by omega) (by omega)]
                refine Sat.via (fun i => i) (hw) (by intro i j; (repeat (first | omega | split))) (by repeat' (first | exact EnvVia.nil | refine EnvVia.cons (by first | trivial | decide | (simp [SV.bnd, SV.bndL]; done)) rfl ?_)) (by repeat' (first | exact HeapVia.nil | refine HeapVia.cons (by decide) (by first | trivial | (simp [Blk.bnd, SV.bnd, SV.bndL]; done) | exact bndL_mapV _ _ _ | exact LR.bnd (by rw [l2]; simp [bndE, SV.bnd, SV.bndL]) (by rw [l6]; decide)) (by first | rfl | (simp only [Blk.ren, renL_mapV]; rfl) | (rw [LR.ren (by rw [l2] <;> rfl) (by rw [l6] <;> rfl)]; rfl)) ?_)) ⟨by have := hκ.hm; (try dsimp only at this); (first | done | omega), fun i hi => by have := hκ.hm; (try dsimp only at this); (first | omega | (dsimp only; omega) | (rw [if_neg (by omega)]))⟩ ⟨by simp, rfl⟩
              · rw [if_neg (fun h => e (of_decide_eq_true h.2)), Nat.or_zero] at hw
                rw [decide_eq_false e] at es
                refine hκ.draw (.q 0 (.q 1 (.q 2 (.q 3 (.l 4 [] (.q 5 (.q 6 (.q 7 (.q 8 (.q 9 (.q 10 (.q 11 (.q 12 (.q 13 (.q 14 (.fin)))))))))))))))) [0, 1, 2, 3, 5, 6, 7, 8, 9, 10, 11, 12, 13, 14] (by kernel_rfl) (by kernel_rfl) rfl ?_
                simp (disch := omega) only [sop, rOf, sLoadIn, sLoad, ev, evs, Env.get, Heap.get, takeN, cut, aggOf, setO, drawP_q, drawP_l, dq, dqn, dl, GF.tt, guardP, R1Q, dstOK, loudP, List.getElem?_toArray, List.getElem?_cons_succ, List.getElem?_cons_zero, Option.bind_some, ↓reduceIte, Nat.reduceLT, Nat.reduceEqDiff, true_and, gl0, Tryd.sz24, Tryd.ag24]
                refine DCall.of (Does.ret hκ.hP hκ.hgl (c4) ⟨trivial, by simp [SV.bnd, SV.bndL], by first | (simp [SV.bnd, SV.bndL]; done) | assumption⟩ ?_)
                simp (disch := omega) only [sop, rOf, sPick, sLoadIn, sLoad, sEqAgg, aggS, eqCells, sBin, sFieldAddr, sIndexAddr, elemT, obind, ev, Env.get, Heap.get, takeN, cut, aggOf, setO, drawP_fin, drawP_q, dnext, dq, dqn, GF.tt, guardP, R1Q, dstOK, again, Bool.and_true, Bool.false_eq_true, List.length_map, List.getElem?_toArray, List.getElem?_cons_succ, List.getElem?_cons_zero, Option.bind_some, Option.map_some, ↓reduceIte, Nat.reduceLT, Nat.reduceEqDiff, Nat.add_zero, Nat.add_one_ne_zero, true_and, Tryd.underlying22, Tryd.sz22, Tryd.ag22, Tryd.fd24f0, Tryd.sz50, Tryd.ag50, Tryd.eq50, gn, es]
                (repeat (refine ⟨by first | omega | (refine ⟨?_, ?_⟩ <;> omega) | trivial | (simp; done) | decide +kernel, fun _ => ?_⟩))
                refine hκ.run 300 ?_
                simp (disch := omega) only [exec_succ, runR_next, runR_fork_false, runR_stop, stepS, runOp, condS, toSR, sop, rOf, sInt, sBin, ev, Env.get, OutOK_stop, List.size_toArray, List.length_cons, List.length_nil, List.range, List.range.loop, List.getElem?_toArray, List.getElem?_cons_succ, List.getElem?_cons_zero, ↓reduceIte, Nat.reduceAdd, Nat.reduceLT, Nat.reduceEqDiff, Nat.zero_add, wrap_i64, gl0]
                refine Sat.via (fun i => i) (hw) (by intro i j; (repeat (first | omega | split))) (by repeat' (first | exact EnvVia.nil | refine EnvVia.cons (by first | trivial | decide | (simp [SV.bnd, SV.bndL]; done)) rfl ?_)) (by repeat' (first | exact HeapVia.nil | refine HeapVia.cons (by decide) (by first | trivial | (simp [Blk.bnd, SV.bnd, SV.bndL]; done) | exact bndL_mapV _ _ _ | exact LR.bnd (by rw [l2]; simp [bndE, SV.bnd, SV.bndL]) (by rw [l6]; decide)) (by first | rfl | (simp only [Blk.ren, renL_mapV]; rfl) | (rw [LR.ren (by rw [l2] <;> rfl) (by rw [l6] <;> rfl)]; rfl)) ?_)) ⟨by have := hκ.hm; (try dsimp only at this); (first | done | omega), fun i hi => by have := hκ.hm; (try dsimp only at this); (first | omega | (dsimp only; omega) | (rw [if_neg (by omega)]))⟩ ⟨by simp, rfl⟩
            · simp (disch := omega) only [runR_next, runR_call, stepS, runOp, goS, toSR, sop, rOf, sLoadIn, sLoad, ev, evs, Env.get, Heap.get, takeN, cut, aggOf, exitTo, OutOK_call, halt, isAt, atC, execA_succ, List.size_toArray, List.length_cons, List.length_nil, List.range, List.range.loop, List.getElem?_toArray, List.getElem?_cons_succ, List.getElem?_cons_zero, ↓reduceIte, Nat.reduceAdd, Nat.reduceLT, Nat.reduceEqDiff, Nat.zero_add, Nat.reduceBEq, beq_self_eq_true, Tryd.sz24, Tryd.ag24]
              obtain rfl : m = t.length := by omega
              refine Does.ret hκ.hP hκ.hgl (c2) ⟨trivial, by simp [SV.bnd, SV.bndL], by first | (simp [SV.bnd, SV.bndL]; done) | assumption⟩ ?_
              refine hκ.run 300 ?_
              simp (disch := omega) only [exec_succ, runR_next, runR_guard_ff, runR_call, stepS, runOp, guardS, toSR, sop, rOf, sLoadIn, sLoad, sInt, sBin, ev, evs, Env.get, Heap.get, takeN, cut, aggOf, setO, OutOK_call, undefS, undef, List.getElem?_toArray, List.getElem?_cons_succ, List.getElem?_cons_zero, Option.bind_some, ↓reduceIte, Nat.reduceLT, Nat.reduceEqDiff, Bool.not_true, Bool.not_false, decide_true, and_self, gl0, Tryd.sz24, Tryd.ag24]
              refine Does.ret hκ.hP hκ.hgl (c3) ⟨trivial, by simp [SV.bnd, SV.bndL], by first | (simp [SV.bnd, SV.bndL]; done) | assumption⟩ ?_
              refine hκ.run 300 ?_
              simp (disch := omega) only [exec_succ, runR_next, runR_fork_false, runR_guard_ff, runR_stop, stepS, runOp, guardS, condS, toSR, sop, rOf, sPick, sInt, sBin, ev, Env.get, setO, OutOK_stop, undefS, undef, List.size_toArray, List.length_cons, List.length_nil, List.range, List.range.loop, List.getElem?_toArray, List.getElem?_cons_succ, List.getElem?_cons_zero, Option.bind_some, ↓reduceIte, Nat.reduceAdd, Nat.reduceLT, Nat.reduceEqDiff, Nat.zero_add, Bool.not_true, Bool.not_false, decide_true, and_self, wrap_i64, gl0]
              refine Sat.via (fun i => i) (hy) (by intro i j; (repeat (first | omega | split))) (by repeat' (first | exact EnvVia.nil | refine EnvVia.cons (by first | trivial | decide | (simp [SV.bnd, SV.bndL]; done)) rfl ?_)) (by repeat' (first | exact HeapVia.nil | refine HeapVia.cons (by decide) (by first | trivial | (simp [Blk.bnd, SV.bnd, SV.bndL]; done) | exact bndL_mapV _ _ _ | exact LR.bnd (by rw [l2]; simp [bndE, SV.bnd, SV.bndL]) (by rw [l6]; decide)) (by first | rfl | (simp only [Blk.ren, renL_mapV]; rfl) | (rw [LR.ren (by rw [l2] <;> rfl) (by rw [l6] <;> rfl)]; rfl)) ?_)) ⟨by have := hκ.hm; (try dsimp only at this); (first | done | omega), fun i hi => by have := hκ.hm; (try dsimp only at this); (first | omega | (dsimp only; omega) | (rw [if_neg (by omega)]))⟩ ⟨by simp, rfl⟩
        · simp (disch := omega) only [runR_next, stepS, goS, exitTo, OutOK_stop, halt, isAt, atC, execA_succ, ↓reduceIte, beq_self_eq_true]
          refine hκ.run 300 ?_
          simp (disch := omega) only [exec_succ, runR_next, runR_stop, stepS, runOp, toSR, sop, rOf, sInt, sBin, ev, Env.get, OutOK_stop, List.size_toArray, List.length_cons, List.length_nil, List.range, List.range.loop, List.getElem?_toArray, List.getElem?_cons_succ, List.getElem?_cons_zero, ↓reduceIte, Nat.reduceAdd, Nat.reduceLT, Nat.reduceEqDiff, Nat.zero_add, wrap_i64, gl0]
          refine Sat.via (fun i => i) (hz) (by intro i j; (repeat (first | omega | split))) (by repeat' (first | exact EnvVia.nil | refine EnvVia.cons (by first | trivial | decide | (simp [SV.bnd, SV.bndL]; done)) rfl ?_)) (by repeat' (first | exact HeapVia.nil | refine HeapVia.cons (by decide) (by first | trivial | (simp [Blk.bnd, SV.bnd, SV.bndL]; done) | exact bndL_mapV _ _ _ | exact LR.bnd (by rw [l2]; simp [bndE, SV.bnd, SV.bndL]) (by rw [l6]; decide)) (by first | rfl | (simp only [Blk.ren, renL_mapV]; rfl) | (rw [LR.ren (by rw [l2] <;> rfl) (by rw [l6] <;> rfl)]; rfl)) ?_)) ⟨by have := hκ.hm; (try dsimp only at this); (first | done | omega), fun i hi => by have := hκ.hm; (try dsimp only at this); (first | omega | (dsimp only; omega) | (rw [if_neg (by omega)]))⟩ ⟨by simp, rfl⟩
    · simp (disch := omega) only [runR_next, runR_stop, stepS, runOp, goS, toSR, sop, rOf, ev, exitTo, OutOK_stop, halt, isDraw, drawC, execD_succ, List.size_toArray, List.length_cons, List.length_nil, List.range, List.range.loop, List.getElem?_toArray, List.getElem?_cons_zero, ↓reduceIte, Nat.reduceLT, Nat.zero_add, beq_self_eq_true]
      refine hκ.ret _ _ _ _ _ _ trivial rfl ?_
      rfl
end Go.Proofs.YtbgnnmlhpaaebaaDoor

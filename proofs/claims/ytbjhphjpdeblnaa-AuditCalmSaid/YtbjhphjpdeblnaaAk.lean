/- Watches: the times in which a vCPU waits alone. No condition. -/
import Derived.Test.YtbjhphjpdeblnaaAj
namespace Go.Proofs.Ytbjhphjpdeblnaa
open Go Go.Sy
set_option maxRecDepth 100000
set_option linter.unusedSimpArgs false
set_option linter.unusedVariables false

abbrev Sty := Int × Int
def eT (s : Sty) : List SV := [I s.1, I s.2]
def lastT (acc : List Sty) : Sty := acc.getD (acc.length - 1) default
/-- A time is put at the end. -/
def pushW (acc : List Sty) (a u : Int) : List Sty := if acc.length ≠ 0 ∧ (lastT acc).2 = a then acc.set (acc.length - 1) ((lastT acc).1, u) else acc ++ [(a, u)]
def waitV (l : List Se) (v : Int) : Bool := ((findX l v).map waitB).getD false
def waitsK (ms : List Mo) (en v : Int) : Nat → List Sty
  | 0 => []
  | k + 1 => if waitV (ms.getD k default).2 v = true ∧ ¬ aW ms k = untilW ms en k then pushW (waitsK ms en v k) (aW ms k) (untilW ms en k) else waitsK ms en v k
theorem pushW_len (S : List Sty) (a u : Int) : (pushW S a u).length ≤ S.length + 1 := by
  unfold pushW; split <;> simp
theorem waitsK_len (ms : List Mo) (en v : Int) : ∀ k, (waitsK ms en v k).length ≤ k
  | 0 => Nat.le_refl _
  | k + 1 => by
    have := waitsK_len ms en v k
    have := pushW_len (waitsK ms en v k) (aW ms k) (untilW ms en k)
    rw [waitsK]; split <;> omega
def waitsT (ms : List Mo) (en v : Int) : List Sty := if rightW ms en = true then waitsK ms en v ms.length else []
def waitsE (ms : List Mo) (en : Int) : Int := if rightW ms en = true then 0 else 390
theorem twaits_ok (ms : List Mo) (en v : Int) (hf : ∀ m ∈ ms, inM m) (he : i64 en) (hv : i64 v) (hn : ms.length < 2 ^ 40) : Con Try.prog gl0 (fnv 17) [Wt ms en, I v] 0 [] (Ret (.tup [.rd 2 ((waitsT ms en v).map eT), I (waitsE ms en)])) := by
  have c1 := wcheck_ok ms en hf he hn
  suffices H : Con Try.prog gl0 (fnv 17) [Wt ms en, I v] 0 [] (Ret (if rightW ms en = true then .tup [.rd 2 ((waitsK ms en v ms.length).map eT), I 0] else .tup [.v (.slice none 0 0), I 390])) by
    by_cases h : rightW ms en = true
    · rw [if_pos h] at H; rw [waitsT, waitsE, if_pos h, if_pos h]; exact H
    · rw [if_neg h] at H; rw [waitsT, waitsE, if_neg h, if_neg h]; exact Con.repR (fun _ => Rel.tupMap nil1) H
  refine Con.of Try.ok17 (nt := 69) (res := [.tmp 4, .tmp 5]) Try.mixed Try.func17 rfl rfl rfl rfl fun κ xc hκ => hκ.run 300 ?_
  simp (disch := omega) only [exec_succ, runR_next, runR_call, stepS, runOp, toSR, sop, rOf, rNew, sBox, isArr, sLoadIn, sLoad, ev, evs, svs, Env.get, Heap.get, takeN, cut, aggOf, cellsS, envOf, Value.cells, OutOK_call, Bool.false_eq_true, List.size_toArray, List.length_cons, List.length_nil, List.range, List.range.loop, List.getElem?_toArray, List.getElem?_cons_succ, List.getElem?_cons_zero, List.map_cons, List.map_nil, List.toList_toArray, ↓reduceIte, Nat.reduceAdd, Nat.reduceLT, Nat.reduceEqDiff, Nat.zero_add, Nat.add_one_ne_zero, reduceCtorEq, gl0, Try.sz24, Try.ag24]
  by_cases q1 : rightW ms en = true
  case neg =>
    rw [if_neg q1] at c1 hκ
    refine Does.ret hκ.hP hκ.hgl (c1) ⟨trivial, by simp [SV.bnd, SV.bndL], by first | (simp [SV.bnd, SV.bndL]; done) | assumption⟩ ?_
    refine hκ.run 300 ?_
    simp (disch := omega) only [exec_succ, runR_next, runR_fork_true, runR_stop, stepS, runOp, condS, toSR, sop, rOf, sInt, sBin, ev, Env.get, setO, OutOK_stop, List.size_toArray, List.length_cons, List.length_nil, List.range, List.range.loop, List.getElem?_toArray, List.getElem?_cons_succ, List.getElem?_cons_zero, ↓reduceIte, Nat.reduceAdd, Nat.reduceLT, Nat.reduceEqDiff, Nat.zero_add, Int.reduceEq, Bool.not_false, decide_false, gl0]
    refine hκ.ret _ _ _ _ _ _ trivial rfl ?_
    exact .ret (by simp [SV.bnd, SV.bndL])
  rw [if_pos q1] at c1 hκ
  refine Does.ret hκ.hP hκ.hgl (c1) ⟨trivial, by simp [SV.bnd, SV.bndL], by first | (simp [SV.bnd, SV.bndL]; done) | assumption⟩ ?_
  have hwt := (WT.iff ms en).1 q1
  have hlen := hwt.len
  have hen := hwt.en1
  refine hκ.run 300 ?_
  simp (disch := omega) only [exec_succ, runR_next, runR_fork_false, runR_call, stepS, runOp, condS, toSR, sop, rOf, rNew, sAlloc, sAlloc0, sLoadIn, sLoad, sInt, sBin, ev, evs, svs, Env.get, Heap.get, takeN, cut, aggOf, setO, OutOK_call, List.size_toArray, List.length_cons, List.length_nil, List.range, List.range.loop, List.getElem?_toArray, List.getElem?_cons_succ, List.getElem?_cons_zero, List.map_cons, List.map_nil, ↓reduceIte, Nat.reduceAdd, Nat.reduceLT, Nat.reduceEqDiff, Nat.zero_add, Nat.add_one_ne_zero, Bool.not_true, decide_true, gl0, Try.sz24, Try.ag24, Try.ze41, Try.ar41]
  refine Does.inl hκ.hP hκ.hgl Try.ok28 (nt := 4) (res := [.tmp 2]) Try.mixed Try.func28 rfl rfl rfl rfl fun κ_h2 x_h2 h2 => h2.run 300 ?_
  simp (disch := omega) only [exec_succ, runR_next, runR_stop, stepS, runOp, toSR, sop, rOf, rNew, sBox, isArr, sMakeFunc, ev, evs, Env.get, cellsS, envOf, OutOK_stop, Bool.false_eq_true, List.size_toArray, List.length_cons, List.length_nil, List.range, List.range.loop, List.getElem?_toArray, List.getElem?_cons_succ, List.getElem?_cons_zero, ↓reduceIte, Nat.reduceAdd, Nat.reduceLT, Nat.reduceEqDiff, Nat.zero_add, gl0]
  refine h2.ret _ _ _ _ _ _ trivial rfl ?_
  refine hκ.run 300 ?_
  simp (disch := omega) only [exec_succ, runR_next, runR_stop, stepS, setO, OutOK_stop, dropL, resV, gl0]
  refine hκ.rangeL rfl fun L l1 l2 l3 l4 l5 l6 => ?_
  refine Does.inlc rfl hκ.hgl Try.ok55 (nt := 24) (res := []) Try.mixed Try.func55 rfl rfl rfl rfl fun κ_h4 x_h4 h4 => h4.run 300 ?_
  simp (disch := omega) only [sBuiltin, exec_succ, runR_next, runR_stop, stepS, runOp, toSR, sop, rOf, sLoadIn, sLoad, sFieldAddr, sLen, ev, Env.get, Heap.get, takeN, cut, aggOf, envOf, OutOK_stop, List.size_toArray, List.length_cons, List.length_nil, List.length_map, List.range, List.range.loop, List.getElem?_toArray, List.getElem?_cons_succ, List.getElem?_cons_zero, List.cons_append, List.nil_append, ↓reduceIte, Nat.reduceAdd, Nat.reduceLT, Nat.reduceEqDiff, Nat.zero_add, Nat.add_zero, Nat.add_one_ne_zero, reduceCtorEq, gl0, Try.underlying22, Try.sz22, Try.ag22, Try.fd24f0]
  refine Sat.nilCell 2 2 46 41 [] [] rfl ?_
  simp only [Heap.set, List.nil_append, Nat.reduceEqDiff, ↓reduceIte]
  refine Sat.less (Sat.loop (γ := Nat × Nat) (fun g => ([(8, I g.1), (7, I ms.length), (6, Ms ms), (0, .yl 5), (1, .ptr 3 0 0 0)], [(5, L.blk .ready none), (4, .obj (.deferred (some []))), (3, .own [Ms ms, I en] 24), (6, .row 2 g.2 46 ((waitsK ms en v g.1).map eT)), (2, .own [.sl 6 2 0 (waitsK ms en v g.1).length g.2] 41), (1, .own [I v] 3)], 7)) (fun g => ms.length - g.1) (fun g => g.1 ≤ ms.length) ?round (0, 0) (Nat.zero_le _)) (by repeat' (first | exact EnvSub.nil _ | exact HeapSub.nil _ | refine EnvSub.cons rfl ?_ | refine HeapSub.cons rfl ?_ | (refine EnvSub.cons (by simp [Env.get]; done) ?_) | (refine HeapSub.cons (by simp [Heap.get]; done) ?_))) (by repeat' (first | exact EnvSub.nil _ | exact HeapSub.nil _ | refine EnvSub.cons rfl ?_ | refine HeapSub.cons rfl ?_ | (refine EnvSub.cons (by simp [Env.get]; done) ?_) | (refine HeapSub.cons (by simp [Heap.get]; done) ?_)))
  case round =>
    rintro ⟨k, cap⟩ hk ih
    dsimp only at hk ih ⊢
    refine Sat.room 6 rfl fun hroom => ?_
    rw [List.length_map] at hroom
    have hsl := waitsK_len ms en v k
    refine h4.runA 3 300 ?_
    simp (disch := omega) only [runR_next, stepS, runOp, condS, toSR, sop, sInt, sBin, ev, Env.get, halt, isAt, atC, execA_succ, List.size_toArray, List.length_cons, List.length_nil, List.range, List.range.loop, List.getElem?_toArray, List.getElem?_cons_zero, ↓reduceIte, Nat.reduceLT, Nat.reduceEqDiff, Nat.zero_add, Nat.reduceBEq, gl0]
    refine OutOK_fork (fun h => ?_) (fun h => ?_) <;> try simp only [Bool.not_true, Bool.not_false, decide_eq_true_eq, decide_eq_false_iff_not, Bool.not_eq_true', Bool.not_eq_false', Bool.and_eq_true, Bool.or_eq_false_iff, Bool.or_eq_true, Bool.and_eq_false_iff] at h
    · have hm := hf _ (getD_mem (show k < ms.length by omega))
      have hz := fun cap => ih (k + 1, cap) (by dsimp only; omega) (by dsimp only; omega)
      have hub := hwt.until (k := k) (by omega)
      have c4 := until_ok ms en k hf (by omega) (by omega)
      have c5 := find_ok _ v hm hv
      have hcl := eX_cl ((findX (ms.getD k default).2 v).getD default) (findX (ms.getD k default).2 v).isSome
      dsimp only at hz
      rw [waitsK, waitV] at hz
      generalize waitsK ms en v k = S at hz hroom hsl ⊢
      obtain ⟨⟨a, l⟩, hmm⟩ : ∃ m : Mo, ms.getD k default = m := ⟨_, rfl⟩
      simp only [aW, hmm] at hm hz hub c5 hcl
      generalize untilW ms en k = u at hz hub c4
      have gk0 : (List.map eM ms).getD k [] = eM (a, l) := by rw [← hmm]; exact getD_map _ _ _ (by omega)
      have et : List.take S.length (List.map eT S) = List.map eT S := List.take_of_length_le (by simp)
      simp (disch := omega) only [runR_next, runR_need, stepS, runOp, toSR, sop, rOf, rNew, sAlloc, sAlloc0, sLoad, sStoreIn, sStore, sIndexAddr, elemT, obind, ev, svs, Env.get, Heap.get, Heap.set, takeN, cut, over, paste, aggOf, cellsS, one, ones, Value.oneCell', OutOK_need, OutOK_stop, undefS, undef, halt, isAt, atC, execA_succ, List.size_toArray, List.length_cons, List.length_nil, List.length_map, List.range, List.range.loop, List.getElem?_toArray, List.getElem?_cons_succ, List.getElem?_cons_zero, List.map_cons, List.map_nil, ↓reduceIte, Nat.reduceAdd, Nat.reduceLT, Nat.reduceEqDiff, Nat.zero_add, Nat.reduceBEq, Int.toNat_natCast, beq_self_eq_true, true_and, and_self, forall_const, Try.underlying22, Try.sz27, Try.ag27, Try.ze27, Try.ar27, eM, gk0]
      (repeat (refine ⟨by first | omega | (refine ⟨?_, ?_⟩ <;> omega) | trivial | (simp; done) | decide +kernel, fun _ => ?_⟩))
      refine h4.draw (.q 0 (.q 1 (.q 2 (.q 3 (.q 4 (.q 5 (.l 6 [1, 3] (.q 7 (.l 8 [3, 4] (.q 9 (.fin))))))))))) [0, 1, 2, 3, 4, 5, 7, 9] (by kernel_rfl) (by kernel_rfl) rfl ?_
      simp (disch := omega) only [sop, rOf, sLoadIn, sLoad, sFieldAddr, ev, evs, Env.get, Heap.get, takeN, cut, aggOf, setO, drawP_q, drawP_l, dq, dqn, dl, guardP, R1Q, dstOK, loudP, List.getElem?_toArray, List.getElem?_cons_succ, List.getElem?_cons_zero, ↓reduceIte, Nat.reduceLT, Nat.reduceEqDiff, Nat.add_zero, Nat.add_one_ne_zero, true_and, reduceCtorEq, gl0, Try.sz2, Try.ag2, Try.sz24, Try.ag24, Try.sz27, Try.ag27, Try.fd27f0]
      refine DCall.of (Does.ret h4.hP h4.hgl (c4) ⟨trivial, by simp [SV.bnd, SV.bndL], by first | (simp [SV.bnd, SV.bndL]; done) | assumption⟩ ?_)
      simp (disch := omega) only [sBuild0, sop, rOf, isArr, sLoadIn, sLoad, fillS, evps, sBuild, ev, evs, svs, Env.get, Heap.get, takeN, cut, over, paste, aggOf, cellsS, setO, Value.cells, drawP_q, drawP_l, dnext, dq, dqn, dl, slotR, ag, guardP, R1Q, dstOK, loudP, again, again1, slotIs, R1OK, List.length_cons, List.length_nil, List.getElem?_toArray, List.getElem?_cons_succ, List.getElem?_cons_zero, List.map_cons, List.map_nil, List.toList_toArray, ↓reduceIte, Nat.reduceLT, Nat.reduceEqDiff, Nat.zero_add, true_and, and_self, Try.sz2, Try.ag2, Try.sz27, Try.ag27, Try.ze46, Try.pl46, Try.ar46]
      cases hx : findX l v with
      | none =>
        rw [hx] at c5 hz hcl
        simp only [Option.getD_none, Option.isSome_none, Option.map_none, Bool.false_eq_true, false_and, if_false] at c5 hz hcl
        have hy := hz cap
        refine DCall.of (Does.roundL h4.hP h4.hgl Try.mixed (L := L) rfl l1 l2 l3 l4 l5 rfl rfl fun κ_h5 x_h5 h5 => ?_)
        simp only [bindP]
        refine h5.run 300 ?_
        simp (disch := omega) only [exec_succ, runR_next, runR_need, runR_stop, stepS, runOp, toSR, sop, rNew, sAlloc, sAlloc0, sStoreIn, sStore, ev, svs, Env.get, Heap.get, Heap.set, over, paste, cellsS, one, ones, Value.oneCell', OutOK_need, OutOK_stop, undefS, undef, List.size_toArray, List.length_cons, List.length_nil, List.range, List.range.loop, List.getElem?_toArray, List.getElem?_cons_succ, List.getElem?_cons_zero, List.map_cons, List.map_nil, ↓reduceIte, Nat.reduceAdd, Nat.reduceLT, Nat.reduceEqDiff, Nat.zero_add, true_and, and_self, forall_const, gl0, Try.sz27, Try.ze27, Try.ar27, Try.sz46, Try.ze46, Try.ar46]
        refine h5.beg rfl ?_
        simp only [Heap.set, Nat.reduceEqDiff, ↓reduceIte]
        refine h5.run 300 ?_
        simp (disch := omega) only [exec_succ, runR_next, runR_call, stepS, runOp, toSR, sop, rOf, sLoadIn, sLoad, ev, evs, Env.get, Heap.get, takeN, cut, aggOf, OutOK_call, List.size_toArray, List.length_cons, List.length_nil, List.range, List.range.loop, List.getElem?_toArray, List.getElem?_cons_succ, List.getElem?_cons_zero, ↓reduceIte, Nat.reduceAdd, Nat.reduceLT, Nat.reduceEqDiff, Nat.zero_add, gl0, Try.sz3, Try.ag3, Try.sz27, Try.ag27]
        refine Does.ret h5.hP h5.hgl (c5) ⟨trivial, by simp [SV.bnd, SV.bndL], by first | (simp [SV.bnd, SV.bndL]; done) | assumption⟩ ?_
        refine h5.run 300 ?_
        simp (disch := omega) only [exec_succ, runR_next, runR_need, runR_fork_true, runR_guard_tf, runR_stop, stepS, runOp, guardS, condS, goS, toSR, sop, rOf, rNew, sPick, sAlloc, sAlloc0, sLoadIn, sLoad, sStoreIn, sStore, sEq, sEqR, sBin, sUn, sFieldAddr, sExtract, ev, evs, svs, Env.get, Heap.get, Heap.set, takeN, cut, over, paste, aggOf, cellsS, one, ones, setO, exitTo, Value.oneCell', OutOK_need, OutOK_stop, undefS, undef, List.size_toArray, List.length_cons, List.length_nil, List.range, List.range.loop, List.getElem?_toArray, List.getElem?_cons_succ, List.getElem?_cons_zero, List.map_cons, List.map_nil, Option.bind_some, ↓reduceIte, Nat.reduceAdd, Nat.reduceLT, Nat.reduceEqDiff, Nat.zero_add, Nat.add_zero, Nat.add_one_ne_zero, Bool.not_false, beq_self_eq_true, true_and, and_self, forall_const, gl0, Try.fd46f0, Try.fd46f1, Try.sz65, Try.ag65, Try.ze65, Try.ar65, eX]
        refine h5.fin rfl ?_
        simp only [Heap.set, Nat.reduceEqDiff, ↓reduceIte]
        simp (disch := omega) only [sop, rOf, sLoadIn, sLoad, sUn, ev, Env.get, Heap.get, takeN, cut, aggOf, setO, drawP_fin, drawP_q, dnext, dq, dqn, slotR, ag, guardP, R1Q, dstOK, again, again1, slotIs, R1OK, List.getElem?_toArray, List.getElem?_cons_succ, List.getElem?_cons_zero, ↓reduceIte, Nat.reduceLT, Nat.reduceEqDiff, Bool.not_true, true_and, and_self, reduceCtorEq, Try.sz2, Try.ag2, Try.sz24, Try.ag24]
        refine h4.run 300 ?_
        simp (disch := omega) only [exec_succ, runR_next, runR_fork_false, runR_stop, stepS, runOp, condS, toSR, sop, rOf, sInt, sBin, ev, Env.get, OutOK_stop, List.size_toArray, List.length_cons, List.length_nil, List.range, List.range.loop, List.getElem?_toArray, List.getElem?_cons_succ, List.getElem?_cons_zero, ↓reduceIte, Nat.reduceAdd, Nat.reduceLT, Nat.reduceEqDiff, Nat.zero_add, wrap_i64, gl0]
        refine Sat.via (fun i => i) (hy) (by intro i j; (repeat (first | omega | split))) (by repeat' (first | exact EnvVia.nil | refine EnvVia.cons (by first | trivial | decide | (simp [SV.bnd, SV.bndL]; done)) rfl ?_)) (by repeat' (first | exact HeapVia.nil | refine HeapVia.cons (by decide) (by first | trivial | (simp [Blk.bnd, SV.bnd, SV.bndL]; done) | exact bndL_mapV _ _ _ | exact LR.bnd (by rw [l2]; simp [bndE, SV.bnd, SV.bndL]) (by rw [l6]; decide)) (by first | rfl | (simp only [Blk.ren, renL_mapV]; rfl) | (rw [LR.ren (by rw [l2] <;> rfl) (by rw [l6] <;> rfl)]; rfl)) ?_)) ⟨by have := h4.hm; (try dsimp only at this); (first | done | omega), fun i hi => by have := h4.hm; (try dsimp only at this); (first | omega | (dsimp only; omega) | (rw [if_neg (by omega)]))⟩ ⟨by simp, rfl⟩
      | some x =>
        rw [hx] at c5 hz hcl
        simp only [Option.getD_some, Option.isSome_some, Option.map_some] at c5 hz hcl
        have c6 := waits_ok x
        cases hw : waitB x
        · rw [hw] at c6
          simp only [hw, Bool.false_eq_true, false_and, if_false] at hz
          have hy := hz cap
          refine DCall.of (Does.roundL h4.hP h4.hgl Try.mixed (L := L) rfl l1 l2 l3 l4 l5 rfl rfl fun κ_h5 x_h5 h5 => ?_)
          simp only [bindP]
          refine h5.run 300 ?_
          simp (disch := omega) only [exec_succ, runR_next, runR_need, runR_stop, stepS, runOp, toSR, sop, rNew, sAlloc, sAlloc0, sStoreIn, sStore, ev, svs, Env.get, Heap.get, Heap.set, over, paste, cellsS, one, ones, Value.oneCell', OutOK_need, OutOK_stop, undefS, undef, List.size_toArray, List.length_cons, List.length_nil, List.range, List.range.loop, List.getElem?_toArray, List.getElem?_cons_succ, List.getElem?_cons_zero, List.map_cons, List.map_nil, ↓reduceIte, Nat.reduceAdd, Nat.reduceLT, Nat.reduceEqDiff, Nat.zero_add, true_and, and_self, forall_const, gl0, Try.sz27, Try.ze27, Try.ar27, Try.sz46, Try.ze46, Try.ar46]
          refine h5.beg rfl ?_
          simp only [Heap.set, Nat.reduceEqDiff, ↓reduceIte]
          refine h5.run 300 ?_
          simp (disch := omega) only [exec_succ, runR_next, runR_call, stepS, runOp, toSR, sop, rOf, sLoadIn, sLoad, ev, evs, Env.get, Heap.get, takeN, cut, aggOf, OutOK_call, List.size_toArray, List.length_cons, List.length_nil, List.range, List.range.loop, List.getElem?_toArray, List.getElem?_cons_succ, List.getElem?_cons_zero, ↓reduceIte, Nat.reduceAdd, Nat.reduceLT, Nat.reduceEqDiff, Nat.zero_add, gl0, Try.sz3, Try.ag3, Try.sz27, Try.ag27]
          refine Does.ret h5.hP h5.hgl (c5) ⟨trivial, by simp [SV.bnd, SV.bndL], by first | (simp [SV.bnd, SV.bndL]; done) | assumption⟩ ?_
          refine h5.run 300 ?_
          simp (disch := omega) only [exec_succ, runR_next, runR_need, runR_guard_ff, runR_call, stepS, runOp, guardS, toSR, sop, rOf, rNew, sAlloc, sAlloc0, sLoadIn, sLoad, sStoreIn, sStore, sUn, sExtract, ev, evs, svs, Env.get, Heap.get, Heap.set, takeN, cut, over, paste, aggOf, cellsS, one, ones, setO, Value.oneCell', OutOK_need, OutOK_call, undefS, undef, List.size_toArray, List.length_cons, List.length_nil, List.range, List.range.loop, List.getElem?_toArray, List.getElem?_cons_succ, List.getElem?_cons_zero, List.map_cons, List.map_nil, Option.bind_some, ↓reduceIte, Nat.reduceAdd, Nat.reduceLT, Nat.reduceEqDiff, Nat.zero_add, Bool.not_true, Bool.not_false, true_and, and_self, forall_const, gl0, Try.sz65, Try.ag65, Try.ze65, Try.ar65, eX]
          refine Does.ret h5.hP h5.hgl (c6) ⟨trivial, by simp [SV.bnd, SV.bndL], by first | (simp [SV.bnd, SV.bndL]; done) | assumption⟩ ?_
          refine h5.run 300 ?_
          simp (disch := omega) only [exec_succ, runR_next, runR_fork_true, runR_guard_ff, runR_guard_tf, runR_stop, stepS, runOp, guardS, condS, goS, toSR, sop, rOf, sPick, sLoad, sEq, sEqR, sBin, sUn, sFieldAddr, ev, Env.get, setO, exitTo, OutOK_stop, undefS, undef, List.getElem?_toArray, List.getElem?_cons_succ, List.getElem?_cons_zero, Option.bind_some, ↓reduceIte, Nat.reduceLT, Nat.reduceEqDiff, Nat.zero_add, Nat.add_zero, Nat.add_one_ne_zero, Bool.not_false, beq_self_eq_true, and_self, gl0, Try.fd46f0, Try.fd46f1]
          refine h5.fin rfl ?_
          simp only [Heap.set, Nat.reduceEqDiff, ↓reduceIte]
          simp (disch := omega) only [sop, rOf, sLoadIn, sLoad, sUn, ev, Env.get, Heap.get, takeN, cut, aggOf, setO, drawP_fin, drawP_q, dnext, dq, dqn, slotR, ag, guardP, R1Q, dstOK, again, again1, slotIs, R1OK, List.getElem?_toArray, List.getElem?_cons_succ, List.getElem?_cons_zero, ↓reduceIte, Nat.reduceLT, Nat.reduceEqDiff, Bool.not_true, true_and, and_self, reduceCtorEq, Try.sz2, Try.ag2, Try.sz24, Try.ag24]
          refine h4.run 300 ?_
          simp (disch := omega) only [exec_succ, runR_next, runR_fork_false, runR_stop, stepS, runOp, condS, toSR, sop, rOf, sInt, sBin, ev, Env.get, OutOK_stop, List.size_toArray, List.length_cons, List.length_nil, List.range, List.range.loop, List.getElem?_toArray, List.getElem?_cons_succ, List.getElem?_cons_zero, ↓reduceIte, Nat.reduceAdd, Nat.reduceLT, Nat.reduceEqDiff, Nat.zero_add, wrap_i64, gl0]
          refine Sat.via (fun i => i) (hy) (by intro i j; (repeat (first | omega | split))) (by repeat' (first | exact EnvVia.nil | refine EnvVia.cons (by first | trivial | decide | (simp [SV.bnd, SV.bndL]; done)) rfl ?_)) (by repeat' (first | exact HeapVia.nil | refine HeapVia.cons (by decide) (by first | trivial | (simp [Blk.bnd, SV.bnd, SV.bndL]; done) | exact bndL_mapV _ _ _ | exact LR.bnd (by rw [l2]; simp [bndE, SV.bnd, SV.bndL]) (by rw [l6]; decide)) (by first | rfl | (simp only [Blk.ren, renL_mapV]; rfl) | (rw [LR.ren (by rw [l2] <;> rfl) (by rw [l6] <;> rfl)]; rfl)) ?_)) ⟨by have := h4.hm; (try dsimp only at this); (first | done | omega), fun i hi => by have := h4.hm; (try dsimp only at this); (first | omega | (dsimp only; omega) | (rw [if_neg (by omega)]))⟩ ⟨by simp, rfl⟩
        rw [hw] at c6
        simp only [hw, true_and] at hz
        by_cases e2 : a = u
        · rw [if_neg (fun h => h e2)] at hz
          have hy := hz cap
          have e2t : (a = u) = True := by first | (simp only [eq_iff_iff, iff_true]; first | assumption | omega) | (simp; omega)
          refine DCall.of (Does.roundL h4.hP h4.hgl Try.mixed (L := L) rfl l1 l2 l3 l4 l5 rfl rfl fun κ_h5 x_h5 h5 => ?_)
          simp only [bindP]
          refine h5.run 300 ?_
          simp (disch := omega) only [exec_succ, runR_next, runR_need, runR_stop, stepS, runOp, toSR, sop, rNew, sAlloc, sAlloc0, sStoreIn, sStore, ev, svs, Env.get, Heap.get, Heap.set, over, paste, cellsS, one, ones, Value.oneCell', OutOK_need, OutOK_stop, undefS, undef, List.size_toArray, List.length_cons, List.length_nil, List.range, List.range.loop, List.getElem?_toArray, List.getElem?_cons_succ, List.getElem?_cons_zero, List.map_cons, List.map_nil, ↓reduceIte, Nat.reduceAdd, Nat.reduceLT, Nat.reduceEqDiff, Nat.zero_add, true_and, and_self, forall_const, gl0, Try.sz27, Try.ze27, Try.ar27, Try.sz46, Try.ze46, Try.ar46]
          refine h5.beg rfl ?_
          simp only [Heap.set, Nat.reduceEqDiff, ↓reduceIte]
          refine h5.run 300 ?_
          simp (disch := omega) only [exec_succ, runR_next, runR_call, stepS, runOp, toSR, sop, rOf, sLoadIn, sLoad, ev, evs, Env.get, Heap.get, takeN, cut, aggOf, OutOK_call, List.size_toArray, List.length_cons, List.length_nil, List.range, List.range.loop, List.getElem?_toArray, List.getElem?_cons_succ, List.getElem?_cons_zero, ↓reduceIte, Nat.reduceAdd, Nat.reduceLT, Nat.reduceEqDiff, Nat.zero_add, gl0, Try.sz3, Try.ag3, Try.sz27, Try.ag27]
          refine Does.ret h5.hP h5.hgl (c5) ⟨trivial, by simp [SV.bnd, SV.bndL], by first | (simp [SV.bnd, SV.bndL]; done) | assumption⟩ ?_
          refine h5.run 300 ?_
          simp (disch := omega) only [exec_succ, runR_next, runR_need, runR_guard_ff, runR_call, stepS, runOp, guardS, toSR, sop, rOf, rNew, sAlloc, sAlloc0, sLoadIn, sLoad, sStoreIn, sStore, sUn, sExtract, ev, evs, svs, Env.get, Heap.get, Heap.set, takeN, cut, over, paste, aggOf, cellsS, one, ones, setO, Value.oneCell', OutOK_need, OutOK_call, undefS, undef, List.size_toArray, List.length_cons, List.length_nil, List.range, List.range.loop, List.getElem?_toArray, List.getElem?_cons_succ, List.getElem?_cons_zero, List.map_cons, List.map_nil, Option.bind_some, ↓reduceIte, Nat.reduceAdd, Nat.reduceLT, Nat.reduceEqDiff, Nat.zero_add, Bool.not_true, Bool.not_false, true_and, and_self, forall_const, gl0, Try.sz65, Try.ag65, Try.ze65, Try.ar65, eX]
          refine Does.ret h5.hP h5.hgl (c6) ⟨trivial, by simp [SV.bnd, SV.bndL], by first | (simp [SV.bnd, SV.bndL]; done) | assumption⟩ ?_
          refine h5.run 300 ?_
          simp (disch := omega) only [exec_succ, runR_next, runR_fork_true, runR_guard_ff, runR_stop, stepS, runOp, guardS, condS, goS, toSR, sop, rOf, sPick, sLoadIn, sLoad, sInt, sBin, sUn, sFieldAddr, ev, Env.get, Heap.get, takeN, cut, aggOf, setO, exitTo, OutOK_stop, undefS, undef, List.getElem?_toArray, List.getElem?_cons_succ, List.getElem?_cons_zero, Option.bind_some, ↓reduceIte, Nat.reduceLT, Nat.reduceEqDiff, Nat.zero_add, Nat.add_zero, Nat.add_one_ne_zero, Bool.not_true, Bool.not_false, decide_true, beq_self_eq_true, and_self, gl0, Try.sz2, Try.ag2, Try.fd46f0, Try.fd46f1, e2t]
          refine h5.fin rfl ?_
          simp only [Heap.set, Nat.reduceEqDiff, ↓reduceIte]
          simp (disch := omega) only [sop, rOf, sLoadIn, sLoad, sUn, ev, Env.get, Heap.get, takeN, cut, aggOf, setO, drawP_fin, drawP_q, dnext, dq, dqn, slotR, ag, guardP, R1Q, dstOK, again, again1, slotIs, R1OK, List.getElem?_toArray, List.getElem?_cons_succ, List.getElem?_cons_zero, ↓reduceIte, Nat.reduceLT, Nat.reduceEqDiff, Bool.not_true, true_and, and_self, reduceCtorEq, Try.sz2, Try.ag2, Try.sz24, Try.ag24]
          refine h4.run 300 ?_
          simp (disch := omega) only [exec_succ, runR_next, runR_fork_false, runR_stop, stepS, runOp, condS, toSR, sop, rOf, sInt, sBin, ev, Env.get, OutOK_stop, List.size_toArray, List.length_cons, List.length_nil, List.range, List.range.loop, List.getElem?_toArray, List.getElem?_cons_succ, List.getElem?_cons_zero, ↓reduceIte, Nat.reduceAdd, Nat.reduceLT, Nat.reduceEqDiff, Nat.zero_add, wrap_i64, gl0]
          refine Sat.via (fun i => i) (hy) (by intro i j; (repeat (first | omega | split))) (by repeat' (first | exact EnvVia.nil | refine EnvVia.cons (by first | trivial | decide | (simp [SV.bnd, SV.bndL]; done)) rfl ?_)) (by repeat' (first | exact HeapVia.nil | refine HeapVia.cons (by decide) (by first | trivial | (simp [Blk.bnd, SV.bnd, SV.bndL]; done) | exact bndL_mapV _ _ _ | exact LR.bnd (by rw [l2]; simp [bndE, SV.bnd, SV.bndL]) (by rw [l6]; decide)) (by first | rfl | (simp only [Blk.ren, renL_mapV]; rfl) | (rw [LR.ren (by rw [l2] <;> rfl) (by rw [l6] <;> rfl)]; rfl)) ?_)) ⟨by have := h4.hm; (try dsimp only at this); (first | done | omega), fun i hi => by have := h4.hm; (try dsimp only at this); (first | omega | (dsimp only; omega) | (rw [if_neg (by omega)]))⟩ ⟨by simp, rfl⟩
        rw [if_pos e2] at hz
        by_cases e3 : S.length = 0
        · have ep : pushW S a u = S ++ [(a, u)] := by rw [pushW, if_neg (fun h => h.1 e3)]
          rw [ep] at hz
          have e3t : ((0 : Int) < (S.length : Int)) = False := by first | (simp only [eq_iff_iff, iff_false]; first | assumption | omega) | (simp; omega)
          refine DCall.of (Does.roundL h4.hP h4.hgl Try.mixed (L := L) rfl l1 l2 l3 l4 l5 rfl rfl fun κ_h5 x_h5 h5 => ?_)
          simp only [bindP]
          refine h5.run 300 ?_
          simp (disch := omega) only [exec_succ, runR_next, runR_need, runR_stop, stepS, runOp, toSR, sop, rNew, sAlloc, sAlloc0, sStoreIn, sStore, ev, svs, Env.get, Heap.get, Heap.set, over, paste, cellsS, one, ones, Value.oneCell', OutOK_need, OutOK_stop, undefS, undef, List.size_toArray, List.length_cons, List.length_nil, List.range, List.range.loop, List.getElem?_toArray, List.getElem?_cons_succ, List.getElem?_cons_zero, List.map_cons, List.map_nil, ↓reduceIte, Nat.reduceAdd, Nat.reduceLT, Nat.reduceEqDiff, Nat.zero_add, true_and, and_self, forall_const, gl0, Try.sz27, Try.ze27, Try.ar27, Try.sz46, Try.ze46, Try.ar46]
          refine h5.beg rfl ?_
          simp only [Heap.set, Nat.reduceEqDiff, ↓reduceIte]
          refine h5.run 300 ?_
          simp (disch := omega) only [exec_succ, runR_next, runR_call, stepS, runOp, toSR, sop, rOf, sLoadIn, sLoad, ev, evs, Env.get, Heap.get, takeN, cut, aggOf, OutOK_call, List.size_toArray, List.length_cons, List.length_nil, List.range, List.range.loop, List.getElem?_toArray, List.getElem?_cons_succ, List.getElem?_cons_zero, ↓reduceIte, Nat.reduceAdd, Nat.reduceLT, Nat.reduceEqDiff, Nat.zero_add, gl0, Try.sz3, Try.ag3, Try.sz27, Try.ag27]
          refine Does.ret h5.hP h5.hgl (c5) ⟨trivial, by simp [SV.bnd, SV.bndL], by first | (simp [SV.bnd, SV.bndL]; done) | assumption⟩ ?_
          refine h5.run 300 ?_
          simp (disch := omega) only [exec_succ, runR_next, runR_need, runR_guard_ff, runR_call, stepS, runOp, guardS, toSR, sop, rOf, rNew, sAlloc, sAlloc0, sLoadIn, sLoad, sStoreIn, sStore, sUn, sExtract, ev, evs, svs, Env.get, Heap.get, Heap.set, takeN, cut, over, paste, aggOf, cellsS, one, ones, setO, Value.oneCell', OutOK_need, OutOK_call, undefS, undef, List.size_toArray, List.length_cons, List.length_nil, List.range, List.range.loop, List.getElem?_toArray, List.getElem?_cons_succ, List.getElem?_cons_zero, List.map_cons, List.map_nil, Option.bind_some, ↓reduceIte, Nat.reduceAdd, Nat.reduceLT, Nat.reduceEqDiff, Nat.zero_add, Bool.not_true, Bool.not_false, true_and, and_self, forall_const, gl0, Try.sz65, Try.ag65, Try.ze65, Try.ar65, eX]
          refine Does.ret h5.hP h5.hgl (c6) ⟨trivial, by simp [SV.bnd, SV.bndL], by first | (simp [SV.bnd, SV.bndL]; done) | assumption⟩ ?_
          refine h5.runD 300 ?_
          simp (disch := omega) only [sBuiltin, runR_next, runR_fork_false, runR_guard_ff, stepS, runOp, guardS, condS, toSR, sop, rOf, sPick, sLoadIn, sLoad, sInt, sBin, sUn, sFieldAddr, sLen, ev, Env.get, Heap.get, takeN, cut, aggOf, setO, OutOK_stop, undefS, undef, halt, isDraw, drawC, execD_succ, List.size_toArray, List.length_cons, List.length_nil, List.range, List.range.loop, List.getElem?_toArray, List.getElem?_cons_succ, List.getElem?_cons_zero, Option.bind_some, ↓reduceIte, Nat.reduceAdd, Nat.reduceLT, Nat.reduceEqDiff, Nat.zero_add, Nat.add_zero, Nat.add_one_ne_zero, Bool.not_true, Bool.not_false, decide_false, and_self, gl0, Try.sz2, Try.ag2, Try.underlying41, Try.sz41, Try.ag41, Try.fd46f0, Try.fd46f1, e2]
          refine h5.draw (.q 0 (.q 1 (.q 2 (.q 3 (.q 4 (.q 5 (.q 6 (.q 7 (.q 8 (.q 9 (.q 10 (.q 11 (.q 12 (.fin)))))))))))))) [0, 1, 2, 3, 4, 5, 6, 7, 8, 9, 10, 11, 12] (by kernel_rfl) (by kernel_rfl) rfl ?_
          simp (disch := omega) only [sop, rOf, sPick, sInt, sBin, ev, Env.get, setO, drawP_fin, drawP_q, dq, dqn, GF.ft, guardP, R1Q, dstOK, undefS, undef, List.getElem?_toArray, List.getElem?_cons_succ, List.getElem?_cons_zero, Option.bind_some, ↓reduceIte, Nat.reduceLT, Nat.reduceEqDiff, decide_false, true_and, gl0, e3t]
          refine h5.run 300 ?_
          simp (disch := omega) only [sBuiltin, srcS, appArgS, sAppendTo, sAppend, exec_succ, runR_next, runR_need, runR_all, runR_fork_false, runR_stop, stepS, runOp, condS, toSR, sop, rOf, rNew, isArr, sLoadIn, sLoad, sStoreIn, sStore, sliceT, obind, fillS, evps, repeatL, sBuildSlice, chunk, ev, svs, Env.get, Heap.get, Heap.set, Heap.drop, takeN, cut, over, paste, aggOf, cellsS, one, ones, idFree, idFrees, Value.oneCell', OutOK_need, OutOK_all, OutOK_stop, undefS, undef, Bool.and_true, List.drop_zero, List.take_succ_cons, List.take_nil, List.size_toArray, List.length_cons, List.length_nil, List.length_map, List.range, List.range.loop, List.getElem?_toArray, List.getElem?_cons_succ, List.getElem?_cons_zero, List.map_cons, List.map_nil, List.append_nil, ↓reduceIte, Nat.reduceAdd, Nat.reduceLT, Nat.reduceLeDiff, Nat.reduceEqDiff, Nat.zero_add, Nat.zero_mul, Nat.one_mul, Nat.add_one_ne_zero, ne_eq, not_false_eq_true, true_and, and_self, forall_const, gl0, Try.underlying41, Try.sz41, Try.ag41, Try.sz46, Try.ag46, Try.ze46, Try.by46]
          (repeat (refine ⟨by first | omega | (refine ⟨?_, ?_⟩ <;> omega) | trivial | (simp; done) | decide +kernel, fun _ => ?_⟩))
          intro c
          have hy := hz (S.length + 1 + c)
          simp only [List.length_append, List.length_cons, List.length_nil, List.length_singleton, List.length_map, List.length_set, List.length_replicate, Nat.zero_add, Nat.add_zero, Int.natCast_add, Int.natCast_one, Int.ofNat_eq_natCast, List.map_append, List.map_cons, List.map_nil, List.take_length, eI, eB] at hy ⊢
          rw [et]
          refine h5.fin rfl ?_
          simp only [Heap.set, Nat.reduceEqDiff, ↓reduceIte]
          simp (disch := omega) only [sop, rOf, sLoadIn, sLoad, sUn, ev, Env.get, Heap.get, takeN, cut, aggOf, setO, drawP_fin, drawP_q, dnext, dq, dqn, slotR, ag, guardP, R1Q, dstOK, again, again1, slotIs, R1OK, List.getElem?_toArray, List.getElem?_cons_succ, List.getElem?_cons_zero, ↓reduceIte, Nat.reduceLT, Nat.reduceEqDiff, Bool.not_true, true_and, and_self, reduceCtorEq, Try.sz2, Try.ag2, Try.sz24, Try.ag24]
          refine h4.run 300 ?_
          simp (disch := omega) only [exec_succ, runR_next, runR_fork_false, runR_stop, stepS, runOp, condS, toSR, sop, rOf, sInt, sBin, ev, Env.get, OutOK_stop, List.size_toArray, List.length_cons, List.length_nil, List.range, List.range.loop, List.getElem?_toArray, List.getElem?_cons_succ, List.getElem?_cons_zero, ↓reduceIte, Nat.reduceAdd, Nat.reduceLT, Nat.reduceEqDiff, Nat.zero_add, wrap_i64, gl0]
          refine Sat.via (fun i => if i = 6 then 12 else i) (hy) (by intro i j; (repeat (first | omega | split))) (by repeat' (first | exact EnvVia.nil | refine EnvVia.cons (by first | trivial | decide | (simp [SV.bnd, SV.bndL]; done)) rfl ?_)) (by repeat' (first | exact HeapVia.nil | refine HeapVia.cons (by decide) (by first | trivial | (simp [Blk.bnd, SV.bnd, SV.bndL]; done) | exact bndL_mapV _ _ _ | exact LR.bnd (by rw [l2]; simp [bndE, SV.bnd, SV.bndL]) (by rw [l6]; decide)) (by first | rfl | (simp only [Blk.ren, renL_mapV]; rfl) | (rw [LR.ren (by rw [l2] <;> rfl) (by rw [l6] <;> rfl)]; rfl)) ?_)) ⟨by have := h4.hm; (try dsimp only at this); (first | done | omega), fun i hi => by have := h4.hm; (try dsimp only at this); (first | omega | (dsimp only; omega) | (rw [if_neg (by omega)]))⟩ ⟨by simp, rfl⟩
        have hS1 : (S.length : Int) - 1 = ((S.length - 1 : Nat) : Int) := by omega
        have gk : (List.map eT S).getD (S.length - 1) [] = eT (lastT S) := getD_map _ _ _ (by omega)
        have e3t : ((0 : Int) < (S.length : Int)) = True := by first | (simp only [eq_iff_iff, iff_true]; first | assumption | omega) | (simp; omega)
        by_cases e4 : (lastT S).2 = a
        · have ep : pushW S a u = S.set (S.length - 1) ((lastT S).1, u) := by rw [pushW, if_pos ⟨e3, e4⟩]
          rw [ep] at hz
          have e4t : ((lastT S).2 = a) = True := by first | (simp only [eq_iff_iff, iff_true]; first | assumption | omega) | (simp; omega)
          refine DCall.of (Does.roundL h4.hP h4.hgl Try.mixed (L := L) rfl l1 l2 l3 l4 l5 rfl rfl fun κ_h5 x_h5 h5 => ?_)
          simp only [bindP]
          refine h5.run 300 ?_
          simp (disch := omega) only [exec_succ, runR_next, runR_need, runR_stop, stepS, runOp, toSR, sop, rNew, sAlloc, sAlloc0, sStoreIn, sStore, ev, svs, Env.get, Heap.get, Heap.set, over, paste, cellsS, one, ones, Value.oneCell', OutOK_need, OutOK_stop, undefS, undef, List.size_toArray, List.length_cons, List.length_nil, List.range, List.range.loop, List.getElem?_toArray, List.getElem?_cons_succ, List.getElem?_cons_zero, List.map_cons, List.map_nil, ↓reduceIte, Nat.reduceAdd, Nat.reduceLT, Nat.reduceEqDiff, Nat.zero_add, true_and, and_self, forall_const, gl0, Try.sz27, Try.ze27, Try.ar27, Try.sz46, Try.ze46, Try.ar46]
          refine h5.beg rfl ?_
          simp only [Heap.set, Nat.reduceEqDiff, ↓reduceIte]
          refine h5.run 300 ?_
          simp (disch := omega) only [exec_succ, runR_next, runR_call, stepS, runOp, toSR, sop, rOf, sLoadIn, sLoad, ev, evs, Env.get, Heap.get, takeN, cut, aggOf, OutOK_call, List.size_toArray, List.length_cons, List.length_nil, List.range, List.range.loop, List.getElem?_toArray, List.getElem?_cons_succ, List.getElem?_cons_zero, ↓reduceIte, Nat.reduceAdd, Nat.reduceLT, Nat.reduceEqDiff, Nat.zero_add, gl0, Try.sz3, Try.ag3, Try.sz27, Try.ag27]
          refine Does.ret h5.hP h5.hgl (c5) ⟨trivial, by simp [SV.bnd, SV.bndL], by first | (simp [SV.bnd, SV.bndL]; done) | assumption⟩ ?_
          refine h5.run 300 ?_
          simp (disch := omega) only [exec_succ, runR_next, runR_need, runR_guard_ff, runR_call, stepS, runOp, guardS, toSR, sop, rOf, rNew, sAlloc, sAlloc0, sLoadIn, sLoad, sStoreIn, sStore, sUn, sExtract, ev, evs, svs, Env.get, Heap.get, Heap.set, takeN, cut, over, paste, aggOf, cellsS, one, ones, setO, Value.oneCell', OutOK_need, OutOK_call, undefS, undef, List.size_toArray, List.length_cons, List.length_nil, List.range, List.range.loop, List.getElem?_toArray, List.getElem?_cons_succ, List.getElem?_cons_zero, List.map_cons, List.map_nil, Option.bind_some, ↓reduceIte, Nat.reduceAdd, Nat.reduceLT, Nat.reduceEqDiff, Nat.zero_add, Bool.not_true, Bool.not_false, true_and, and_self, forall_const, gl0, Try.sz65, Try.ag65, Try.ze65, Try.ar65, eX]
          refine Does.ret h5.hP h5.hgl (c6) ⟨trivial, by simp [SV.bnd, SV.bndL], by first | (simp [SV.bnd, SV.bndL]; done) | assumption⟩ ?_
          refine h5.runD 300 ?_
          simp (disch := omega) only [sBuiltin, runR_next, runR_fork_false, runR_guard_ff, stepS, runOp, guardS, condS, toSR, sop, rOf, sPick, sLoadIn, sLoad, sInt, sBin, sUn, sFieldAddr, sLen, ev, Env.get, Heap.get, takeN, cut, aggOf, setO, OutOK_stop, undefS, undef, halt, isDraw, drawC, execD_succ, List.size_toArray, List.length_cons, List.length_nil, List.range, List.range.loop, List.getElem?_toArray, List.getElem?_cons_succ, List.getElem?_cons_zero, Option.bind_some, ↓reduceIte, Nat.reduceAdd, Nat.reduceLT, Nat.reduceEqDiff, Nat.zero_add, Nat.add_zero, Nat.add_one_ne_zero, Bool.not_true, Bool.not_false, decide_false, and_self, gl0, Try.sz2, Try.ag2, Try.underlying41, Try.sz41, Try.ag41, Try.fd46f0, Try.fd46f1, e2]
          refine h5.draw (.q 0 (.q 1 (.q 2 (.q 3 (.q 4 (.q 5 (.q 6 (.q 7 (.q 8 (.q 9 (.q 10 (.q 11 (.q 12 (.fin)))))))))))))) [0, 1, 2, 3, 4, 5, 6, 7, 8, 9, 10, 11, 12] (by kernel_rfl) (by kernel_rfl) rfl ?_
          simp (disch := omega) only [sop, rOf, sPick, sLoadIn, sLoad, sInt, sBin, sFieldAddr, sIndexAddr, elemT, obind, ev, Env.get, Heap.get, takeN, cut, aggOf, setO, drawP_fin, drawP_q, dq, dqn, GF.tt, guardP, R1Q, dstOK, List.length_map, List.getElem?_toArray, List.getElem?_cons_succ, List.getElem?_cons_zero, Option.bind_some, ↓reduceIte, Nat.reduceLT, Nat.reduceEqDiff, Nat.zero_add, Nat.add_zero, Nat.add_one_ne_zero, Int.toNat_natCast, decide_true, true_and, wrap_i64, gl0, Try.sz2, Try.ag2, Try.underlying41, Try.sz41, Try.ag41, Try.sz46, Try.fd46f0, Try.fd46f1, e3t, hS1, gk, eT, e4t]
          (repeat (refine ⟨by first | omega | (refine ⟨?_, ?_⟩ <;> omega) | trivial | (simp; done) | decide +kernel, fun _ => ?_⟩))
          refine h5.run 300 ?_
          simp (disch := omega) only [exec_succ, runR_next, runR_need, runR_fork_true, runR_stop, stepS, runOp, condS, goS, toSR, sop, rOf, sLoadIn, sLoad, sStoreIn, sStore, sInt, sBin, sFieldAddr, sIndexAddr, elemT, obind, ev, svs, Env.get, Heap.get, Heap.set, takeN, cut, over, paste, aggOf, cellsS, one, ones, idFree, idFrees, exitTo, Value.cells, Value.oneCell', OutOK_need, OutOK_stop, undefS, undef, Bool.and_true, List.size_toArray, List.length_cons, List.length_nil, List.length_map, List.range, List.range.loop, List.getElem?_toArray, List.getElem?_cons_succ, List.getElem?_cons_zero, List.map_cons, List.map_nil, List.toList_toArray, ↓reduceIte, Nat.reduceAdd, Nat.reduceLT, Nat.reduceEqDiff, Nat.zero_add, Nat.add_one_ne_zero, Int.toNat_natCast, beq_self_eq_true, and_true, and_self, wrap_i64, gl0, Try.sz2, Try.ag2, Try.underlying41, Try.sz41, Try.ag41, Try.sz46, Try.fd46f1, hS1, gk, eT]
          (repeat (refine ⟨by first | omega | (refine ⟨?_, ?_⟩ <;> omega) | trivial | (simp; done) | decide +kernel, fun _ => ?_⟩))
          have hy := hz cap
          rw [List.map_set] at hy
          simp only [List.length_append, List.length_cons, List.length_nil, List.length_singleton, List.length_map, List.length_set, List.length_replicate, Nat.zero_add, Nat.add_zero, Int.natCast_add, Int.natCast_one, Int.ofNat_eq_natCast, List.map_append, List.map_cons, List.map_nil, List.take_length, eI, eB] at hy ⊢
          refine h5.fin rfl ?_
          simp only [Heap.set, Nat.reduceEqDiff, ↓reduceIte]
          simp (disch := omega) only [sop, rOf, sLoadIn, sLoad, sUn, ev, Env.get, Heap.get, takeN, cut, aggOf, setO, drawP_fin, drawP_q, dnext, dq, dqn, slotR, ag, guardP, R1Q, dstOK, again, again1, slotIs, R1OK, List.getElem?_toArray, List.getElem?_cons_succ, List.getElem?_cons_zero, ↓reduceIte, Nat.reduceLT, Nat.reduceEqDiff, Bool.not_true, true_and, and_self, reduceCtorEq, Try.sz2, Try.ag2, Try.sz24, Try.ag24]
          refine h4.run 300 ?_
          simp (disch := omega) only [exec_succ, runR_next, runR_fork_false, runR_stop, stepS, runOp, condS, toSR, sop, rOf, sInt, sBin, ev, Env.get, OutOK_stop, List.size_toArray, List.length_cons, List.length_nil, List.range, List.range.loop, List.getElem?_toArray, List.getElem?_cons_succ, List.getElem?_cons_zero, ↓reduceIte, Nat.reduceAdd, Nat.reduceLT, Nat.reduceEqDiff, Nat.zero_add, wrap_i64, gl0]
          refine Sat.via (fun i => i) (hy) (by intro i j; (repeat (first | omega | split))) (by repeat' (first | exact EnvVia.nil | refine EnvVia.cons (by first | trivial | decide | (simp [SV.bnd, SV.bndL]; done)) rfl ?_)) (by repeat' (first | exact HeapVia.nil | refine HeapVia.cons (by decide) (by first | trivial | (simp [Blk.bnd, SV.bnd, SV.bndL]; done) | exact bndL_mapV _ _ _ | exact LR.bnd (by rw [l2]; simp [bndE, SV.bnd, SV.bndL]) (by rw [l6]; decide)) (by first | rfl | (simp only [Blk.ren, renL_mapV]; rfl) | (rw [LR.ren (by rw [l2] <;> rfl) (by rw [l6] <;> rfl)]; rfl)) ?_)) ⟨by have := h4.hm; (try dsimp only at this); (first | done | omega), fun i hi => by have := h4.hm; (try dsimp only at this); (first | omega | (dsimp only; omega) | (rw [if_neg (by omega)]))⟩ ⟨by simp, rfl⟩
        · have ep : pushW S a u = S ++ [(a, u)] := by rw [pushW, if_neg (fun h => e4 h.2)]
          rw [ep] at hz
          refine DCall.of (Does.roundL h4.hP h4.hgl Try.mixed (L := L) rfl l1 l2 l3 l4 l5 rfl rfl fun κ_h5 x_h5 h5 => ?_)
          simp only [bindP]
          refine h5.run 300 ?_
          simp (disch := omega) only [exec_succ, runR_next, runR_need, runR_stop, stepS, runOp, toSR, sop, rNew, sAlloc, sAlloc0, sStoreIn, sStore, ev, svs, Env.get, Heap.get, Heap.set, over, paste, cellsS, one, ones, Value.oneCell', OutOK_need, OutOK_stop, undefS, undef, List.size_toArray, List.length_cons, List.length_nil, List.range, List.range.loop, List.getElem?_toArray, List.getElem?_cons_succ, List.getElem?_cons_zero, List.map_cons, List.map_nil, ↓reduceIte, Nat.reduceAdd, Nat.reduceLT, Nat.reduceEqDiff, Nat.zero_add, true_and, and_self, forall_const, gl0, Try.sz27, Try.ze27, Try.ar27, Try.sz46, Try.ze46, Try.ar46]
          refine h5.beg rfl ?_
          simp only [Heap.set, Nat.reduceEqDiff, ↓reduceIte]
          refine h5.run 300 ?_
          simp (disch := omega) only [exec_succ, runR_next, runR_call, stepS, runOp, toSR, sop, rOf, sLoadIn, sLoad, ev, evs, Env.get, Heap.get, takeN, cut, aggOf, OutOK_call, List.size_toArray, List.length_cons, List.length_nil, List.range, List.range.loop, List.getElem?_toArray, List.getElem?_cons_succ, List.getElem?_cons_zero, ↓reduceIte, Nat.reduceAdd, Nat.reduceLT, Nat.reduceEqDiff, Nat.zero_add, gl0, Try.sz3, Try.ag3, Try.sz27, Try.ag27]
          refine Does.ret h5.hP h5.hgl (c5) ⟨trivial, by simp [SV.bnd, SV.bndL], by first | (simp [SV.bnd, SV.bndL]; done) | assumption⟩ ?_
          refine h5.run 300 ?_
          simp (disch := omega) only [exec_succ, runR_next, runR_need, runR_guard_ff, runR_call, stepS, runOp, guardS, toSR, sop, rOf, rNew, sAlloc, sAlloc0, sLoadIn, sLoad, sStoreIn, sStore, sUn, sExtract, ev, evs, svs, Env.get, Heap.get, Heap.set, takeN, cut, over, paste, aggOf, cellsS, one, ones, setO, Value.oneCell', OutOK_need, OutOK_call, undefS, undef, List.size_toArray, List.length_cons, List.length_nil, List.range, List.range.loop, List.getElem?_toArray, List.getElem?_cons_succ, List.getElem?_cons_zero, List.map_cons, List.map_nil, Option.bind_some, ↓reduceIte, Nat.reduceAdd, Nat.reduceLT, Nat.reduceEqDiff, Nat.zero_add, Bool.not_true, Bool.not_false, true_and, and_self, forall_const, gl0, Try.sz65, Try.ag65, Try.ze65, Try.ar65, eX]
          refine Does.ret h5.hP h5.hgl (c6) ⟨trivial, by simp [SV.bnd, SV.bndL], by first | (simp [SV.bnd, SV.bndL]; done) | assumption⟩ ?_
          refine h5.runD 300 ?_
          simp (disch := omega) only [sBuiltin, runR_next, runR_fork_false, runR_guard_ff, stepS, runOp, guardS, condS, toSR, sop, rOf, sPick, sLoadIn, sLoad, sInt, sBin, sUn, sFieldAddr, sLen, ev, Env.get, Heap.get, takeN, cut, aggOf, setO, OutOK_stop, undefS, undef, halt, isDraw, drawC, execD_succ, List.size_toArray, List.length_cons, List.length_nil, List.range, List.range.loop, List.getElem?_toArray, List.getElem?_cons_succ, List.getElem?_cons_zero, Option.bind_some, ↓reduceIte, Nat.reduceAdd, Nat.reduceLT, Nat.reduceEqDiff, Nat.zero_add, Nat.add_zero, Nat.add_one_ne_zero, Bool.not_true, Bool.not_false, decide_false, and_self, gl0, Try.sz2, Try.ag2, Try.underlying41, Try.sz41, Try.ag41, Try.fd46f0, Try.fd46f1, e2]
          refine h5.draw (.q 0 (.q 1 (.q 2 (.q 3 (.q 4 (.q 5 (.q 6 (.q 7 (.q 8 (.q 9 (.q 10 (.q 11 (.q 12 (.fin)))))))))))))) [0, 1, 2, 3, 4, 5, 6, 7, 8, 9, 10, 11, 12] (by kernel_rfl) (by kernel_rfl) rfl ?_
          simp (disch := omega) only [sop, rOf, sPick, sLoadIn, sLoad, sInt, sBin, sFieldAddr, sIndexAddr, elemT, obind, ev, Env.get, Heap.get, takeN, cut, aggOf, setO, drawP_fin, drawP_q, dq, dqn, GF.tt, guardP, R1Q, dstOK, List.length_map, List.getElem?_toArray, List.getElem?_cons_succ, List.getElem?_cons_zero, Option.bind_some, ↓reduceIte, Nat.reduceLT, Nat.reduceEqDiff, Nat.zero_add, Nat.add_zero, Nat.add_one_ne_zero, Int.toNat_natCast, decide_true, decide_false, true_and, wrap_i64, gl0, Try.sz2, Try.ag2, Try.underlying41, Try.sz41, Try.ag41, Try.sz46, Try.fd46f0, Try.fd46f1, e3t, hS1, gk, eT, e4]
          (repeat (refine ⟨by first | omega | (refine ⟨?_, ?_⟩ <;> omega) | trivial | (simp; done) | decide +kernel, fun _ => ?_⟩))
          refine h5.run 300 ?_
          simp (disch := omega) only [sBuiltin, srcS, appArgS, sAppendTo, sAppend, exec_succ, runR_next, runR_need, runR_all, runR_fork_false, runR_stop, stepS, runOp, condS, toSR, sop, rOf, rNew, isArr, sLoadIn, sLoad, sStoreIn, sStore, sliceT, obind, fillS, evps, repeatL, sBuildSlice, chunk, ev, svs, Env.get, Heap.get, Heap.set, Heap.drop, takeN, cut, over, paste, aggOf, cellsS, one, ones, idFree, idFrees, Value.oneCell', OutOK_need, OutOK_all, OutOK_stop, undefS, undef, Bool.and_true, List.drop_zero, List.take_succ_cons, List.take_nil, List.size_toArray, List.length_cons, List.length_nil, List.length_map, List.range, List.range.loop, List.getElem?_toArray, List.getElem?_cons_succ, List.getElem?_cons_zero, List.map_cons, List.map_nil, List.append_nil, ↓reduceIte, Nat.reduceAdd, Nat.reduceLT, Nat.reduceLeDiff, Nat.reduceEqDiff, Nat.zero_add, Nat.zero_mul, Nat.one_mul, Nat.add_one_ne_zero, ne_eq, not_false_eq_true, true_and, and_self, forall_const, gl0, Try.underlying41, Try.sz41, Try.ag41, Try.sz46, Try.ag46, Try.ze46, Try.by46]
          (repeat (refine ⟨by first | omega | (refine ⟨?_, ?_⟩ <;> omega) | trivial | (simp; done) | decide +kernel, fun _ => ?_⟩))
          intro c
          have hy := hz (S.length + 1 + c)
          simp only [List.length_append, List.length_cons, List.length_nil, List.length_singleton, List.length_map, List.length_set, List.length_replicate, Nat.zero_add, Nat.add_zero, Int.natCast_add, Int.natCast_one, Int.ofNat_eq_natCast, List.map_append, List.map_cons, List.map_nil, List.take_length, eI, eB] at hy ⊢
          rw [et]
          refine h5.fin rfl ?_
          simp only [Heap.set, Nat.reduceEqDiff, ↓reduceIte]
          simp (disch := omega) only [sop, rOf, sLoadIn, sLoad, sUn, ev, Env.get, Heap.get, takeN, cut, aggOf, setO, drawP_fin, drawP_q, dnext, dq, dqn, slotR, ag, guardP, R1Q, dstOK, again, again1, slotIs, R1OK, List.getElem?_toArray, List.getElem?_cons_succ, List.getElem?_cons_zero, ↓reduceIte, Nat.reduceLT, Nat.reduceEqDiff, Bool.not_true, true_and, and_self, reduceCtorEq, Try.sz2, Try.ag2, Try.sz24, Try.ag24]
          refine h4.run 300 ?_
          simp (disch := omega) only [exec_succ, runR_next, runR_fork_false, runR_stop, stepS, runOp, condS, toSR, sop, rOf, sInt, sBin, ev, Env.get, OutOK_stop, List.size_toArray, List.length_cons, List.length_nil, List.range, List.range.loop, List.getElem?_toArray, List.getElem?_cons_succ, List.getElem?_cons_zero, ↓reduceIte, Nat.reduceAdd, Nat.reduceLT, Nat.reduceEqDiff, Nat.zero_add, wrap_i64, gl0]
          refine Sat.via (fun i => if i = 6 then 12 else i) (hy) (by intro i j; (repeat (first | omega | split))) (by repeat' (first | exact EnvVia.nil | refine EnvVia.cons (by first | trivial | decide | (simp [SV.bnd, SV.bndL]; done)) rfl ?_)) (by repeat' (first | exact HeapVia.nil | refine HeapVia.cons (by decide) (by first | trivial | (simp [Blk.bnd, SV.bnd, SV.bndL]; done) | exact bndL_mapV _ _ _ | exact LR.bnd (by rw [l2]; simp [bndE, SV.bnd, SV.bndL]) (by rw [l6]; decide)) (by first | rfl | (simp only [Blk.ren, renL_mapV]; rfl) | (rw [LR.ren (by rw [l2] <;> rfl) (by rw [l6] <;> rfl)]; rfl)) ?_)) ⟨by have := h4.hm; (try dsimp only at this); (first | done | omega), fun i hi => by have := h4.hm; (try dsimp only at this); (first | omega | (dsimp only; omega) | (rw [if_neg (by omega)]))⟩ ⟨by simp, rfl⟩
    · simp (disch := omega) only [runR_next, runR_stop, stepS, goS, exitTo, OutOK_stop, halt, isAt, atC, execA_succ, ↓reduceIte, beq_self_eq_true]
      obtain rfl : k = ms.length := by omega
      have et : List.take (waitsK ms en v ms.length).length (List.map eT (waitsK ms en v ms.length)) = List.map eT (waitsK ms en v ms.length) := List.take_of_length_le (by simp)
      refine h4.fin _ _ _ _ _ trivial rfl ?_
      refine ⟨_, _, rfl, by decide, ?_⟩
      simp only [Option.map_none, Option.map_some, Option.toList, List.nil_append, List.cons_append, Heap.drop, Nat.reduceEqDiff, ↓reduceIte]
      refine hκ.run 300 ?_
      simp (disch := omega) only [exec_succ, runR_next, runR_stop, stepS, runOp, toSR, sop, rOf, sLoadIn, sLoad, ev, Env.get, Heap.get, Heap.drop, takeN, cut, aggOf, OutOK_stop, dropL, List.size_toArray, List.length_cons, List.length_nil, List.range, List.range.loop, List.getElem?_toArray, List.getElem?_cons_succ, List.getElem?_cons_zero, ↓reduceIte, Nat.reduceAdd, Nat.reduceLT, Nat.reduceEqDiff, Nat.zero_add, gl0, Try.sz41, Try.ag41]
      refine hκ.ret _ _ _ _ _ _ ⟨rfl, trivial⟩ rfl ?_
      refine Post.frz [6] (by first | (simp [lendPL, lendP, lendSlP, dropL, Heap.get, Heap.drop, resV]; done) | (simp [lendPL, lendP, lendSlP, dropL, Heap.get, Heap.drop, resV]; omega) | (simp [lendPL, lendP, lendSlP, dropL, Heap.get, Heap.drop, resV, -List.length_eq_zero_iff]; omega)) ?_
      simp only [resV, lendL, lendS, lendSl, dropL, Heap.drop, Heap.get, List.mem_singleton, List.mem_cons, List.not_mem_nil, or_false, or_true, true_or, List.drop_zero, Nat.reduceEqDiff, Nat.one_ne_zero, Nat.zero_ne_one, ↓reduceIte, et]
      exact .ret (by simp [SV.bnd, SV.bndL])
end Go.Proofs.Ytbjhphjpdeblnaa

/- TopoDists: the walk of the law. No condition. -/
import Derived.Test.YtbgnnmlhpaaebaaDoorWa
namespace Go.Proofs.YtbgnnmlhpaaebaaDoor
open Go Go.Sy
set_option maxRecDepth 100000
set_option linter.unusedSimpArgs false
set_option linter.unusedVariables false

theorem tailR {ν : Nm} {s : SV} {l l' : List SV} (h : ∀ vs, RelL ν l vs → RelL ν l' vs) : ∀ vs, RelL ν (s :: l) vs → RelL ν (s :: l') vs := fun _ ⟨y, ys, e, h1, h2⟩ => ⟨y, ys, e, h1, h ys h2⟩
theorem sameNil (us : List Int) (h : us.length < 2 ^ 62) : Con Tryd.prog gl0 (fnv 19) [Is us, .v (.slice none 0 0)] 0 [] (Ret (Bo (decide (us = [])))) :=
  Con.argR (fun _ => tailR nil1) (sameInts_ok us [] h)
theorem cut9_len (l : List Sea) : (cut9 l).length ≤ 9 := by rw [cut9, List.length_take]; omega
theorem cut9_in {l : List Sea} (h : ∀ s ∈ l, inT s) : ∀ s ∈ cut9 l, inT s := fun s hs => h s (List.mem_of_mem_take hs)
abbrev Pai := Int × Int
theorem rdist_int (l : List Sea) (a b : Int) (ha : 0 ≤ a ∧ a < l.length) (hb : 0 ≤ b ∧ b < l.length) (hn : l.length < 2 ^ 40) : Con Tryd.prog gl0 (fnv 15) [To l, I a, I b] 0 [] (Ret (I (distN l a.toNat b.toNat))) := by
  have h := trdist_ok l a.toNat b.toNat (by omega) (by omega) hn
  rw [Int.toNat_of_nonneg ha.1, Int.toNat_of_nonneg hb.1] at h
  exact h
theorem rnear_int (l : List Sea) (p : Int) (s : Nat) (ho : okTs l = true) (hp : 0 ≤ p ∧ p < l.length) (hn : l.length < 2 ^ 40) : Con Tryd.prog gl0 (fnv 18) [To l, I p, S s] 0 [] (Ret (Is (nearL l p.toNat s))) := by
  have h := rnear_ok l p.toNat s (by omega) hn
  rw [Int.toNat_of_nonneg hp.1, near_same ho] at h
  exact h
def e2 (p : Pai) : List SV := [I p.1, I p.2]
def eC (s : Nat) : List SV := [S s]
abbrev Css (l : List Nat) : SV := .rd 1 (l.map eC)
theorem dists_law (x : List Sea) (ps : List Pai) (am : List Nat) (hx : ∀ s ∈ x, inT s) (ha : ∀ s ∈ am, s < 4294967296) (hn : x.length < 2 ^ 46) (hn1 : ps.length < 2 ^ 62) (hn2 : am.length < 2 ^ 62) : Law Tryd.prog gl0 3 [To x, .rd 2 (ps.map e2), .rd 1 (am.map eC)] := by
  have c1 := short_ok x hn
  have ht := cut9_in hx
  have hl := cut9_len x
  refine Law.of (nt := 127) (res := [.tmp 6]) Tryd.mixed Tryd.func3 rfl rfl rfl rfl fun κ xc hκ => hκ.run 300 ?_
  simp (disch := omega) only [exec_succ, runR_next, runR_call, stepS, runOp, toSR, sop, rOf, rNew, sBox, isArr, ev, evs, Env.get, cellsS, envOf, OutOK_call, Bool.false_eq_true, List.size_toArray, List.length_cons, List.length_nil, List.range, List.range.loop, List.getElem?_toArray, List.getElem?_cons_succ, List.getElem?_cons_zero, ↓reduceIte, Nat.reduceAdd, Nat.reduceLT, Nat.zero_add, gl0]
  generalize cut9 x = t at c1 ht hl
  refine Does.ret hκ.hP hκ.hgl (wakes_ok) ⟨trivial, by simp [SV.bnd, SV.bndL], by first | (simp [SV.bnd, SV.bndL]; done) | assumption⟩ ?_
  refine hκ.run 300 ?_
  simp (disch := omega) only [allQuiet, quietOp, drawS, exec_succ, runR_next, runR_fork_false, runR_stop, stepS, runOp, condS, toSR, sop, sUn, ev, Env.get, setO, OutOK_stop, Option.isNone_none, Bool.and_true, Bool.and_false, List.getElem?_toArray, List.getElem?_cons_succ, List.getElem?_cons_zero, ↓reduceIte, Nat.reduceLT, Bool.not_true, gl0]
  apply Sat.join (α := Unit) (nx := 3) (dfs := []) (fun _ => True) (fun _ => ([(8, .ptr 2 0 0 0), (7, .ptr 1 0 0 0), (1, .rd 2 (ps.map e2)), (2, Css am)], [(2, .own [Ss t] 24), (1, .own [Ss t] 24)]))
  · intro hj
    have hj := hj () trivial
    dsimp only at hj
    refine hκ.draw (.q 0 (.q 2 (.or (.m 1 [2] (.or (.m 3 [0] (.or (.m 4 [0, 2] (.l 5 [0, 2] (.l 6 [2] (.l 7 [] (.fin))))) (.m 5 [0, 2] (.l 4 [0, 2] (.l 6 [2] (.l 7 [] (.fin))))))) (.or (.m 4 [0, 2] (.or (.m 3 [0] (.l 5 [0, 2] (.l 6 [2] (.l 7 [] (.fin))))) (.m 5 [0, 2] (.l 3 [0] (.l 6 [2] (.l 7 [] (.fin))))))) (.m 5 [0, 2] (.or (.m 3 [0] (.l 4 [0, 2] (.l 6 [2] (.l 7 [] (.fin))))) (.m 4 [0, 2] (.l 3 [0] (.l 6 [2] (.l 7 [] (.fin)))))))))) (.or (.m 4 [0, 2] (.or (.m 1 [2] (.or (.m 3 [0] (.l 5 [0, 2] (.l 6 [2] (.l 7 [] (.fin))))) (.m 5 [0, 2] (.l 3 [0] (.l 6 [2] (.l 7 [] (.fin))))))) (.m 5 [0, 2] (.l 1 [2] (.l 3 [0] (.l 6 [2] (.l 7 [] (.fin)))))))) (.m 5 [0, 2] (.or (.m 1 [2] (.or (.m 3 [0] (.l 4 [0, 2] (.l 6 [2] (.l 7 [] (.fin))))) (.m 4 [0, 2] (.l 3 [0] (.l 6 [2] (.l 7 [] (.fin))))))) (.m 4 [0, 2] (.l 1 [2] (.l 3 [0] (.l 6 [2] (.l 7 [] (.fin)))))))))))) [0, 2] (by kernel_rfl) (by kernel_rfl) rfl ?_
    simp (disch := omega) only [sop, rOf, rNew, sAlloc, sAlloc0, sLoadIn, sLoad, ev, evs, svs, Env.get, Heap.get, takeN, cut, aggOf, setO, drawP_q, drawP_l, dnext, dq, dqn, dl, slotR, ag, guardP, R1Q, dstOK, loudP, again, again1, slotIs, R1OK, drawP_m, drawP_or, List.getElem?_toArray, List.getElem?_cons_succ, List.getElem?_cons_zero, List.map_cons, List.map_nil, ↓reduceIte, Nat.reduceAdd, Nat.reduceLT, Nat.reduceEqDiff, Nat.add_one_ne_zero, true_and, and_self, gl0, Tryd.sz24, Tryd.ag24, Tryd.ze24, Tryd.ar24]
    repeat' (refine And.intro ?_ ?_)
    all_goals
      refine DCall.of (Does.ret hκ.hP hκ.hgl c1 ⟨trivial, by simp [SV.bnd, SV.bndL], by first | (simp [SV.bnd, SV.bndL]; done) | assumption⟩ ?_)
      simp (disch := omega) only [sop, rOf, rNew, sAlloc, sAlloc0, sLoadIn, sLoad, ev, evs, svs, Env.get, Heap.get, takeN, cut, aggOf, setO, drawP_l, dnext, dl, slotR, ag, guardP, dstOK, loudP, again, again1, slotIs, R1OK, drawP_m, drawP_or, List.getElem?_toArray, List.getElem?_cons_succ, List.getElem?_cons_zero, List.map_cons, List.map_nil, ↓reduceIte, Nat.reduceAdd, Nat.reduceLT, Nat.reduceEqDiff, Nat.add_one_ne_zero, true_and, and_self, Tryd.sz24, Tryd.ag24, Tryd.ze24, Tryd.ar24]
    repeat' (refine And.intro ?_ ?_)
    all_goals first
      | (refine hj.less ?_ ?_ <;> (repeat' (first | exact EnvSub.nil _ | exact HeapSub.nil _ | refine EnvSub.cons rfl ?_ | refine HeapSub.cons rfl ?_)) <;> done)
      | (refine Sat.via (fun i => if i = 1 then 2 else if i = 2 then 1 else i) (hj) ?_ ?_ ?_ ?_ ?_; (focus (intro i j; (repeat (first | omega | split)); done)); (focus ((repeat' (first | exact EnvVia.nil | refine EnvVia.cons (by first | trivial | decide | (simp [SV.bnd, SV.bndL]; done)) rfl ?_)); done)); (focus ((repeat' (first | exact HeapVia.nil | refine HeapVia.cons (by decide) (by first | trivial | (simp [Blk.bnd, SV.bnd, SV.bndL]; done) | exact bndL_mapV _ _ _ | exact LR.bnd (by rw [l2]; simp [bndE, SV.bnd, SV.bndL]) (by rw [l6]; decide)) (by first | rfl | (simp only [Blk.ren, renL_mapV]; rfl) | (rw [LR.ren (by rw [l2] <;> rfl) (by rw [l6] <;> rfl)]; rfl)) ?_)); done)); (focus (exact ⟨by have := hκ.hm; (try dsimp only at this); (first | done | omega), fun i hi => by have := hκ.hm; (try dsimp only at this); (first | omega | (dsimp only; omega) | (rw [if_neg (by omega)]))⟩)); (focus (exact ⟨by simp, rfl⟩)))
      | skip
    all_goals
      refine DCall.of (Does.ret hκ.hP hκ.hgl c1 ⟨trivial, by simp [SV.bnd, SV.bndL], by first | (simp [SV.bnd, SV.bndL]; done) | assumption⟩ ?_)
      simp (disch := omega) only [sop, rOf, rNew, sAlloc, sAlloc0, sLoadIn, sLoad, sStoreIn, sStore, ev, svs, Env.get, Heap.get, Heap.set, takeN, cut, over, paste, aggOf, cellsS, one, ones, setO, drawP_fin, drawP_l, dnext, dl, slotR, ag, guardP, dstOK, loudP, again, again1, slotIs, R1OK, undefS, undef, drawP_m, drawP_or, List.length_cons, List.length_nil, List.getElem?_toArray, List.getElem?_cons_succ, List.getElem?_cons_zero, List.map_cons, List.map_nil, ↓reduceIte, Nat.reduceAdd, Nat.reduceLT, Nat.reduceEqDiff, Nat.zero_add, Nat.add_one_ne_zero, true_and, and_self, forall_const, Tryd.sz24, Tryd.ag24, Tryd.ze24, Tryd.ar24]
    repeat' (refine And.intro ?_ ?_)
    all_goals first
      | (refine hj.less ?_ ?_ <;> (repeat' (first | exact EnvSub.nil _ | exact HeapSub.nil _ | refine EnvSub.cons rfl ?_ | refine HeapSub.cons rfl ?_)) <;> done)
      | (refine Sat.via (fun i => if i = 1 then 2 else if i = 2 then 1 else i) (hj) ?_ ?_ ?_ ?_ ?_; (focus (intro i j; (repeat (first | omega | split)); done)); (focus ((repeat' (first | exact EnvVia.nil | refine EnvVia.cons (by first | trivial | decide | (simp [SV.bnd, SV.bndL]; done)) rfl ?_)); done)); (focus ((repeat' (first | exact HeapVia.nil | refine HeapVia.cons (by decide) (by first | trivial | (simp [Blk.bnd, SV.bnd, SV.bndL]; done) | exact bndL_mapV _ _ _ | exact LR.bnd (by rw [l2]; simp [bndE, SV.bnd, SV.bndL]) (by rw [l6]; decide)) (by first | rfl | (simp only [Blk.ren, renL_mapV]; rfl) | (rw [LR.ren (by rw [l2] <;> rfl) (by rw [l6] <;> rfl)]; rfl)) ?_)); done)); (focus (exact ⟨by have := hκ.hm; (try dsimp only at this); (first | done | omega), fun i hi => by have := hκ.hm; (try dsimp only at this); (first | omega | (dsimp only; omega) | (rw [if_neg (by omega)]))⟩)); (focus (exact ⟨by simp, rfl⟩)))
  intro _ _
  dsimp only
  clear c1
  have hln : t.length < 2 ^ 40 := by omega
  have c1 := tright_ok t ht hln
  have c9 := trsame_ok t t (by omega)
  rw [decide_eq_true rfl] at c9
  refine hκ.run 300 ?_
  simp (disch := omega) only [exec_succ, runR_next, runR_call, stepS, runOp, toSR, sop, rOf, sLoadIn, sLoad, ev, evs, Env.get, Heap.get, takeN, cut, aggOf, OutOK_call, List.size_toArray, List.length_cons, List.length_nil, List.range, List.range.loop, List.getElem?_toArray, List.getElem?_cons_succ, List.getElem?_cons_zero, ↓reduceIte, Nat.reduceAdd, Nat.reduceLT, Nat.zero_add, gl0, Tryd.sz24, Tryd.ag24]
  refine Does.ret hκ.hP hκ.hgl (c1) ⟨trivial, by simp [SV.bnd, SV.bndL], by first | (simp [SV.bnd, SV.bndL]; done) | assumption⟩ ?_
  refine hκ.run 300 ?_
  simp (disch := omega) only [sBuiltin, exec_succ, runR_next, runR_stop, stepS, runOp, toSR, sop, rOf, sLen, ev, Env.get, setO, OutOK_stop, List.size_toArray, List.length_cons, List.length_nil, List.length_map, List.range, List.range.loop, List.getElem?_toArray, List.getElem?_cons_succ, List.getElem?_cons_zero, ↓reduceIte, Nat.reduceAdd, Nat.reduceLT, Nat.reduceEqDiff, Nat.zero_add, gl0, Tryd.underlying25]
  apply Sat.join (α := Unit) (nx := 3) (dfs := []) (fun _ => True) (fun _ => ([(8, .ptr 2 0 0 0), (7, .ptr 1 0 0 0)], [(2, .own [Ss t] 24), (1, .own [Ss t] 24)]))
  · intro hj
    have hj := hj () trivial
    dsimp only at hj
    refine Sat.less (Sat.loop (γ := Nat) (fun k => ([(32, I k), (31, I ps.length), (30, .rd 2 (ps.map e2)), (9, Bo (okTs t)), (8, .ptr 2 0 0 0), (7, .ptr 1 0 0 0), (2, Css am)], [(2, .own [Ss t] 24), (1, .own [Ss t] 24)], 3)) (fun k => ps.length - k) (fun k => k ≤ ps.length) ?round 0 (Nat.zero_le _)) (by repeat' (first | exact EnvSub.nil _ | exact HeapSub.nil _ | refine EnvSub.cons rfl ?_ | refine HeapSub.cons rfl ?_ | (refine EnvSub.cons (by simp [Env.get]; done) ?_) | (refine HeapSub.cons (by simp [Heap.get]; done) ?_))) (by repeat' (first | exact EnvSub.nil _ | exact HeapSub.nil _ | refine EnvSub.cons rfl ?_ | refine HeapSub.cons rfl ?_ | (refine EnvSub.cons (by simp [Env.get]; done) ?_) | (refine HeapSub.cons (by simp [Heap.get]; done) ?_)))
    case round =>
      intro k hk ih
      dsimp only at hk ih ⊢
      refine hκ.runA 36 300 ?_
      simp (disch := omega) only [runR_next, stepS, runOp, condS, toSR, sop, sInt, sBin, ev, Env.get, halt, isAt, atC, execA_succ, List.size_toArray, List.length_cons, List.length_nil, List.range, List.range.loop, List.getElem?_toArray, List.getElem?_cons_zero, ↓reduceIte, Nat.reduceLT, Nat.reduceEqDiff, Nat.zero_add, Nat.reduceBEq, gl0]
      refine OutOK_fork (fun h => ?_) (fun h => ?_) <;> try simp only [Bool.not_true, Bool.not_false, decide_eq_true_eq, decide_eq_false_iff_not, Bool.not_eq_true', Bool.not_eq_false', Bool.and_eq_true, Bool.or_eq_false_iff, Bool.or_eq_true, Bool.and_eq_false_iff] at h
      · have hz := ih (k + 1) (by omega) (by omega)
        clear ih
        have gk : (List.map e2 ps).getD k [] = e2 (ps.getD k default) := getD_map _ _ _ (by omega)
        generalize ps.getD k default = p at gk
        obtain ⟨a, b⟩ := p
        rw [e2] at gk
        by_cases h20 : k = 12
        · have e0 : ((k : Int) = 12) = True := by first | (simp only [eq_iff_iff, iff_true]; first | assumption | omega) | (simp; omega)
          simp (disch := omega) only [runR_next, runR_need, runR_fork_true, stepS, runOp, condS, goS, toSR, sop, rOf, rNew, sAlloc, sAlloc0, sLoad, sStoreIn, sStore, sInt, sBin, sIndexAddr, elemT, obind, ev, svs, Env.get, Heap.get, Heap.set, takeN, cut, over, paste, aggOf, cellsS, one, ones, exitTo, Value.oneCell', OutOK_need, OutOK_stop, undefS, undef, halt, isAt, atC, execA_succ, Bool.false_eq_true, List.size_toArray, List.length_cons, List.length_nil, List.length_map, List.range, List.range.loop, List.getElem?_toArray, List.getElem?_cons_succ, List.getElem?_cons_zero, List.map_cons, List.map_nil, ↓reduceIte, Nat.reduceAdd, Nat.reduceLT, Nat.reduceEqDiff, Nat.zero_add, Nat.reduceBEq, Int.toNat_natCast, decide_true, beq_self_eq_true, true_and, and_self, forall_const, Tryd.underlying25, Tryd.sz30, Tryd.ag30, Tryd.ze30, Tryd.ar30, e0, gk]
          (repeat (refine ⟨by first | omega | (refine ⟨?_, ?_⟩ <;> omega) | trivial | (simp; done) | decide +kernel, fun _ => ?_⟩))
          refine Sat.via (fun i => i) (hj) (by intro i j; (repeat (first | omega | split))) (by repeat' (first | exact EnvVia.nil | refine EnvVia.cons (by first | trivial | decide | (simp [SV.bnd, SV.bndL]; done)) rfl ?_)) (by repeat' (first | exact HeapVia.nil | refine HeapVia.cons (by decide) (by first | trivial | (simp [Blk.bnd, SV.bnd, SV.bndL]; done) | exact bndL_mapV _ _ _ | exact LR.bnd (by rw [l2]; simp [bndE, SV.bnd, SV.bndL]) (by rw [l6]; decide)) (by first | rfl | (simp only [Blk.ren, renL_mapV]; rfl) | (rw [LR.ren (by rw [l2] <;> rfl) (by rw [l6] <;> rfl)]; rfl)) ?_)) ⟨by have := hκ.hm; (try dsimp only at this); (first | done | omega), fun i hi => by have := hκ.hm; (try dsimp only at this); (first | omega | (dsimp only; omega) | (rw [if_neg (by omega)]))⟩ ⟨by simp, rfl⟩
        have e0 : ((k : Int) = 12) = False := by first | (simp only [eq_iff_iff, iff_false]; first | assumption | omega) | (simp; omega)
        have c2 := Dist_ok t a b ht hln
        have c3 := tcpu_ok t a
        have c4 := tcpu_ok t b
        simp (disch := omega) only [runR_next, runR_need, runR_fork_false, runR_call, stepS, runOp, condS, toSR, sop, rOf, rNew, sAlloc, sAlloc0, sLoadIn, sLoad, sStoreIn, sStore, sInt, sBin, sIndexAddr, elemT, obind, ev, evs, svs, Env.get, Heap.get, Heap.set, takeN, cut, over, paste, aggOf, cellsS, one, ones, Value.oneCell', OutOK_need, OutOK_call, undefS, undef, halt, isAt, atC, execA_succ, Int.cast_ofNat_Int, List.size_toArray, List.length_cons, List.length_nil, List.length_map, List.range, List.range.loop, List.getElem?_toArray, List.getElem?_cons_succ, List.getElem?_cons_zero, List.map_cons, List.map_nil, ↓reduceIte, Nat.reduceAdd, Nat.reduceLT, Nat.reduceEqDiff, Nat.zero_add, Nat.reduceBEq, Int.reduceToNat, Int.reduceLT, Int.reduceLE, Int.toNat_natCast, decide_false, true_and, and_self, forall_const, Tryd.sz3, Tryd.ag3, Tryd.sz24, Tryd.ag24, Tryd.underlying25, Tryd.underlying30, Tryd.sz30, Tryd.ag30, Tryd.ze30, Tryd.ar30, e0, gk]
        (repeat (refine ⟨by first | omega | (refine ⟨?_, ?_⟩ <;> omega) | trivial | (simp; done) | decide +kernel, fun _ => ?_⟩))
        apply Sat.join (α := Unit) (nx := 4) (dfs := []) (fun _ => True) (fun _ => ([(11, .ptr 3 0 0 0), (32, I k), (31, I ps.length), (30, .rd 2 (ps.map e2)), (9, Bo (okTs t)), (8, .ptr 2 0 0 0), (7, .ptr 1 0 0 0), (2, Css am)], [(3, .own [I a, I b] 30), (2, .own [Ss t] 24), (1, .own [Ss t] 24)]))
        · intro hj2
          have hj2 := hj2 () trivial
          dsimp only at hj2
          refine Does.ret hκ.hP hκ.hgl (c2) ⟨trivial, by simp [SV.bnd, SV.bndL], by first | (simp [SV.bnd, SV.bndL]; done) | assumption⟩ ?_
          cases h1 : okTs t
          · have hd : distE t a b = 160 := by rw [distE, if_neg (by rw [h1]; decide)]
            rw [hd, if_neg (by decide)]
            rw [h1] at hj2
            refine hκ.runA 18 300 ?_
            simp (disch := omega) only [runR_next, runR_fork_true, runR_fork_false, runR_guard_ff, stepS, runOp, guardS, condS, toSR, sop, rOf, sPick, sInt, sBin, sUn, sExtract, ev, Env.get, setO, OutOK_stop, undefS, undef, halt, isAt, atC, execA_succ, List.size_toArray, List.length_cons, List.length_nil, List.range, List.range.loop, List.getElem?_toArray, List.getElem?_cons_succ, List.getElem?_cons_zero, Option.bind_some, ↓reduceIte, Nat.reduceAdd, Nat.reduceLT, Nat.reduceEqDiff, Nat.zero_add, Nat.reduceBEq, Bool.not_true, Bool.not_false, decide_true, beq_self_eq_true, and_self, gl0]
            exact hj2.less (by repeat' (first | exact EnvSub.nil _ | exact HeapSub.nil _ | refine EnvSub.cons rfl ?_ | refine HeapSub.cons rfl ?_ | (refine EnvSub.cons (by simp [Env.get]; done) ?_) | (refine HeapSub.cons (by simp [Heap.get]; done) ?_))) (by repeat' (first | exact EnvSub.nil _ | exact HeapSub.nil _ | refine EnvSub.cons rfl ?_ | refine HeapSub.cons rfl ?_ | (refine EnvSub.cons (by simp [Env.get]; done) ?_) | (refine HeapSub.cons (by simp [Heap.get]; done) ?_)))
          rw [h1] at hj2
          cases h2 : inN t a
          · have hd : distE t a b = 2 := by rw [distE, if_pos h1, if_neg (fun h => by rw [h2] at h; cases h.1)]
            rw [hd, if_neg (by decide)]
            rw [h2] at c3
            refine hκ.runA 18 300 ?_
            simp (disch := omega) only [runR_next, runR_need, runR_fork_false, runR_call, stepS, runOp, condS, toSR, sop, rOf, sLoadIn, sLoad, sUn, sIndexAddr, sExtract, elemT, obind, ev, evs, Env.get, Heap.get, takeN, cut, aggOf, setO, OutOK_need, OutOK_call, halt, isAt, atC, execA_succ, Int.cast_ofNat_Int, List.size_toArray, List.length_cons, List.length_nil, List.range, List.range.loop, List.getElem?_toArray, List.getElem?_cons_succ, List.getElem?_cons_zero, ↓reduceIte, Nat.reduceAdd, Nat.reduceLT, Nat.reduceEqDiff, Nat.zero_add, Nat.reduceBEq, Int.reduceToNat, Int.reduceLT, Int.reduceLE, Bool.not_true, true_and, and_self, forall_const, gl0, Tryd.sz3, Tryd.ag3, Tryd.sz24, Tryd.ag24, Tryd.underlying30]
            refine Does.ret hκ.hP hκ.hgl (c3) ⟨trivial, by simp [SV.bnd, SV.bndL], by first | (simp [SV.bnd, SV.bndL]; done) | assumption⟩ ?_
            refine hκ.runA 18 300 ?_
            simp (disch := omega) only [runR_next, runR_fork_true, runR_fork_false, runR_guard_ff, runR_guard_tf, stepS, runOp, guardS, condS, toSR, sop, rOf, sPick, sLoadIn, sLoad, sInt, sBin, sUn, sIndexAddr, elemT, obind, ev, evs, Env.get, Heap.get, takeN, cut, aggOf, setO, OutOK_stop, undefS, undef, halt, isAt, atC, execA_succ, Int.cast_ofNat_Int, List.size_toArray, List.length_cons, List.length_nil, List.range, List.range.loop, List.getElem?_toArray, List.getElem?_cons_succ, List.getElem?_cons_zero, Option.bind_some, ↓reduceIte, Nat.reduceAdd, Nat.reduceLT, Nat.reduceEqDiff, Nat.zero_add, Nat.reduceBEq, Int.reduceToNat, Int.reduceLT, Int.reduceLE, Bool.not_true, Bool.not_false, decide_true, beq_self_eq_true, and_self, gl0, Tryd.sz3, Tryd.sz24, Tryd.ag24, Tryd.underlying30]
            exact hj2.less (by repeat' (first | exact EnvSub.nil _ | exact HeapSub.nil _ | refine EnvSub.cons rfl ?_ | refine HeapSub.cons rfl ?_ | (refine EnvSub.cons (by simp [Env.get]; done) ?_) | (refine HeapSub.cons (by simp [Heap.get]; done) ?_))) (by repeat' (first | exact EnvSub.nil _ | exact HeapSub.nil _ | refine EnvSub.cons rfl ?_ | refine HeapSub.cons rfl ?_ | (refine EnvSub.cons (by simp [Env.get]; done) ?_) | (refine HeapSub.cons (by simp [Heap.get]; done) ?_)))
          cases h3 : inN t b
          · have hd : distE t a b = 2 := by rw [distE, if_pos h1, if_neg (fun h => by rw [h3] at h; cases h.2)]
            rw [hd, if_neg (by decide)]
            rw [h2] at c3
            rw [h3] at c4
            refine hκ.runA 18 300 ?_
            simp (disch := omega) only [runR_next, runR_need, runR_fork_false, runR_call, stepS, runOp, condS, toSR, sop, rOf, sLoadIn, sLoad, sUn, sIndexAddr, sExtract, elemT, obind, ev, evs, Env.get, Heap.get, takeN, cut, aggOf, setO, OutOK_need, OutOK_call, halt, isAt, atC, execA_succ, Int.cast_ofNat_Int, List.size_toArray, List.length_cons, List.length_nil, List.range, List.range.loop, List.getElem?_toArray, List.getElem?_cons_succ, List.getElem?_cons_zero, ↓reduceIte, Nat.reduceAdd, Nat.reduceLT, Nat.reduceEqDiff, Nat.zero_add, Nat.reduceBEq, Int.reduceToNat, Int.reduceLT, Int.reduceLE, Bool.not_true, true_and, and_self, forall_const, gl0, Tryd.sz3, Tryd.ag3, Tryd.sz24, Tryd.ag24, Tryd.underlying30]
            refine Does.ret hκ.hP hκ.hgl (c3) ⟨trivial, by simp [SV.bnd, SV.bndL], by first | (simp [SV.bnd, SV.bndL]; done) | assumption⟩ ?_
            refine hκ.runA 18 300 ?_
            simp (disch := omega) only [runR_next, runR_need, runR_guard_ff, runR_call, stepS, runOp, guardS, toSR, sop, rOf, sLoadIn, sLoad, sUn, sIndexAddr, elemT, obind, ev, evs, Env.get, Heap.get, takeN, cut, aggOf, setO, OutOK_need, OutOK_call, undefS, undef, halt, isAt, execA_succ, Int.cast_ofNat_Int, List.getElem?_toArray, List.getElem?_cons_succ, List.getElem?_cons_zero, Option.bind_some, ↓reduceIte, Nat.reduceLT, Nat.reduceEqDiff, Int.reduceToNat, Int.reduceLT, Int.reduceLE, Bool.not_true, Bool.not_false, true_and, and_self, forall_const, gl0, Tryd.sz3, Tryd.ag3, Tryd.sz24, Tryd.ag24, Tryd.underlying30]
            refine Does.ret hκ.hP hκ.hgl (c4) ⟨trivial, by simp [SV.bnd, SV.bndL], by first | (simp [SV.bnd, SV.bndL]; done) | assumption⟩ ?_
            refine hκ.runA 18 300 ?_
            simp (disch := omega) only [runR_next, runR_fork_true, runR_fork_false, runR_guard_ff, stepS, runOp, guardS, condS, toSR, sop, rOf, sPick, sInt, sBin, sUn, ev, Env.get, setO, OutOK_stop, undefS, undef, halt, isAt, atC, execA_succ, List.size_toArray, List.length_cons, List.length_nil, List.range, List.range.loop, List.getElem?_toArray, List.getElem?_cons_succ, List.getElem?_cons_zero, Option.bind_some, ↓reduceIte, Nat.reduceAdd, Nat.reduceLT, Nat.reduceEqDiff, Nat.zero_add, Nat.reduceBEq, Bool.not_true, Bool.not_false, decide_true, beq_self_eq_true, and_self, gl0]
            exact hj2.less (by repeat' (first | exact EnvSub.nil _ | exact HeapSub.nil _ | refine EnvSub.cons rfl ?_ | refine HeapSub.cons rfl ?_ | (refine EnvSub.cons (by simp [Env.get]; done) ?_) | (refine HeapSub.cons (by simp [Heap.get]; done) ?_))) (by repeat' (first | exact EnvSub.nil _ | exact HeapSub.nil _ | refine EnvSub.cons rfl ?_ | refine HeapSub.cons rfl ?_ | (refine EnvSub.cons (by simp [Env.get]; done) ?_) | (refine HeapSub.cons (by simp [Heap.get]; done) ?_)))
          have hd : distE t a b = 0 := by rw [distE, if_pos h1, if_pos ⟨h2, h3⟩]
          rw [hd, if_pos rfl]
          rw [h2] at c3
          rw [h3] at c4
          have c5 := rdist_int t a b ((inN_iff _ _).1 h2) ((inN_iff _ _).1 h3) hln
          refine hκ.runA 18 300 ?_
          simp (disch := omega) only [runR_next, runR_need, runR_fork_false, runR_call, stepS, runOp, condS, toSR, sop, rOf, sLoadIn, sLoad, sUn, sIndexAddr, sExtract, elemT, obind, ev, evs, Env.get, Heap.get, takeN, cut, aggOf, setO, OutOK_need, OutOK_call, halt, isAt, atC, execA_succ, Int.cast_ofNat_Int, List.size_toArray, List.length_cons, List.length_nil, List.range, List.range.loop, List.getElem?_toArray, List.getElem?_cons_succ, List.getElem?_cons_zero, ↓reduceIte, Nat.reduceAdd, Nat.reduceLT, Nat.reduceEqDiff, Nat.zero_add, Nat.reduceBEq, Int.reduceToNat, Int.reduceLT, Int.reduceLE, Bool.not_true, true_and, and_self, forall_const, gl0, Tryd.sz3, Tryd.ag3, Tryd.sz24, Tryd.ag24, Tryd.underlying30]
          refine Does.ret hκ.hP hκ.hgl (c3) ⟨trivial, by simp [SV.bnd, SV.bndL], by first | (simp [SV.bnd, SV.bndL]; done) | assumption⟩ ?_
          refine hκ.runA 18 300 ?_
          simp (disch := omega) only [runR_next, runR_need, runR_guard_ff, runR_call, stepS, runOp, guardS, toSR, sop, rOf, sLoadIn, sLoad, sUn, sIndexAddr, elemT, obind, ev, evs, Env.get, Heap.get, takeN, cut, aggOf, setO, OutOK_need, OutOK_call, undefS, undef, halt, isAt, execA_succ, Int.cast_ofNat_Int, List.getElem?_toArray, List.getElem?_cons_succ, List.getElem?_cons_zero, Option.bind_some, ↓reduceIte, Nat.reduceLT, Nat.reduceEqDiff, Int.reduceToNat, Int.reduceLT, Int.reduceLE, Bool.not_true, Bool.not_false, true_and, and_self, forall_const, gl0, Tryd.sz3, Tryd.ag3, Tryd.sz24, Tryd.ag24, Tryd.underlying30]
          refine Does.ret hκ.hP hκ.hgl (c4) ⟨trivial, by simp [SV.bnd, SV.bndL], by first | (simp [SV.bnd, SV.bndL]; done) | assumption⟩ ?_
          refine hκ.runA 18 300 ?_
          simp (disch := omega) only [runR_next, runR_need, runR_fork_false, runR_guard_ff, runR_call, stepS, runOp, guardS, condS, toSR, sop, rOf, sPick, sLoadIn, sLoad, sUn, sIndexAddr, elemT, obind, ev, evs, Env.get, Heap.get, takeN, cut, aggOf, setO, OutOK_need, OutOK_call, undefS, undef, halt, isAt, atC, execA_succ, Int.cast_ofNat_Int, List.size_toArray, List.length_cons, List.length_nil, List.range, List.range.loop, List.getElem?_toArray, List.getElem?_cons_succ, List.getElem?_cons_zero, Option.bind_some, ↓reduceIte, Nat.reduceAdd, Nat.reduceLT, Nat.reduceEqDiff, Nat.zero_add, Nat.reduceBEq, Int.reduceToNat, Int.reduceLT, Int.reduceLE, Bool.not_true, Bool.not_false, true_and, and_self, forall_const, gl0, Tryd.sz3, Tryd.ag3, Tryd.sz24, Tryd.ag24, Tryd.underlying30]
          refine Does.ret hκ.hP hκ.hgl (c5) ⟨trivial, by simp [SV.bnd, SV.bndL], by first | (simp [SV.bnd, SV.bndL]; done) | assumption⟩ ?_
          refine hκ.runA 18 300 ?_
          simp (disch := omega) only [runR_next, runR_fork_false, runR_guard_ff, stepS, runOp, guardS, condS, toSR, sop, rOf, sPick, sInt, sBin, ev, Env.get, setO, OutOK_stop, undefS, undef, halt, isAt, atC, execA_succ, List.size_toArray, List.length_cons, List.length_nil, List.range, List.range.loop, List.getElem?_toArray, List.getElem?_cons_succ, List.getElem?_cons_zero, Option.bind_some, ↓reduceIte, Nat.reduceAdd, Nat.reduceLT, Nat.reduceEqDiff, Nat.zero_add, Nat.reduceBEq, Bool.not_true, Bool.not_false, decide_true, beq_self_eq_true, and_self, gl0]
          exact hj2.less (by repeat' (first | exact EnvSub.nil _ | exact HeapSub.nil _ | refine EnvSub.cons rfl ?_ | refine HeapSub.cons rfl ?_ | (refine EnvSub.cons (by simp [Env.get]; done) ?_) | (refine HeapSub.cons (by simp [Heap.get]; done) ?_))) (by repeat' (first | exact EnvSub.nil _ | exact HeapSub.nil _ | refine EnvSub.cons rfl ?_ | refine HeapSub.cons rfl ?_ | (refine EnvSub.cons (by simp [Env.get]; done) ?_) | (refine HeapSub.cons (by simp [Heap.get]; done) ?_)))
        intro _ _
        dsimp only
        clear c2 c4
        refine hκ.run 300 ?_
        simp (disch := omega) only [sBuiltin, exec_succ, runR_next, runR_stop, stepS, runOp, toSR, sop, rOf, sLen, ev, Env.get, OutOK_stop, List.size_toArray, List.length_cons, List.length_nil, List.length_map, List.range, List.range.loop, List.getElem?_toArray, List.getElem?_cons_succ, List.getElem?_cons_zero, ↓reduceIte, Nat.reduceAdd, Nat.reduceLT, Nat.reduceEqDiff, Nat.zero_add, gl0, Tryd.underlying26]
        refine Sat.less (Sat.loop (γ := Nat) (fun j => ([(80, I j), (79, I am.length), (78, Css am), (11, .ptr 3 0 0 0), (32, I k), (31, I ps.length), (30, .rd 2 (ps.map e2)), (9, Bo (okTs t)), (8, .ptr 2 0 0 0), (7, .ptr 1 0 0 0), (2, Css am)], [(3, .own [I a, I b] 30), (2, .own [Ss t] 24), (1, .own [Ss t] 24)], 4)) (fun j => am.length - j) (fun j => j ≤ am.length) ?inner 0 (Nat.zero_le _)) (by repeat' (first | exact EnvSub.nil _ | exact HeapSub.nil _ | refine EnvSub.cons rfl ?_ | refine HeapSub.cons rfl ?_ | (refine EnvSub.cons (by simp [Env.get]; done) ?_) | (refine HeapSub.cons (by simp [Heap.get]; done) ?_))) (by repeat' (first | exact EnvSub.nil _ | exact HeapSub.nil _ | refine EnvSub.cons rfl ?_ | refine HeapSub.cons rfl ?_ | (refine EnvSub.cons (by simp [Env.get]; done) ?_) | (refine HeapSub.cons (by simp [Heap.get]; done) ?_)))
        case inner =>
          intro j hjl ihj
          dsimp only at hjl ihj ⊢
          refine hκ.runA 36 300 ?_
          simp (disch := omega) only [runR_next, stepS, runOp, condS, toSR, sop, sInt, sBin, ev, Env.get, halt, isAt, atC, execA_succ, List.size_toArray, List.length_cons, List.length_nil, List.range, List.range.loop, List.getElem?_toArray, List.getElem?_cons_zero, ↓reduceIte, Nat.reduceLT, Nat.reduceEqDiff, Nat.zero_add, Nat.reduceBEq, gl0]
          refine OutOK_fork (fun h => ?_) (fun h => ?_) <;> try simp only [Bool.not_true, Bool.not_false, decide_eq_true_eq, decide_eq_false_iff_not, Bool.not_eq_true', Bool.not_eq_false', Bool.and_eq_true, Bool.or_eq_false_iff, Bool.or_eq_true, Bool.and_eq_false_iff] at h
          · have hy := ihj (j + 1) (by omega) (by omega)
            clear ihj
            have hs := ha _ (getD_mem (show j < am.length by omega))
            have gs : (List.map eC am).getD j [] = eC (am.getD j default) := getD_map _ _ _ (by omega)
            generalize am.getD j default = s at gs hs
            rw [eC] at gs
            by_cases h6 : j = 6
            · have e6 : ((j : Int) = 6) = True := by first | (simp only [eq_iff_iff, iff_true]; first | assumption | omega) | (simp; omega)
              simp (disch := omega) only [runR_next, runR_need, runR_fork_true, runR_stop, stepS, runOp, condS, goS, toSR, sop, rOf, sLoad, sInt, sBin, sIndexAddr, elemT, obind, ev, Env.get, takeN, cut, aggOf, exitTo, OutOK_need, OutOK_stop, halt, isAt, atC, execA_succ, Bool.false_eq_true, List.size_toArray, List.length_cons, List.length_nil, List.length_map, List.range, List.range.loop, List.getElem?_toArray, List.getElem?_cons_succ, List.getElem?_cons_zero, ↓reduceIte, Nat.reduceAdd, Nat.reduceLT, Nat.reduceEqDiff, Nat.zero_add, Nat.reduceBEq, Int.toNat_natCast, decide_true, beq_self_eq_true, wrap_i64, Tryd.underlying26, Tryd.sz37, Tryd.ag37, e6, gs]
              (repeat (refine ⟨by first | omega | (refine ⟨?_, ?_⟩ <;> omega) | trivial | (simp; done) | decide +kernel, fun _ => ?_⟩))
              refine Sat.via (fun i => i) (hz) (by intro i j; (repeat (first | omega | split))) (by repeat' (first | exact EnvVia.nil | refine EnvVia.cons (by first | trivial | decide | (simp [SV.bnd, SV.bndL]; done)) rfl ?_)) (by repeat' (first | exact HeapVia.nil | refine HeapVia.cons (by decide) (by first | trivial | (simp [Blk.bnd, SV.bnd, SV.bndL]; done) | exact bndL_mapV _ _ _ | exact LR.bnd (by rw [l2]; simp [bndE, SV.bnd, SV.bndL]) (by rw [l6]; decide)) (by first | rfl | (simp only [Blk.ren, renL_mapV]; rfl) | (rw [LR.ren (by rw [l2] <;> rfl) (by rw [l6] <;> rfl)]; rfl)) ?_)) ⟨by have := hκ.hm; (try dsimp only at this); (first | done | omega), fun i hi => by have := hκ.hm; (try dsimp only at this); (first | omega | (dsimp only; omega) | (rw [if_neg (by omega)]))⟩ ⟨by simp, rfl⟩
            have e6 : ((j : Int) = 6) = False := by first | (simp only [eq_iff_iff, iff_false]; first | assumption | omega) | (simp; omega)
            have c6 := near_ok t a s ht hln hs
            have c7 := rright_ok s
            have n1 := sameNil [] (by decide)
            rw [decide_eq_true rfl] at n1
            simp (disch := omega) only [runR_next, runR_need, runR_fork_false, runR_call, stepS, runOp, condS, toSR, sop, rOf, sLoadIn, sLoad, sInt, sBin, sIndexAddr, elemT, obind, ev, evs, Env.get, Heap.get, takeN, cut, aggOf, OutOK_need, OutOK_call, halt, isAt, atC, execA_succ, Int.cast_ofNat_Int, List.size_toArray, List.length_cons, List.length_nil, List.length_map, List.range, List.range.loop, List.getElem?_toArray, List.getElem?_cons_succ, List.getElem?_cons_zero, ↓reduceIte, Nat.reduceAdd, Nat.reduceLT, Nat.reduceEqDiff, Nat.zero_add, Nat.reduceBEq, Int.reduceToNat, Int.reduceLT, Int.reduceLE, Int.toNat_natCast, decide_false, true_and, and_self, forall_const, Tryd.sz3, Tryd.ag3, Tryd.sz24, Tryd.ag24, Tryd.underlying26, Tryd.underlying30, Tryd.sz37, Tryd.ag37, e6, gs]
            (repeat (refine ⟨by first | omega | (refine ⟨?_, ?_⟩ <;> omega) | trivial | (simp; done) | decide +kernel, fun _ => ?_⟩))
            refine Does.ret hκ.hP hκ.hgl (c6) ⟨trivial, by simp [SV.bnd, SV.bndL], by first | (simp [SV.bnd, SV.bndL]; done) | assumption⟩ ?_
            cases h1 : okTs t
            · have hd : nearE t a s = 160 := by rw [nearE, if_neg (by rw [h1]; decide)]
              rw [hd, if_neg (by decide)]
              rw [h1] at hy
              refine hκ.run 300 ?_
              simp (disch := omega) only [exec_succ, runR_next, runR_fork_true, runR_guard_ff, runR_call, stepS, runOp, guardS, condS, toSR, sop, rOf, sInt, sBin, sUn, sExtract, ev, evs, Env.get, setO, OutOK_call, undefS, undef, List.size_toArray, List.length_cons, List.length_nil, List.range, List.range.loop, List.getElem?_toArray, List.getElem?_cons_succ, List.getElem?_cons_zero, Option.bind_some, ↓reduceIte, Nat.reduceAdd, Nat.reduceLT, Nat.reduceEqDiff, Nat.zero_add, Bool.not_true, Bool.not_false, decide_true, and_self, gl0]
              refine Does.ret hκ.hP hκ.hgl (n1) ⟨trivial, by simp [SV.bnd, SV.bndL], by first | (simp [SV.bnd, SV.bndL]; done) | assumption⟩ ?_
              refine hκ.run 300 ?_
              simp (disch := omega) only [exec_succ, runR_next, runR_fork_false, runR_guard_ff, runR_stop, stepS, runOp, guardS, condS, toSR, sop, rOf, sPick, sInt, sBin, sUn, ev, Env.get, setO, OutOK_stop, undefS, undef, List.size_toArray, List.length_cons, List.length_nil, List.range, List.range.loop, List.getElem?_toArray, List.getElem?_cons_succ, List.getElem?_cons_zero, Option.bind_some, ↓reduceIte, Nat.reduceAdd, Nat.reduceLT, Nat.reduceEqDiff, Nat.zero_add, Bool.not_true, Bool.not_false, and_self, wrap_i64, gl0]
              exact hy.less (by repeat' (first | exact EnvSub.nil _ | exact HeapSub.nil _ | refine EnvSub.cons rfl ?_ | refine HeapSub.cons rfl ?_ | (refine EnvSub.cons (by simp [Env.get]; done) ?_) | (refine HeapSub.cons (by simp [Heap.get]; done) ?_))) (by repeat' (first | exact EnvSub.nil _ | exact HeapSub.nil _ | refine EnvSub.cons rfl ?_ | refine HeapSub.cons rfl ?_ | (refine EnvSub.cons (by simp [Env.get]; done) ?_) | (refine HeapSub.cons (by simp [Heap.get]; done) ?_)))
            rw [h1] at hy
            cases h2 : inN t a
            · have hd : nearE t a s = 2 := by rw [nearE, if_pos h1, if_neg (fun h => by rw [h2] at h; cases h)]
              rw [hd, if_neg (by decide)]
              rw [h2] at c3
              refine hκ.run 300 ?_
              simp (disch := omega) only [exec_succ, runR_next, runR_need, runR_fork_false, runR_call, stepS, runOp, condS, toSR, sop, rOf, sLoadIn, sLoad, sUn, sIndexAddr, sExtract, elemT, obind, ev, evs, Env.get, Heap.get, takeN, cut, aggOf, setO, OutOK_need, OutOK_call, Int.cast_ofNat_Int, List.size_toArray, List.length_cons, List.length_nil, List.range, List.range.loop, List.getElem?_toArray, List.getElem?_cons_succ, List.getElem?_cons_zero, ↓reduceIte, Nat.reduceAdd, Nat.reduceLT, Nat.reduceEqDiff, Nat.zero_add, Int.reduceToNat, Int.reduceLT, Int.reduceLE, Bool.not_true, true_and, and_self, forall_const, gl0, Tryd.sz3, Tryd.ag3, Tryd.sz24, Tryd.ag24, Tryd.underlying30]
              refine Does.ret hκ.hP hκ.hgl (c3) ⟨trivial, by simp [SV.bnd, SV.bndL], by first | (simp [SV.bnd, SV.bndL]; done) | assumption⟩ ?_
              refine hκ.run 300 ?_
              simp (disch := omega) only [exec_succ, runR_next, runR_fork_true, runR_guard_ff, runR_call, stepS, runOp, guardS, condS, toSR, sop, rOf, sInt, sBin, sUn, ev, evs, Env.get, setO, OutOK_call, undefS, undef, List.size_toArray, List.length_cons, List.length_nil, List.range, List.range.loop, List.getElem?_toArray, List.getElem?_cons_succ, List.getElem?_cons_zero, Option.bind_some, ↓reduceIte, Nat.reduceAdd, Nat.reduceLT, Nat.reduceEqDiff, Nat.zero_add, Bool.not_true, Bool.not_false, decide_true, and_self, gl0]
              refine Does.ret hκ.hP hκ.hgl (n1) ⟨trivial, by simp [SV.bnd, SV.bndL], by first | (simp [SV.bnd, SV.bndL]; done) | assumption⟩ ?_
              refine hκ.run 300 ?_
              simp (disch := omega) only [exec_succ, runR_next, runR_fork_false, runR_guard_ff, runR_stop, stepS, runOp, guardS, condS, toSR, sop, rOf, sPick, sInt, sBin, sUn, ev, Env.get, setO, OutOK_stop, undefS, undef, List.size_toArray, List.length_cons, List.length_nil, List.range, List.range.loop, List.getElem?_toArray, List.getElem?_cons_succ, List.getElem?_cons_zero, Option.bind_some, ↓reduceIte, Nat.reduceAdd, Nat.reduceLT, Nat.reduceEqDiff, Nat.zero_add, Bool.not_true, Bool.not_false, and_self, wrap_i64, gl0]
              exact hy.less (by repeat' (first | exact EnvSub.nil _ | exact HeapSub.nil _ | refine EnvSub.cons rfl ?_ | refine HeapSub.cons rfl ?_ | (refine EnvSub.cons (by simp [Env.get]; done) ?_) | (refine HeapSub.cons (by simp [Heap.get]; done) ?_))) (by repeat' (first | exact EnvSub.nil _ | exact HeapSub.nil _ | refine EnvSub.cons rfl ?_ | refine HeapSub.cons rfl ?_ | (refine EnvSub.cons (by simp [Env.get]; done) ?_) | (refine HeapSub.cons (by simp [Heap.get]; done) ?_)))
            rw [h2] at c3
            by_cases h3 : s < 256
            case neg =>
              have hd : nearE t a s = 140 := by rw [nearE, if_pos h1, if_pos h2, if_neg h3]
              rw [hd, if_neg (by decide)]
              rw [decide_eq_false h3] at c7
              refine hκ.run 300 ?_
              simp (disch := omega) only [exec_succ, runR_next, runR_need, runR_fork_false, runR_call, stepS, runOp, condS, toSR, sop, rOf, sLoadIn, sLoad, sUn, sIndexAddr, sExtract, elemT, obind, ev, evs, Env.get, Heap.get, takeN, cut, aggOf, setO, OutOK_need, OutOK_call, Int.cast_ofNat_Int, List.size_toArray, List.length_cons, List.length_nil, List.range, List.range.loop, List.getElem?_toArray, List.getElem?_cons_succ, List.getElem?_cons_zero, ↓reduceIte, Nat.reduceAdd, Nat.reduceLT, Nat.reduceEqDiff, Nat.zero_add, Int.reduceToNat, Int.reduceLT, Int.reduceLE, Bool.not_true, true_and, and_self, forall_const, gl0, Tryd.sz3, Tryd.ag3, Tryd.sz24, Tryd.ag24, Tryd.underlying30]
              refine Does.ret hκ.hP hκ.hgl (c3) ⟨trivial, by simp [SV.bnd, SV.bndL], by first | (simp [SV.bnd, SV.bndL]; done) | assumption⟩ ?_
              refine hκ.run 300 ?_
              simp (disch := omega) only [exec_succ, runR_next, runR_fork_false, runR_call, stepS, runOp, condS, toSR, sop, rOf, sUn, ev, evs, Env.get, setO, OutOK_call, List.size_toArray, List.length_cons, List.length_nil, List.range, List.range.loop, List.getElem?_toArray, List.getElem?_cons_succ, List.getElem?_cons_zero, ↓reduceIte, Nat.reduceAdd, Nat.reduceLT, Nat.reduceEqDiff, Nat.zero_add, Bool.not_true, gl0]
              refine Does.ret hκ.hP hκ.hgl (c7) ⟨trivial, by simp [SV.bnd, SV.bndL], by first | (simp [SV.bnd, SV.bndL]; done) | assumption⟩ ?_
              refine hκ.run 300 ?_
              simp (disch := omega) only [exec_succ, runR_next, runR_fork_true, runR_guard_ff, runR_call, stepS, runOp, guardS, condS, toSR, sop, rOf, sInt, sBin, sUn, ev, evs, Env.get, setO, OutOK_call, undefS, undef, List.size_toArray, List.length_cons, List.length_nil, List.range, List.range.loop, List.getElem?_toArray, List.getElem?_cons_succ, List.getElem?_cons_zero, Option.bind_some, ↓reduceIte, Nat.reduceAdd, Nat.reduceLT, Nat.reduceEqDiff, Nat.zero_add, Bool.not_true, Bool.not_false, decide_true, and_self, gl0]
              refine Does.ret hκ.hP hκ.hgl (n1) ⟨trivial, by simp [SV.bnd, SV.bndL], by first | (simp [SV.bnd, SV.bndL]; done) | assumption⟩ ?_
              refine hκ.run 300 ?_
              simp (disch := omega) only [exec_succ, runR_next, runR_fork_false, runR_guard_ff, runR_stop, stepS, runOp, guardS, condS, toSR, sop, rOf, sPick, sInt, sBin, sUn, ev, Env.get, setO, OutOK_stop, undefS, undef, List.size_toArray, List.length_cons, List.length_nil, List.range, List.range.loop, List.getElem?_toArray, List.getElem?_cons_succ, List.getElem?_cons_zero, Option.bind_some, ↓reduceIte, Nat.reduceAdd, Nat.reduceLT, Nat.reduceEqDiff, Nat.zero_add, Bool.not_true, Bool.not_false, and_self, wrap_i64, gl0]
              exact hy.less (by repeat' (first | exact EnvSub.nil _ | exact HeapSub.nil _ | refine EnvSub.cons rfl ?_ | refine HeapSub.cons rfl ?_ | (refine EnvSub.cons (by simp [Env.get]; done) ?_) | (refine HeapSub.cons (by simp [Heap.get]; done) ?_))) (by repeat' (first | exact EnvSub.nil _ | exact HeapSub.nil _ | refine EnvSub.cons rfl ?_ | refine HeapSub.cons rfl ?_ | (refine EnvSub.cons (by simp [Env.get]; done) ?_) | (refine HeapSub.cons (by simp [Heap.get]; done) ?_)))
            have hd : nearE t a s = 0 := by rw [nearE, if_pos h1, if_pos h2, if_pos h3]
            rw [hd, if_pos rfl]
            rw [decide_eq_true h3] at c7
            have c8 := rnear_int t a s h1 ((inN_iff _ _).1 h2) hln
            have hnl : (nearL t a.toNat s).length ≤ 32 := by
              rw [← near_same h1]
              have q1 := bkt_long (farK t a.toNat) (wL s t.length) 4
              have q2 := wL_len s t.length
              have q3 := ((okTs_iff _).1 h1).2.2
              omega
            generalize nearL t a.toNat s = L at c8 hnl ⊢
            have n2 := sameInts_ok L L (by omega)
            rw [decide_eq_true rfl] at n2
            refine hκ.run 300 ?_
            simp (disch := omega) only [exec_succ, runR_next, runR_need, runR_fork_false, runR_call, stepS, runOp, condS, toSR, sop, rOf, sLoadIn, sLoad, sUn, sIndexAddr, sExtract, elemT, obind, ev, evs, Env.get, Heap.get, takeN, cut, aggOf, setO, OutOK_need, OutOK_call, Int.cast_ofNat_Int, List.size_toArray, List.length_cons, List.length_nil, List.range, List.range.loop, List.getElem?_toArray, List.getElem?_cons_succ, List.getElem?_cons_zero, ↓reduceIte, Nat.reduceAdd, Nat.reduceLT, Nat.reduceEqDiff, Nat.zero_add, Int.reduceToNat, Int.reduceLT, Int.reduceLE, Bool.not_true, true_and, and_self, forall_const, gl0, Tryd.sz3, Tryd.ag3, Tryd.sz24, Tryd.ag24, Tryd.underlying30]
            refine Does.ret hκ.hP hκ.hgl (c3) ⟨trivial, by simp [SV.bnd, SV.bndL], by first | (simp [SV.bnd, SV.bndL]; done) | assumption⟩ ?_
            refine hκ.run 300 ?_
            simp (disch := omega) only [exec_succ, runR_next, runR_fork_false, runR_call, stepS, runOp, condS, toSR, sop, rOf, sUn, ev, evs, Env.get, setO, OutOK_call, List.size_toArray, List.length_cons, List.length_nil, List.range, List.range.loop, List.getElem?_toArray, List.getElem?_cons_succ, List.getElem?_cons_zero, ↓reduceIte, Nat.reduceAdd, Nat.reduceLT, Nat.reduceEqDiff, Nat.zero_add, Bool.not_true, gl0]
            refine Does.ret hκ.hP hκ.hgl (c7) ⟨trivial, by simp [SV.bnd, SV.bndL], by first | (simp [SV.bnd, SV.bndL]; done) | assumption⟩ ?_
            refine hκ.run 300 ?_
            simp (disch := omega) only [exec_succ, runR_next, runR_need, runR_fork_false, runR_call, stepS, runOp, condS, toSR, sop, rOf, sLoadIn, sLoad, sUn, sIndexAddr, elemT, obind, ev, evs, Env.get, Heap.get, takeN, cut, aggOf, setO, OutOK_need, OutOK_call, Int.cast_ofNat_Int, List.size_toArray, List.length_cons, List.length_nil, List.range, List.range.loop, List.getElem?_toArray, List.getElem?_cons_succ, List.getElem?_cons_zero, ↓reduceIte, Nat.reduceAdd, Nat.reduceLT, Nat.reduceEqDiff, Nat.zero_add, Int.reduceToNat, Int.reduceLT, Int.reduceLE, Bool.not_true, true_and, and_self, forall_const, gl0, Tryd.sz3, Tryd.ag3, Tryd.sz24, Tryd.ag24, Tryd.underlying30]
            refine Does.ret hκ.hP hκ.hgl (c8) ⟨trivial, by simp [SV.bnd, SV.bndL], by first | (simp [SV.bnd, SV.bndL]; done) | assumption⟩ ?_
            refine hκ.run 300 ?_
            simp (disch := omega) only [exec_succ, runR_next, runR_guard_ff, runR_call, stepS, runOp, guardS, toSR, sop, rOf, sInt, sBin, ev, evs, Env.get, setO, OutOK_call, undefS, undef, List.size_toArray, List.length_cons, List.length_nil, List.range, List.range.loop, List.getElem?_toArray, List.getElem?_cons_succ, List.getElem?_cons_zero, Option.bind_some, ↓reduceIte, Nat.reduceAdd, Nat.reduceLT, Nat.reduceEqDiff, Nat.zero_add, Bool.not_true, Bool.not_false, decide_true, and_self, gl0]
            refine Does.ret hκ.hP hκ.hgl (n2) ⟨trivial, by simp [SV.bnd, SV.bndL], by first | (simp [SV.bnd, SV.bndL]; done) | assumption⟩ ?_
            refine hκ.run 300 ?_
            simp (disch := omega) only [exec_succ, runR_next, runR_fork_false, runR_guard_ff, runR_stop, stepS, runOp, guardS, condS, toSR, sop, rOf, sPick, sInt, sBin, sUn, ev, Env.get, setO, OutOK_stop, undefS, undef, List.size_toArray, List.length_cons, List.length_nil, List.range, List.range.loop, List.getElem?_toArray, List.getElem?_cons_succ, List.getElem?_cons_zero, Option.bind_some, ↓reduceIte, Nat.reduceAdd, Nat.reduceLT, Nat.reduceEqDiff, Nat.zero_add, Bool.not_true, Bool.not_false, and_self, wrap_i64, gl0]
            exact hy.less (by repeat' (first | exact EnvSub.nil _ | exact HeapSub.nil _ | refine EnvSub.cons rfl ?_ | refine HeapSub.cons rfl ?_ | (refine EnvSub.cons (by simp [Env.get]; done) ?_) | (refine HeapSub.cons (by simp [Heap.get]; done) ?_))) (by repeat' (first | exact EnvSub.nil _ | exact HeapSub.nil _ | refine EnvSub.cons rfl ?_ | refine HeapSub.cons rfl ?_ | (refine EnvSub.cons (by simp [Env.get]; done) ?_) | (refine HeapSub.cons (by simp [Heap.get]; done) ?_)))
          · simp (disch := omega) only [runR_next, runR_stop, stepS, runOp, goS, toSR, sop, rOf, sInt, sBin, ev, Env.get, exitTo, OutOK_stop, halt, isAt, atC, execA_succ, List.size_toArray, List.length_cons, List.length_nil, List.range, List.range.loop, List.getElem?_toArray, List.getElem?_cons_succ, List.getElem?_cons_zero, ↓reduceIte, Nat.reduceAdd, Nat.reduceLT, Nat.reduceEqDiff, Nat.zero_add, Nat.reduceBEq, beq_self_eq_true, wrap_i64]
            refine Sat.via (fun i => i) (hz) (by intro i j; (repeat (first | omega | split))) (by repeat' (first | exact EnvVia.nil | refine EnvVia.cons (by first | trivial | decide | (simp [SV.bnd, SV.bndL]; done)) rfl ?_)) (by repeat' (first | exact HeapVia.nil | refine HeapVia.cons (by decide) (by first | trivial | (simp [Blk.bnd, SV.bnd, SV.bndL]; done) | exact bndL_mapV _ _ _ | exact LR.bnd (by rw [l2]; simp [bndE, SV.bnd, SV.bndL]) (by rw [l6]; decide)) (by first | rfl | (simp only [Blk.ren, renL_mapV]; rfl) | (rw [LR.ren (by rw [l2] <;> rfl) (by rw [l6] <;> rfl)]; rfl)) ?_)) ⟨by have := hκ.hm; (try dsimp only at this); (first | done | omega), fun i hi => by have := hκ.hm; (try dsimp only at this); (first | omega | (dsimp only; omega) | (rw [if_neg (by omega)]))⟩ ⟨by simp, rfl⟩
      · simp (disch := omega) only [runR_next, stepS, goS, exitTo, OutOK_stop, halt, isAt, atC, execA_succ, ↓reduceIte, beq_self_eq_true]
        exact hj.less (by repeat' (first | exact EnvSub.nil _ | exact HeapSub.nil _ | refine EnvSub.cons rfl ?_ | refine HeapSub.cons rfl ?_ | (refine EnvSub.cons (by simp [Env.get]; done) ?_) | (refine HeapSub.cons (by simp [Heap.get]; done) ?_))) (by repeat' (first | exact EnvSub.nil _ | exact HeapSub.nil _ | refine EnvSub.cons rfl ?_ | refine HeapSub.cons rfl ?_ | (refine EnvSub.cons (by simp [Env.get]; done) ?_) | (refine HeapSub.cons (by simp [Heap.get]; done) ?_)))
  intro _ _
  dsimp only
  refine hκ.run 300 ?_
  simp (disch := omega) only [exec_succ, runR_next, runR_call, stepS, runOp, toSR, sop, rOf, sLoadIn, sLoad, ev, evs, Env.get, Heap.get, takeN, cut, aggOf, OutOK_call, List.size_toArray, List.length_cons, List.length_nil, List.range, List.range.loop, List.getElem?_toArray, List.getElem?_cons_succ, List.getElem?_cons_zero, ↓reduceIte, Nat.reduceAdd, Nat.reduceLT, Nat.reduceEqDiff, Nat.zero_add, gl0, Tryd.sz24, Tryd.ag24]
  refine Does.ret hκ.hP hκ.hgl (c9) ⟨trivial, by simp [SV.bnd, SV.bndL], by first | (simp [SV.bnd, SV.bndL]; done) | assumption⟩ ?_
  refine hκ.run 300 ?_
  simp (disch := omega) only [exec_succ, runR_next, runR_stop, stepS, runOp, toSR, sop, rOf, ev, Env.get, setO, OutOK_stop, List.getElem?_toArray, List.getElem?_cons_succ, List.getElem?_cons_zero, ↓reduceIte, Nat.reduceLT, gl0]
  refine hκ.ret _ _ _ _ _ _ trivial rfl ?_
  rfl
end Go.Proofs.YtbgnnmlhpaaebaaDoor

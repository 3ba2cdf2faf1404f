/- The walk of the law PoolRead. No condition. -/
import Derived.Test.YtfhiaddbpacgeaaLc
namespace Go.Proofs.Ytfhiaddbpacgeaa
open Go Go.Sy
set_option maxRecDepth 100000
set_option linter.unusedSimpArgs false
set_option linter.unusedVariables false

theorem decE_cases (b : List Int) : decE b = 0 ∨ decE b = 7 ∨ decE b = 180 := by
  cases b with
  | nil => exact .inr (.inl rfl)
  | cons b t =>
    rw [decE]
    split
    · exact .inr (.inl rfl)
    · split
      · exact .inl rfl
      · exact .inr (.inr rfl)
theorem decE_zero {b : List Int} (hb : isB b) (h : decE b = 0) : okP (decX b) = true ∧ encP (decX b) = b := by
  cases b with
  | nil => cases h
  | cons b t =>
    rw [decE] at h
    split at h
    · cases h
    · split at h
      · rename_i h2
        exact ⟨h2.1, (encP_dec (fun n hn => hb n (List.mem_cons_of_mem _ hn))).2 h2.2⟩
      · cases h
theorem cI_back (xs : List Nat) : (xs.map cI).map Int.toNat = xs := by
  rw [List.map_map]
  conv => rhs; rw [← List.map_id xs]
  apply List.map_congr_left
  intro s _
  simp [cI]
theorem dec_enc {p : List Nat} (h : okP p = true) : decE (encP p) = 0 ∧ decX (encP p) = p := by
  constructor
  · rw [encP, decE, List.length_map, if_neg (by omega), if_pos ⟨by rw [cI_back]; exact h, rfl⟩]
  · rw [decX, encP, List.tail_cons, cI_back]
theorem dec_less (p : List Nat) {i : Nat} (h : i < (encP p).length) : decE ((encP p).take i) = 7 := by
  cases i with
  | zero => rfl
  | succ i =>
    simp only [encP, List.length_cons, List.length_map] at h
    rw [encP, List.take_succ_cons, decE, if_pos]
    simp; omega
theorem encP_len (p : List Nat) : (encP p).length = p.length + 1 := by simp [encP]
theorem read_law (x : List Nat) (b0 : List Int) (hx : u32s x) (hn : x.length < 2 ^ 46) (hb0 : isB b0) (hn2 : b0.length < 2 ^ 47) : Law Try.prog gl0 7 [Po x, By b0] := by
  have cx := short_ok x hn
  obtain ⟨px, pl⟩ := take12 x hx
  generalize hpp : x.take 12 = p at cx px pl
  have c2 := enc_ok p px (by omega)
  refine Law.of (nt := 89) (res := [.tmp 4]) Try.mixed Try.func7 rfl rfl rfl rfl fun κ xc hκ => hκ.run 300 ?_
  simp (disch := omega) only [exec_succ, runR_next, runR_call, stepS, runOp, toSR, sop, rOf, rNew, sBox, isArr, ev, evs, Env.get, cellsS, envOf, OutOK_call, Bool.false_eq_true, List.size_toArray, List.length_cons, List.length_nil, List.range, List.range.loop, List.getElem?_toArray, List.getElem?_cons_succ, List.getElem?_cons_zero, ↓reduceIte, Nat.reduceAdd, Nat.reduceLT, Nat.zero_add, gl0]
  refine Does.ret hκ.hP hκ.hgl (wakes_ok) ⟨trivial, by simp [SV.bnd, SV.bndL], by first | (simp [SV.bnd, SV.bndL]; done) | assumption⟩ ?_
  refine hκ.run 300 ?_
  simp (disch := omega) only [exec_succ, runR_next, runR_fork_false, runR_call, stepS, runOp, condS, toSR, sop, rOf, sLoadIn, sLoad, sUn, ev, evs, Env.get, Heap.get, takeN, cut, aggOf, setO, OutOK_call, List.size_toArray, List.length_cons, List.length_nil, List.range, List.range.loop, List.getElem?_toArray, List.getElem?_cons_succ, List.getElem?_cons_zero, ↓reduceIte, Nat.reduceAdd, Nat.reduceLT, Nat.reduceEqDiff, Nat.zero_add, Bool.not_true, gl0, Try.sz26, Try.ag26]
  refine Does.ret hκ.hP hκ.hgl (cx) ⟨trivial, by simp [SV.bnd, SV.bndL], by first | (simp [SV.bnd, SV.bndL]; done) | assumption⟩ ?_
  refine hκ.run 300 ?_
  simp (disch := omega) only [exec_succ, runR_next, runR_need, runR_call, stepS, runOp, toSR, sop, rOf, rNew, sAlloc, sAlloc0, sLoadIn, sLoad, sStoreIn, sStore, ev, evs, svs, Env.get, Heap.get, Heap.set, takeN, cut, over, paste, aggOf, cellsS, one, ones, setO, OutOK_need, OutOK_call, undefS, undef, List.size_toArray, List.length_cons, List.length_nil, List.range, List.range.loop, List.getElem?_toArray, List.getElem?_cons_succ, List.getElem?_cons_zero, List.map_cons, List.map_nil, ↓reduceIte, Nat.reduceAdd, Nat.reduceLT, Nat.reduceEqDiff, Nat.zero_add, true_and, and_self, forall_const, gl0, Try.sz26, Try.ag26, Try.ze26, Try.ar26]
  apply Sat.join (α := Unit) (nx := 0) (dfs := []) (fun _ => True) (fun _ => ([(1, By b0)], []))
  · intro hj
    have hj := hj () trivial
    by_cases hb : okP p = true
    · rw [if_pos hb] at c2
      obtain ⟨d1, d2⟩ := dec_enc hb
      have hB := encP_isB hb
      have hel := encP_len p
      have c3 := dec_ok (encP p) hB (by omega)
      rw [if_pos d1, d2] at c3
      have hless := fun i h => dec_less p (i := i) h
      have hbt := fun i => (show isB ((encP p).take i) from fun n hn => hB n (List.mem_of_mem_take hn))
      refine Does.ret hκ.hP hκ.hgl (c2) ⟨trivial, by simp [SV.bnd, SV.bndL], by first | (simp [SV.bnd, SV.bndL]; done) | assumption⟩ ?_
      refine hκ.run 300 ?_
      simp (disch := omega) only [exec_succ, runR_next, runR_fork_true, runR_call, stepS, runOp, condS, toSR, sop, rOf, sInt, sBin, sExtract, ev, evs, Env.get, setO, OutOK_call, List.size_toArray, List.length_cons, List.length_nil, List.range, List.range.loop, List.getElem?_toArray, List.getElem?_cons_succ, List.getElem?_cons_zero, ↓reduceIte, Nat.reduceAdd, Nat.reduceLT, Nat.reduceEqDiff, Nat.zero_add, decide_true, gl0]
      generalize encP p = y at hB hel c3 hless hbt ⊢
      refine Does.ret hκ.hP hκ.hgl (c3) ⟨trivial, by simp [SV.bnd, SV.bndL], by first | (simp [SV.bnd, SV.bndL]; done) | assumption⟩ ?_
      refine hκ.run 300 ?_
      simp (disch := omega) only [exec_succ, runR_next, runR_need, runR_guard_ff, runR_call, stepS, runOp, guardS, toSR, sop, rOf, rNew, sAlloc, sAlloc0, sLoadIn, sLoad, sStoreIn, sStore, sInt, sBin, sExtract, ev, evs, svs, Env.get, Heap.get, Heap.set, takeN, cut, over, paste, aggOf, cellsS, one, ones, setO, OutOK_need, OutOK_call, undefS, undef, List.size_toArray, List.length_cons, List.length_nil, List.range, List.range.loop, List.getElem?_toArray, List.getElem?_cons_succ, List.getElem?_cons_zero, List.map_cons, List.map_nil, Option.bind_some, ↓reduceIte, Nat.reduceAdd, Nat.reduceLT, Nat.reduceEqDiff, Nat.zero_add, Bool.not_true, Bool.not_false, decide_true, true_and, and_self, forall_const, gl0, Try.sz26, Try.ag26, Try.ze26, Try.ar26]
      refine Does.ret hκ.hP hκ.hgl (psame_ok p p (by omega)) ⟨trivial, by simp [SV.bnd, SV.bndL], by first | (simp [SV.bnd, SV.bndL]; done) | assumption⟩ ?_
      simp only [decide_true]
      refine hκ.run 300 ?_
      simp (disch := omega) only [sBuiltin, exec_succ, runR_next, runR_fork_false, runR_guard_ff, runR_stop, stepS, runOp, guardS, condS, toSR, sop, rOf, sPick, sUn, sLen, ev, Env.get, setO, OutOK_stop, undefS, undef, List.size_toArray, List.length_cons, List.length_nil, List.length_map, List.range, List.range.loop, List.getElem?_toArray, List.getElem?_cons_succ, List.getElem?_cons_zero, Option.bind_some, ↓reduceIte, Nat.reduceAdd, Nat.reduceLT, Nat.reduceEqDiff, Nat.zero_add, Bool.not_true, Bool.not_false, and_self, gl0, Try.underlying51]
      refine Sat.less (Sat.loop (γ := Nat × Nat) (fun g => ([(40, I g.1), (39, I y.length), (6, By y), (1, By b0)], [], g.2)) (fun g => y.length - g.1) (fun g => g.1 ≤ y.length) ?round (0, 3) (Nat.zero_le _)) (by repeat' (first | exact EnvSub.nil _ | exact HeapSub.nil _ | refine EnvSub.cons rfl ?_ | refine HeapSub.cons rfl ?_ | (refine EnvSub.cons (by simp [Env.get]; done) ?_) | (refine HeapSub.cons (by simp [Heap.get]; done) ?_))) (by repeat' (first | exact EnvSub.nil _ | exact HeapSub.nil _ | refine EnvSub.cons rfl ?_ | refine HeapSub.cons rfl ?_ | (refine EnvSub.cons (by simp [Env.get]; done) ?_) | (refine HeapSub.cons (by simp [Heap.get]; done) ?_)))
      case round =>
        rintro ⟨k, nx⟩ hk ih
        dsimp only at hk ih ⊢
        have hz := fun nx => ih (k + 1, nx)
        dsimp only at hz
        by_cases hkl : k < y.length
        · have e2 : ((k : Int) < y.length) = True := by simp only [eq_iff_iff, iff_true]; omega
          have et : List.take k (List.map (eI .u8) y) = List.map (eI .u8) (y.take k) := by rw [List.map_take]
          have c5 := dec_ok (y.take k) (hbt k) (by simp; omega)
          rw [hless k hkl, if_neg (by decide)] at c5
          refine hκ.run 300 ?_
          simp (disch := omega) only [exec_succ, runR_next, runR_need, runR_fork_true, runR_call, stepS, runOp, condS, toSR, sop, rOf, sInt, sBin, optI, sSlice, cutL, elemT, obind, ev, evs, Env.get, OutOK_need, OutOK_call, List.size_toArray, List.length_cons, List.length_nil, List.length_map, List.range, List.range.loop, List.getElem?_toArray, List.getElem?_cons_succ, List.getElem?_cons_zero, Option.map_some, Option.map_none, Option.getD_some, Option.getD_none, ↓reduceIte, Nat.reduceAdd, Nat.reduceLT, Nat.reduceEqDiff, Nat.zero_add, Int.reduceLE, Int.toNat_natCast, decide_true, true_and, gl0, Try.sz5, Try.underlying51, e2, et]
          (repeat (refine ⟨by first | omega | (refine ⟨?_, ?_⟩ <;> omega) | trivial | (simp; done) | decide +kernel, fun _ => ?_⟩))
          refine Does.ret hκ.hP hκ.hgl (c5) ⟨trivial, by simp [SV.bnd, SV.bndL], by first | (simp [SV.bnd, SV.bndL]; done) | assumption⟩ ?_
          refine hκ.run 300 ?_
          simp (disch := omega) only [exec_succ, runR_next, runR_need, runR_fork_false, runR_stop, stepS, runOp, condS, toSR, sop, rOf, rNew, sAlloc, sAlloc0, sStoreIn, sStore, sInt, sBin, sExtract, ev, svs, Env.get, Heap.get, Heap.set, over, paste, cellsS, one, ones, setO, Value.oneCell', OutOK_need, OutOK_stop, undefS, undef, List.size_toArray, List.length_cons, List.length_nil, List.range, List.range.loop, List.getElem?_toArray, List.getElem?_cons_succ, List.getElem?_cons_zero, List.map_cons, List.map_nil, ↓reduceIte, Nat.reduceAdd, Nat.reduceLT, Nat.reduceEqDiff, Nat.zero_add, Bool.not_true, decide_true, true_and, and_self, forall_const, wrap_i64, gl0, Try.sz26, Try.ze26, Try.ar26]
          exact (hz _ (by omega) (by omega)).less (by repeat' (first | exact EnvSub.nil _ | exact HeapSub.nil _ | refine EnvSub.cons rfl ?_ | refine HeapSub.cons rfl ?_ | (refine EnvSub.cons (by simp [Env.get]; done) ?_) | (refine HeapSub.cons (by simp [Heap.get]; done) ?_))) (by repeat' (first | exact EnvSub.nil _ | exact HeapSub.nil _ | refine EnvSub.cons rfl ?_ | refine HeapSub.cons rfl ?_ | (refine EnvSub.cons (by simp [Env.get]; done) ?_) | (refine HeapSub.cons (by simp [Heap.get]; done) ?_)))
        · have e2 : ((k : Int) < y.length) = False := by simp only [eq_iff_iff, iff_false]; omega
          refine hκ.runA 16 300 ?_
          simp (disch := omega) only [runR_next, runR_fork_false, stepS, runOp, condS, goS, toSR, sop, sInt, sBin, ev, Env.get, exitTo, OutOK_stop, halt, isAt, atC, execA_succ, List.size_toArray, List.length_cons, List.length_nil, List.range, List.range.loop, List.getElem?_toArray, List.getElem?_cons_zero, ↓reduceIte, Nat.reduceLT, Nat.reduceEqDiff, Nat.zero_add, Nat.reduceBEq, decide_false, beq_self_eq_true, gl0, e2]
          refine Sat.via (fun i => i) (hj) (by intro i j; (repeat (first | omega | split))) (by repeat' (first | exact EnvVia.nil | refine EnvVia.cons (by first | trivial | decide | (simp [SV.bnd, SV.bndL]; done)) rfl ?_)) (by repeat' (first | exact HeapVia.nil | refine HeapVia.cons (by decide) (by first | trivial | (simp [Blk.bnd, SV.bnd, SV.bndL]; done) | exact bndL_mapV _ _ _ | exact LR.bnd (by rw [l2]; simp [bndE, SV.bnd, SV.bndL]) (by rw [l6]; decide)) (by first | rfl | (simp only [Blk.ren, renL_mapV]; rfl) | (rw [LR.ren (by rw [l2] <;> rfl) (by rw [l6] <;> rfl)]; rfl)) ?_)) ⟨by have := hκ.hm; (try dsimp only at this); (first | done | omega), fun i hi => by have := hκ.hm; (try dsimp only at this); (first | omega | (dsimp only; omega) | (rw [if_neg (by omega)]))⟩ ⟨by simp, rfl⟩
    · rw [if_neg hb] at c2
      refine Does.ret hκ.hP hκ.hgl c2 ⟨trivial, by simp [SV.bnd, SV.bndL], by first | (simp [SV.bnd, SV.bndL]; done) | assumption⟩ ?_
      refine hκ.runA 16 300 ?_
      simp (disch := omega) only [runR_next, runR_fork_false, stepS, runOp, condS, toSR, sop, rOf, sInt, sBin, sExtract, ev, Env.get, setO, OutOK_stop, halt, isAt, atC, execA_succ, List.size_toArray, List.length_cons, List.length_nil, List.range, List.range.loop, List.getElem?_toArray, List.getElem?_cons_succ, List.getElem?_cons_zero, ↓reduceIte, Nat.reduceAdd, Nat.reduceLT, Nat.reduceEqDiff, Nat.zero_add, Nat.reduceBEq, Int.reduceEq, decide_false, beq_self_eq_true, gl0]
      refine Sat.via (fun i => i) (hj) (by intro i j; (repeat (first | omega | split))) (by repeat' (first | exact EnvVia.nil | refine EnvVia.cons (by first | trivial | decide | (simp [SV.bnd, SV.bndL]; done)) rfl ?_)) (by repeat' (first | exact HeapVia.nil | refine HeapVia.cons (by decide) (by first | trivial | (simp [Blk.bnd, SV.bnd, SV.bndL]; done) | exact bndL_mapV _ _ _ | exact LR.bnd (by rw [l2]; simp [bndE, SV.bnd, SV.bndL]) (by rw [l6]; decide)) (by first | rfl | (simp only [Blk.ren, renL_mapV]; rfl) | (rw [LR.ren (by rw [l2] <;> rfl) (by rw [l6] <;> rfl)]; rfl)) ?_)) ⟨by have := hκ.hm; (try dsimp only at this); (first | done | omega), fun i hi => by have := hκ.hm; (try dsimp only at this); (first | omega | (dsimp only; omega) | (rw [if_neg (by omega)]))⟩ ⟨by simp, rfl⟩
  intro _ _
  obtain ⟨m, hm, hm2⟩ : ∃ m : Nat, min (b0.length : Int) 300 = (m : Int) ∧ m ≤ b0.length := ⟨min b0.length 300, by omega, by omega⟩
  have et : List.take m (List.map (eI .u8) b0) = List.map (eI .u8) (b0.take m) := by rw [List.map_take]
  have hbt : isB (b0.take m) := fun n hn => hb0 n (List.mem_of_mem_take hn)
  have hbl : (b0.take m).length = m := by simp; omega
  generalize b0.take m = b at et hbt hbl
  have c3 := dec_ok b hbt (by omega)
  refine hκ.run 300 ?_
  simp (disch := omega) only [sBuiltin, sMinMax, exec_succ, runR_next, runR_need, runR_call, stepS, runOp, toSR, sop, rOf, sLen, optI, sSlice, cutL, elemT, obind, ev, evs, Env.get, OutOK_need, OutOK_call, Bool.false_eq_true, List.size_toArray, List.length_cons, List.length_nil, List.length_map, List.range, List.range.loop, List.getElem?_toArray, List.getElem?_cons_succ, List.getElem?_cons_zero, List.map_cons, List.map_nil, Option.map_some, Option.map_none, Option.getD_some, Option.getD_none, ↓reduceIte, Nat.reduceAdd, Nat.reduceLT, Nat.reduceEqDiff, Nat.zero_add, Int.reduceLE, Int.toNat_natCast, true_and, gl0, Try.sz5, Try.underlying51, hm, et]
  (repeat (refine ⟨by first | omega | (refine ⟨?_, ?_⟩ <;> omega) | trivial | (simp; done) | decide +kernel, fun _ => ?_⟩))
  by_cases he : decE b = 0
  · rw [if_pos he] at c3
    obtain ⟨k1, k2⟩ := decE_zero hbt he
    have hdl := decX_len b
    have c4 := enc_ok (decX b) (decX_u32 hbt) (by omega)
    rw [if_pos k1, k2] at c4
    refine Does.ret hκ.hP hκ.hgl (c3) ⟨trivial, by simp [SV.bnd, SV.bndL], by first | (simp [SV.bnd, SV.bndL]; done) | assumption⟩ ?_
    refine hκ.run 300 ?_
    simp (disch := omega) only [exec_succ, runR_next, runR_need, runR_fork_false, runR_call, stepS, runOp, condS, toSR, sop, rOf, rNew, sAlloc, sAlloc0, sLoadIn, sLoad, sStoreIn, sStore, sInt, sBin, sExtract, ev, evs, svs, Env.get, Heap.get, Heap.set, takeN, cut, over, paste, aggOf, cellsS, one, ones, setO, OutOK_need, OutOK_call, undefS, undef, List.size_toArray, List.length_cons, List.length_nil, List.range, List.range.loop, List.getElem?_toArray, List.getElem?_cons_succ, List.getElem?_cons_zero, List.map_cons, List.map_nil, ↓reduceIte, Nat.reduceAdd, Nat.reduceLT, Nat.reduceEqDiff, Nat.zero_add, Bool.not_true, decide_true, true_and, and_self, forall_const, gl0, Try.sz26, Try.ag26, Try.ze26, Try.ar26]
    refine Does.ret hκ.hP hκ.hgl (c4) ⟨trivial, by simp [SV.bnd, SV.bndL], by first | (simp [SV.bnd, SV.bndL]; done) | assumption⟩ ?_
    refine hκ.run 300 ?_
    simp (disch := omega) only [exec_succ, runR_next, runR_guard_tt, runR_call, stepS, runOp, guardS, toSR, sop, rOf, sInt, sBin, sExtract, ev, evs, Env.get, setO, OutOK_call, undefS, undef, List.size_toArray, List.length_cons, List.length_nil, List.range, List.range.loop, List.getElem?_toArray, List.getElem?_cons_succ, List.getElem?_cons_zero, Option.bind_some, ↓reduceIte, Nat.reduceAdd, Nat.reduceLT, Nat.reduceEqDiff, Nat.zero_add, Bool.not_true, decide_true, and_self, gl0]
    refine Does.ret hκ.hP hκ.hgl (bequal_ok b b hbt hbt) ⟨trivial, by simp [SV.bnd, SV.bndL], by first | (simp [SV.bnd, SV.bndL]; done) | assumption⟩ ?_
    refine hκ.run 300 ?_
    simp (disch := omega) only [exec_succ, runR_next, runR_stop, stepS, runOp, toSR, sop, rOf, sPick, ev, Env.get, setO, OutOK_stop, List.getElem?_toArray, List.getElem?_cons_succ, List.getElem?_cons_zero, ↓reduceIte, Nat.reduceLT, Nat.reduceEqDiff, decide_true, gl0]
    refine hκ.ret _ _ _ _ _ _ trivial rfl ?_
    rfl
  · rw [if_neg he] at c3
    rcases decE_cases b with h | h | h
    · exact absurd h he
    · rw [h] at c3
      refine Does.ret hκ.hP hκ.hgl (c3) ⟨trivial, by simp [SV.bnd, SV.bndL], by first | (simp [SV.bnd, SV.bndL]; done) | assumption⟩ ?_
      refine hκ.run 300 ?_
      simp (disch := omega) only [sBuiltin, exec_succ, runR_next, runR_need, runR_fork_true, runR_guard_tt, runR_guard_tf, runR_stop, stepS, runOp, guardS, condS, toSR, sop, rOf, rNew, sPick, sAlloc, sAlloc0, sLoadIn, sLoad, sStoreIn, sStore, sInt, sEq, sEqR, sBin, sFieldAddr, sExtract, sLen, ev, svs, Env.get, Heap.get, Heap.set, takeN, cut, over, paste, aggOf, cellsS, one, ones, setO, Value.oneCell', OutOK_need, OutOK_stop, undefS, undef, Int.cast_ofNat_Int, List.size_toArray, List.length_cons, List.length_nil, List.range, List.range.loop, List.getElem?_toArray, List.getElem?_cons_succ, List.getElem?_cons_zero, List.map_cons, List.map_nil, Option.bind_some, ↓reduceIte, Nat.reduceAdd, Nat.reduceLT, Nat.reduceEqDiff, Nat.zero_add, Nat.add_zero, Nat.add_one_ne_zero, Int.reduceEq, Bool.not_true, Bool.not_false, decide_true, decide_false, true_and, and_self, forall_const, gl0, Try.underlying24, Try.sz24, Try.ag24, Try.sz26, Try.ze26, Try.ar26, Try.fd26f0]
      refine hκ.ret _ _ _ _ _ _ trivial rfl ?_
      rfl
    · rw [h] at c3
      refine Does.ret hκ.hP hκ.hgl (c3) ⟨trivial, by simp [SV.bnd, SV.bndL], by first | (simp [SV.bnd, SV.bndL]; done) | assumption⟩ ?_
      refine hκ.run 300 ?_
      simp (disch := omega) only [sBuiltin, exec_succ, runR_next, runR_need, runR_fork_true, runR_guard_tt, runR_guard_ff, runR_stop, stepS, runOp, guardS, condS, toSR, sop, rOf, rNew, sPick, sAlloc, sAlloc0, sLoadIn, sLoad, sStoreIn, sStore, sInt, sBin, sFieldAddr, sExtract, sLen, ev, svs, Env.get, Heap.get, Heap.set, takeN, cut, over, paste, aggOf, cellsS, one, ones, setO, Value.oneCell', OutOK_need, OutOK_stop, undefS, undef, Int.cast_ofNat_Int, List.size_toArray, List.length_cons, List.length_nil, List.range, List.range.loop, List.getElem?_toArray, List.getElem?_cons_succ, List.getElem?_cons_zero, List.map_cons, List.map_nil, Option.bind_some, ↓reduceIte, Nat.reduceAdd, Nat.reduceLT, Nat.reduceEqDiff, Nat.zero_add, Nat.add_zero, Nat.add_one_ne_zero, Int.reduceEq, Bool.not_true, Bool.not_false, decide_true, decide_false, true_and, and_self, forall_const, gl0, Try.underlying24, Try.sz24, Try.ag24, Try.sz26, Try.ze26, Try.ar26, Try.fd26f0]
      refine hκ.ret _ _ _ _ _ _ trivial rfl ?_
      rfl
end Go.Proofs.Ytfhiaddbpacgeaa

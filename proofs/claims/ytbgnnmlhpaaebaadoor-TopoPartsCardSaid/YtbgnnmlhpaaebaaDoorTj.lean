/- Flat topologies; the document's regular ones. No condition. -/
import Derived.Test.YtbgnnmlhpaaebaaDoorTi
namespace Go.Proofs.YtbgnnmlhpaaebaaDoor
open Go Go.Sy
set_option maxRecDepth 100000
set_option linter.unusedSimpArgs false
set_option linter.unusedVariables false

theorem flat_ok (n : Int) : Con Tryd.prog gl0 (fnv 21) [I n] 0 [] (Ret (.tup [To (regL 1 n 1), I (regE 1 n 1)])) := by
  refine Con.of Tryd.ok21 (nt := 8) (res := [.cell 2 24, .tmp 3]) Tryd.mixed Tryd.func21 rfl rfl rfl rfl fun κ xc hκ => hκ.run 300 ?_
  simp (disch := omega) only [exec_succ, runR_next, runR_call, stepS, runOp, toSR, sop, rOf, rNew, sAlloc, sAlloc0, ev, evs, svs, Env.get, envOf, OutOK_call, List.size_toArray, List.length_cons, List.length_nil, List.range, List.range.loop, List.getElem?_toArray, List.getElem?_cons_succ, List.getElem?_cons_zero, List.map_cons, List.map_nil, ↓reduceIte, Nat.reduceAdd, Nat.reduceLT, Nat.zero_add, Nat.add_one_ne_zero, gl0, Tryd.ze24, Tryd.ar24]
  refine Does.ret hκ.hP hκ.hgl (regular_ok 1 n 1) ⟨trivial, by simp [SV.bnd, SV.bndL], by first | (simp [SV.bnd, SV.bndL]; done) | assumption⟩ ?_
  refine hκ.run 300 ?_
  simp (disch := omega) only [exec_succ, runR_next, runR_need, runR_stop, stepS, runOp, toSR, sop, rOf, sStoreIn, sStore, sExtract, ev, Env.get, Heap.get, Heap.set, over, paste, cellsS, one, ones, setO, OutOK_need, OutOK_stop, undefS, undef, List.length_cons, List.length_nil, List.getElem?_toArray, List.getElem?_cons_succ, List.getElem?_cons_zero, ↓reduceIte, Nat.reduceLT, Nat.reduceEqDiff, Nat.zero_add, true_and, and_self, forall_const, gl0, Tryd.sz24]
  refine hκ.ret _ _ _ _ _ _ trivial rfl ?_
  exact .ret (by simp [SV.bnd, SV.bndL])
/-- Socket by socket, core by core. -/
def cA (t : Nat) (i j k : Nat) : List Sea := ((List.range j).flatMap fun (b : Nat) => List.replicate t ((i : Int), (b : Int))) ++ List.replicate k ((i : Int), (j : Int))
def rA (c t : Nat) (i j k : Nat) : List Sea := ((List.range i).flatMap fun (a : Nat) => cA t a c 0) ++ cA t i j k
theorem rA_k (c t i j k : Nat) : rA c t i j (k + 1) = rA c t i j k ++ [((i : Int), (j : Int))] := by
  rw [rA, cA, List.replicate_succ', ← List.append_assoc, ← List.append_assoc, List.append_assoc _ _ (List.replicate k _), ← cA, ← rA]
theorem rA_j (c t i j : Nat) : rA c t i (j + 1) 0 = rA c t i j t := by
  rw [rA, rA, cA, cA, List.range_succ, List.flatMap_append]; simp
theorem rA_i (c t i : Nat) : rA c t (i + 1) 0 0 = rA c t i c 0 := by
  rw [rA, rA, List.range_succ, List.flatMap_append]; simp [cA]
theorem cA_mem {t a j k : Nat} {x : Sea} (h : x ∈ cA t a j k) : x.1 = a ∧ 0 ≤ x.2 ∧ x.2 ≤ j := by
  rcases List.mem_append.1 h with h | h
  · obtain ⟨b, hb, h⟩ := List.mem_flatMap.1 h
    have hb := List.mem_range.1 hb
    obtain rfl := (List.mem_replicate.1 h).2
    exact ⟨rfl, by dsimp only; omega, by dsimp only; omega⟩
  · obtain rfl := (List.mem_replicate.1 h).2
    exact ⟨rfl, by dsimp only; omega, by dsimp only; omega⟩
theorem rA_mem {c t i j k : Nat} {x : Sea} (h : x ∈ rA c t i j k) : 0 ≤ x.1 ∧ x.1 ≤ i ∧ 0 ≤ x.2 ∧ (x.2 ≤ c ∨ x.2 ≤ j) := by
  rcases List.mem_append.1 h with h | h
  · obtain ⟨a, ha, h⟩ := List.mem_flatMap.1 h
    have ha := List.mem_range.1 ha
    have := cA_mem h
    omega
  · have := cA_mem h
    omega
abbrev refP (s c t : Int) : Prop := (1 ≤ s ∧ s ≤ 4) ∧ (1 ≤ c ∧ c ≤ 8) ∧ 1 ≤ t ∧ t ≤ 8
def refW (s c t : Int) : List Sea := rA c.toNat t.toNat s.toNat 0 0
def refB (s c t : Int) : Bool := decide (refP s c t) && okTs (refW s c t)
def refL (s c t : Int) : List Sea := if refB s c t = true then refW s c t else []
set_option maxHeartbeats 1000000 in
theorem rregular_ok (s c t : Int) : Con Tryd.prog gl0 (fnv 23) [I s, I c, I t] 0 [] (Ret (.tup [To (refL s c t), Bo (refB s c t)])) := by
  suffices H : Con Tryd.prog gl0 (fnv 23) [I s, I c, I t] 0 [] (Ret (if refB s c t = true then .tup [To (refW s c t), Bo true] else .tup [.agg [.v (.slice none 0 0)], Bo false])) by
    by_cases ho : refB s c t = true
    · rw [if_pos ho] at H; rw [refL, if_pos ho, ho]; exact H
    · rw [if_neg ho] at H; rw [refL, if_neg ho, Bool.eq_false_iff.2 ho]; exact Con.repR (fun _ => Rel.tupMap (RelL.mapHead (Rel.aggMap nil1))) H
  have hno : ¬ refP s c t → ¬ refB s c t = true := fun h => by rw [refB, decide_eq_false h, Bool.false_and]; decide
  refine Con.of Tryd.ok23 (nt := 61) (res := [.cell 6 24, .tmp 7]) Tryd.mixed Tryd.func23 rfl rfl rfl rfl fun κ xc hκ => hκ.run 300 ?_
  simp (disch := omega) only [exec_succ, runR_next, stepS, runOp, guardS, toSR, sop, rOf, rNew, sAlloc, sAlloc0, sInt, sBin, ev, svs, Env.get, envOf, undefS, undef, List.size_toArray, List.length_cons, List.length_nil, List.range, List.range.loop, List.getElem?_toArray, List.getElem?_cons_succ, List.getElem?_cons_zero, List.map_cons, List.map_nil, Option.bind_some, ↓reduceIte, Nat.reduceAdd, Nat.reduceLT, Nat.zero_add, Nat.add_one_ne_zero, Bool.not_false, and_self, gl0, Tryd.ze24, Tryd.ar24]
  by_cases h1 : s < 1
  · rw [if_neg (hno fun h => by omega)] at hκ
    simp (disch := omega) only [exec_succ, runR_next, runR_need, runR_fork_true, runR_guard_tf, runR_stop, stepS, runOp, guardS, condS, toSR, sop, rOf, sPick, sLoadIn, sLoad, sStoreIn, sStore, sBin, ev, Env.get, Heap.get, Heap.set, takeN, cut, over, paste, aggOf, cellsS, one, ones, Value.oneCell', OutOK_need, OutOK_stop, undefS, undef, List.size_toArray, List.length_cons, List.length_nil, List.range, List.range.loop, List.getElem?_toArray, List.getElem?_cons_succ, List.getElem?_cons_zero, Option.bind_some, ↓reduceIte, Nat.reduceAdd, Nat.reduceLT, Nat.reduceEqDiff, Nat.zero_add, Nat.add_one_ne_zero, Bool.not_false, decide_true, true_and, and_self, forall_const, reduceCtorEq, Tryd.sz24, Tryd.ag24, h1]
    refine hκ.ret _ _ _ _ _ _ trivial rfl ?_
    exact .ret (by simp [SV.bnd, SV.bndL])
  by_cases h2 : (4 : Int) < s
  · rw [if_neg (hno fun h => by omega)] at hκ
    simp (disch := omega) only [exec_succ, runR_next, runR_need, runR_fork_true, runR_guard_ff, runR_guard_tf, runR_stop, stepS, runOp, guardS, condS, toSR, sop, rOf, sPick, sLoadIn, sLoad, sStoreIn, sStore, sInt, sBin, ev, Env.get, Heap.get, Heap.set, takeN, cut, over, paste, aggOf, cellsS, one, ones, Value.oneCell', OutOK_need, OutOK_stop, undefS, undef, List.size_toArray, List.length_cons, List.length_nil, List.range, List.range.loop, List.getElem?_toArray, List.getElem?_cons_succ, List.getElem?_cons_zero, Option.bind_some, ↓reduceIte, Nat.reduceAdd, Nat.reduceLT, Nat.reduceEqDiff, Nat.zero_add, Nat.add_one_ne_zero, Bool.not_false, decide_true, decide_false, true_and, and_self, forall_const, reduceCtorEq, Tryd.sz24, Tryd.ag24, h1, h2]
    refine hκ.ret _ _ _ _ _ _ trivial rfl ?_
    exact .ret (by simp [SV.bnd, SV.bndL])
  by_cases h3 : c < 1
  · rw [if_neg (hno fun h => by omega)] at hκ
    simp (disch := omega) only [exec_succ, runR_next, runR_need, runR_fork_true, runR_guard_ff, runR_guard_tf, runR_stop, stepS, runOp, guardS, condS, toSR, sop, rOf, sPick, sLoadIn, sLoad, sStoreIn, sStore, sInt, sBin, ev, Env.get, Heap.get, Heap.set, takeN, cut, over, paste, aggOf, cellsS, one, ones, Value.oneCell', OutOK_need, OutOK_stop, undefS, undef, List.size_toArray, List.length_cons, List.length_nil, List.range, List.range.loop, List.getElem?_toArray, List.getElem?_cons_succ, List.getElem?_cons_zero, Option.bind_some, ↓reduceIte, Nat.reduceAdd, Nat.reduceLT, Nat.reduceEqDiff, Nat.zero_add, Nat.add_one_ne_zero, Bool.not_false, decide_true, decide_false, true_and, and_self, forall_const, reduceCtorEq, Tryd.sz24, Tryd.ag24, h1, h2, h3]
    refine hκ.ret _ _ _ _ _ _ trivial rfl ?_
    exact .ret (by simp [SV.bnd, SV.bndL])
  by_cases h4 : (8 : Int) < c
  · rw [if_neg (hno fun h => by omega)] at hκ
    simp (disch := omega) only [exec_succ, runR_next, runR_need, runR_fork_true, runR_guard_ff, runR_guard_tf, runR_stop, stepS, runOp, guardS, condS, toSR, sop, rOf, sPick, sLoadIn, sLoad, sStoreIn, sStore, sInt, sBin, ev, Env.get, Heap.get, Heap.set, takeN, cut, over, paste, aggOf, cellsS, one, ones, Value.oneCell', OutOK_need, OutOK_stop, undefS, undef, List.size_toArray, List.length_cons, List.length_nil, List.range, List.range.loop, List.getElem?_toArray, List.getElem?_cons_succ, List.getElem?_cons_zero, Option.bind_some, ↓reduceIte, Nat.reduceAdd, Nat.reduceLT, Nat.reduceEqDiff, Nat.zero_add, Nat.add_one_ne_zero, Bool.not_false, decide_true, decide_false, true_and, and_self, forall_const, reduceCtorEq, Tryd.sz24, Tryd.ag24, h1, h2, h3, h4]
    refine hκ.ret _ _ _ _ _ _ trivial rfl ?_
    exact .ret (by simp [SV.bnd, SV.bndL])
  by_cases h5 : t < 1
  · rw [if_neg (hno fun h => by omega)] at hκ
    simp (disch := omega) only [exec_succ, runR_next, runR_need, runR_fork_true, runR_guard_ff, runR_guard_tf, runR_stop, stepS, runOp, guardS, condS, toSR, sop, rOf, sPick, sLoadIn, sLoad, sStoreIn, sStore, sInt, sBin, ev, Env.get, Heap.get, Heap.set, takeN, cut, over, paste, aggOf, cellsS, one, ones, Value.oneCell', OutOK_need, OutOK_stop, undefS, undef, List.size_toArray, List.length_cons, List.length_nil, List.range, List.range.loop, List.getElem?_toArray, List.getElem?_cons_succ, List.getElem?_cons_zero, Option.bind_some, ↓reduceIte, Nat.reduceAdd, Nat.reduceLT, Nat.reduceEqDiff, Nat.zero_add, Nat.add_one_ne_zero, Bool.not_false, decide_true, decide_false, true_and, and_self, forall_const, reduceCtorEq, Tryd.sz24, Tryd.ag24, h1, h2, h3, h4, h5]
    refine hκ.ret _ _ _ _ _ _ trivial rfl ?_
    exact .ret (by simp [SV.bnd, SV.bndL])
  by_cases h6 : (8 : Int) < t
  · rw [if_neg (hno fun h => by omega)] at hκ
    simp (disch := omega) only [exec_succ, runR_next, runR_need, runR_fork_true, runR_guard_ff, runR_stop, stepS, runOp, guardS, condS, toSR, sop, rOf, sPick, sLoadIn, sLoad, sStoreIn, sStore, sInt, sBin, ev, Env.get, Heap.get, Heap.set, takeN, cut, over, paste, aggOf, cellsS, one, ones, Value.oneCell', OutOK_need, OutOK_stop, undefS, undef, List.size_toArray, List.length_cons, List.length_nil, List.range, List.range.loop, List.getElem?_toArray, List.getElem?_cons_succ, List.getElem?_cons_zero, Option.bind_some, ↓reduceIte, Nat.reduceAdd, Nat.reduceLT, Nat.reduceEqDiff, Nat.zero_add, Nat.add_one_ne_zero, Bool.not_false, decide_true, decide_false, true_and, and_self, forall_const, reduceCtorEq, Tryd.sz24, Tryd.ag24, h1, h2, h3, h4, h5, h6]
    refine hκ.ret _ _ _ _ _ _ trivial rfl ?_
    exact .ret (by simp [SV.bnd, SV.bndL])
  have hP : refP s c t := ⟨by omega, by omega, by omega⟩
  rw [refB, decide_eq_true hP, Bool.true_and] at hκ
  clear hno
  obtain ⟨s, rfl⟩ : ∃ n : Nat, s = n := ⟨s.toNat, by omega⟩
  obtain ⟨c, rfl⟩ : ∃ n : Nat, c = n := ⟨c.toNat, by omega⟩
  obtain ⟨t, rfl⟩ : ∃ n : Nat, t = n := ⟨t.toNat, by omega⟩
  rw [refW, Int.toNat_natCast, Int.toNat_natCast, Int.toNat_natCast] at hκ
  simp (disch := omega) only [exec_succ, runR_next, runR_fork_false, runR_guard_ff, runR_stop, stepS, runOp, guardS, condS, toSR, sop, rOf, sPick, sInt, sBin, ev, Env.get, OutOK_stop, undefS, undef, List.size_toArray, List.length_cons, List.length_nil, List.range, List.range.loop, List.getElem?_toArray, List.getElem?_cons_succ, List.getElem?_cons_zero, Option.bind_some, ↓reduceIte, Nat.reduceAdd, Nat.reduceLT, Nat.reduceEqDiff, Nat.zero_add, Nat.add_one_ne_zero, Bool.not_false, decide_false, and_self, reduceCtorEq, h1, h2, h3, h4, h5, h6]
  refine Sat.nilCell 1 2 50 24 [] [] rfl ?_
  simp only [Heap.set, List.nil_append, Nat.reduceEqDiff, ↓reduceIte]
  refine Sat.less (Sat.loop (γ := Nat × Nat) (fun g => ([(35, I g.1), (34, I s), (8, .ptr 1 0 0 0), (7, Bo false), (6, .ptr 0 0 0 0), (1, I c), (2, I t)], [(2, .row 2 g.2 50 ((rA c t g.1 0 0).map eT)), (1, .own [.sl 2 2 0 (rA c t g.1 0 0).length g.2] 24), (0, .own [.v (.slice none 0 0)] 24)], 3)) (fun g => s - g.1) (fun g => g.1 ≤ s ∧ (rA c t g.1 0 0).length ≤ g.2 ∧ (rA c t g.1 0 0).length ≤ 64 * g.1) ?round (0, 0) ⟨Nat.zero_le _, Nat.le_refl _, Nat.le_refl _⟩) (by repeat' (first | exact EnvSub.nil _ | exact HeapSub.nil _ | refine EnvSub.cons rfl ?_ | refine HeapSub.cons rfl ?_ | (refine EnvSub.cons (by simp [Env.get]; done) ?_) | (refine HeapSub.cons (by simp [Heap.get]; done) ?_))) (by repeat' (first | exact EnvSub.nil _ | exact HeapSub.nil _ | refine EnvSub.cons rfl ?_ | refine HeapSub.cons rfl ?_ | (refine EnvSub.cons (by simp [Env.get]; done) ?_) | (refine HeapSub.cons (by simp [Heap.get]; done) ?_)))
  case round =>
    rintro ⟨i, cap⟩ ⟨hi, hcap, hb⟩ ih
    dsimp only at hi hcap hb ih ⊢
    refine hκ.runA 16 300 ?_
    simp (disch := omega) only [runR_next, stepS, runOp, condS, toSR, sop, sInt, sBin, ev, Env.get, halt, isAt, atC, execA_succ, List.size_toArray, List.length_cons, List.length_nil, List.range, List.range.loop, List.getElem?_toArray, List.getElem?_cons_zero, ↓reduceIte, Nat.reduceLT, Nat.reduceEqDiff, Nat.zero_add, Nat.reduceBEq, gl0]
    refine OutOK_fork (fun h => ?_) (fun h => ?_) <;> try simp only [Bool.not_true, Bool.not_false, decide_eq_true_eq, decide_eq_false_iff_not, Bool.not_eq_true', Bool.not_eq_false', Bool.and_eq_true, Bool.or_eq_false_iff, Bool.or_eq_true, Bool.and_eq_false_iff] at h
    · have hz := fun cap h h2 => ih (i + 1, cap) ⟨by dsimp only; omega, h, h2⟩ (by dsimp only; omega)
      dsimp only at hz
      rw [rA_i] at hz
      clear ih
      simp (disch := omega) only [runR_next, runR_stop, stepS, runOp, toSR, sop, rOf, ev, Env.get, OutOK_stop, halt, isAt, atC, execA_succ, List.size_toArray, List.length_cons, List.length_nil, List.range, List.range.loop, List.getElem?_toArray, List.getElem?_cons_succ, List.getElem?_cons_zero, ↓reduceIte, Nat.reduceAdd, Nat.reduceLT, Nat.reduceEqDiff, Nat.zero_add, Nat.reduceBEq]
      refine Sat.less (Sat.loop (γ := Nat × Nat) (fun g => ([(39, I g.1), (38, I c), (9, I i), (35, I i), (34, I s), (8, .ptr 1 0 0 0), (7, Bo false), (6, .ptr 0 0 0 0), (1, I c), (2, I t)], [(2, .row 2 g.2 50 ((rA c t i g.1 0).map eT)), (1, .own [.sl 2 2 0 (rA c t i g.1 0).length g.2] 24), (0, .own [.v (.slice none 0 0)] 24)], 3)) (fun g => c - g.1) (fun g => g.1 ≤ c ∧ (rA c t i g.1 0).length ≤ g.2 ∧ (rA c t i g.1 0).length ≤ 64 * i + 8 * g.1) ?mid (0, cap) ⟨Nat.zero_le _, hcap, by dsimp only; omega⟩) (by repeat' (first | exact EnvSub.nil _ | exact HeapSub.nil _ | refine EnvSub.cons rfl ?_ | refine HeapSub.cons rfl ?_ | (refine EnvSub.cons (by simp [Env.get]; done) ?_) | (refine HeapSub.cons (by simp [Heap.get]; done) ?_))) (by repeat' (first | exact EnvSub.nil _ | exact HeapSub.nil _ | refine EnvSub.cons rfl ?_ | refine HeapSub.cons rfl ?_ | (refine EnvSub.cons (by simp [Env.get]; done) ?_) | (refine HeapSub.cons (by simp [Heap.get]; done) ?_)))
      case mid =>
        rintro ⟨j, cap⟩ ⟨hj, hcap, hb⟩ ihj
        dsimp only at hj hcap hb ihj ⊢
        refine hκ.run 300 ?_
        simp (disch := omega) only [exec_succ, runR_next, stepS, runOp, condS, toSR, sop, sInt, sBin, ev, Env.get, List.size_toArray, List.length_cons, List.length_nil, List.range, List.range.loop, List.getElem?_toArray, List.getElem?_cons_zero, ↓reduceIte, Nat.reduceLT, Nat.reduceEqDiff, Nat.zero_add, gl0]
        refine OutOK_fork (fun h => ?_) (fun h => ?_) <;> try simp only [Bool.not_true, Bool.not_false, decide_eq_true_eq, decide_eq_false_iff_not, Bool.not_eq_true', Bool.not_eq_false', Bool.and_eq_true, Bool.or_eq_false_iff, Bool.or_eq_true, Bool.and_eq_false_iff] at h
        · have hy := fun cap h h2 => ihj (j + 1, cap) ⟨by dsimp only; omega, h, h2⟩ (by dsimp only; omega)
          dsimp only at hy
          rw [rA_j] at hy
          clear ihj
          simp (disch := omega) only [exec_succ, runR_next, runR_stop, stepS, runOp, toSR, sop, rOf, ev, Env.get, OutOK_stop, List.size_toArray, List.length_cons, List.length_nil, List.range, List.range.loop, List.getElem?_toArray, List.getElem?_cons_succ, List.getElem?_cons_zero, ↓reduceIte, Nat.reduceAdd, Nat.reduceLT, Nat.reduceEqDiff, Nat.zero_add]
          refine Sat.less (Sat.loop (γ := Nat × Nat) (fun g => ([(43, I g.1), (42, I t), (10, I j), (39, I j), (38, I c), (9, I i), (35, I i), (34, I s), (8, .ptr 1 0 0 0), (7, Bo false), (6, .ptr 0 0 0 0), (1, I c), (2, I t)], [(2, .row 2 g.2 50 ((rA c t i j g.1).map eT)), (1, .own [.sl 2 2 0 (rA c t i j g.1).length g.2] 24), (0, .own [.v (.slice none 0 0)] 24)], 3)) (fun g => t - g.1) (fun g => g.1 ≤ t ∧ (rA c t i j g.1).length ≤ g.2 ∧ (rA c t i j g.1).length ≤ 64 * i + 8 * j + g.1) ?inner (0, cap) ⟨Nat.zero_le _, hcap, by dsimp only; omega⟩) (by repeat' (first | exact EnvSub.nil _ | exact HeapSub.nil _ | refine EnvSub.cons rfl ?_ | refine HeapSub.cons rfl ?_ | (refine EnvSub.cons (by simp [Env.get]; done) ?_) | (refine HeapSub.cons (by simp [Heap.get]; done) ?_))) (by repeat' (first | exact EnvSub.nil _ | exact HeapSub.nil _ | refine EnvSub.cons rfl ?_ | refine HeapSub.cons rfl ?_ | (refine EnvSub.cons (by simp [Env.get]; done) ?_) | (refine HeapSub.cons (by simp [Heap.get]; done) ?_)))
          case inner =>
            rintro ⟨k, cap⟩ ⟨hk, hcap, hb⟩ ihk
            dsimp only at hk hcap hb ihk ⊢
            refine hκ.run 300 ?_
            simp (disch := omega) only [exec_succ, runR_next, stepS, runOp, condS, toSR, sop, sInt, sBin, ev, Env.get, List.size_toArray, List.length_cons, List.length_nil, List.range, List.range.loop, List.getElem?_toArray, List.getElem?_cons_zero, ↓reduceIte, Nat.reduceLT, Nat.reduceEqDiff, Nat.zero_add, gl0]
            refine OutOK_fork (fun h => ?_) (fun h => ?_) <;> try simp only [Bool.not_true, Bool.not_false, decide_eq_true_eq, decide_eq_false_iff_not, Bool.not_eq_true', Bool.not_eq_false', Bool.and_eq_true, Bool.or_eq_false_iff, Bool.or_eq_true, Bool.and_eq_false_iff] at h
            · have hx := fun cap h h2 => ihk (k + 1, cap) ⟨by dsimp only; omega, h, h2⟩ (by dsimp only; omega)
              dsimp only at hx
              rw [rA_k] at hx
              clear ihk hy hz
              generalize rA c t i j k = pre at hx hcap hb ⊢
              have et : List.take pre.length (List.map eT pre) = List.map eT pre := List.take_of_length_le (by simp)
              simp (disch := omega) only [sBuild0, sBuiltin, srcS, appArgS, sAppendTo, sAppend, exec_succ, runR_next, runR_need, runR_all, runR_stop, stepS, runOp, toSR, sop, rOf, rNew, isArr, sLoadIn, sLoad, sStoreIn, sStore, sInt, sBin, sFieldAddr, sliceT, obind, fillS, evps, sBuild, repeatL, sBuildSlice, chunk, ev, svs, Env.get, Heap.get, Heap.set, Heap.drop, takeN, cut, over, paste, aggOf, cellsS, one, ones, idFree, idFrees, Value.cells, Value.oneCell', OutOK_need, OutOK_all, OutOK_stop, undefS, undef, Bool.and_true, List.drop_zero, List.take_succ_cons, List.take_nil, List.size_toArray, List.length_cons, List.length_nil, List.length_map, List.range, List.range.loop, List.getElem?_toArray, List.getElem?_cons_succ, List.getElem?_cons_zero, List.map_cons, List.map_nil, List.append_nil, List.toList_toArray, ↓reduceIte, Nat.reduceAdd, Nat.reduceLT, Nat.reduceLeDiff, Nat.reduceEqDiff, Nat.zero_add, Nat.add_zero, Nat.zero_mul, Nat.one_mul, Nat.add_one_ne_zero, ne_eq, not_false_eq_true, true_and, and_self, forall_const, reduceCtorEq, wrap_i64, Tryd.underlying22, Tryd.sz22, Tryd.ag22, Tryd.fd24f0, Tryd.sz50, Tryd.ze50, Tryd.pl50, Tryd.by50, Tryd.ar50]
              (repeat (refine ⟨by first | omega | (refine ⟨?_, ?_⟩ <;> omega) | trivial | (simp; done) | decide +kernel, fun _ => ?_⟩))
              intro c1
              have hw := hx (pre.length + 1 + c1) (by first | (simp; done) | (simp; omega)) (by simp; omega)
              rw [List.map_append, List.map_cons, List.map_nil] at hw
              simp only [List.length_append, List.length_cons, List.length_nil, List.length_singleton, List.length_map, List.length_set, List.length_replicate, Nat.zero_add, Nat.add_zero, Int.natCast_add, Int.natCast_one, Int.ofNat_eq_natCast, List.map_append, List.map_cons, List.map_nil, List.take_length, eI, eB] at hw ⊢
              rw [et]
              simp only [eT] at hw
              refine Sat.via (fun i => if i = 2 then 4 else i) (hw) (by intro i j; (repeat (first | omega | split))) (by repeat' (first | exact EnvVia.nil | refine EnvVia.cons (by first | trivial | decide | (simp [SV.bnd, SV.bndL]; done)) rfl ?_)) (by repeat' (first | exact HeapVia.nil | refine HeapVia.cons (by decide) (by first | trivial | (simp [Blk.bnd, SV.bnd, SV.bndL]; done) | exact bndL_mapV _ _ _ | exact LR.bnd (by rw [l2]; simp [bndE, SV.bnd, SV.bndL]) (by rw [l6]; decide)) (by first | rfl | (simp only [Blk.ren, renL_mapV]; rfl) | (rw [LR.ren (by rw [l2] <;> rfl) (by rw [l6] <;> rfl)]; rfl)) ?_)) ⟨by have := hκ.hm; (try dsimp only at this); (first | done | omega), fun i hi => by have := hκ.hm; (try dsimp only at this); (first | omega | (dsimp only; omega) | (rw [if_neg (by omega)]))⟩ ⟨by simp, rfl⟩
            · simp (disch := omega) only [exec_succ, runR_next, runR_stop, stepS, runOp, goS, toSR, sop, rOf, sInt, sBin, ev, Env.get, exitTo, OutOK_stop, List.size_toArray, List.length_cons, List.length_nil, List.range, List.range.loop, List.getElem?_toArray, List.getElem?_cons_succ, List.getElem?_cons_zero, ↓reduceIte, Nat.reduceAdd, Nat.reduceLT, Nat.reduceEqDiff, Nat.zero_add, beq_self_eq_true, wrap_i64]
              obtain rfl : k = t := by omega
              have hw := hy cap hcap (by omega)
              exact hw.less (by repeat' (first | exact EnvSub.nil _ | exact HeapSub.nil _ | refine EnvSub.cons rfl ?_ | refine HeapSub.cons rfl ?_ | (refine EnvSub.cons (by simp [Env.get]; done) ?_) | (refine HeapSub.cons (by simp [Heap.get]; done) ?_))) (by repeat' (first | exact EnvSub.nil _ | exact HeapSub.nil _ | refine EnvSub.cons rfl ?_ | refine HeapSub.cons rfl ?_ | (refine EnvSub.cons (by simp [Env.get]; done) ?_) | (refine HeapSub.cons (by simp [Heap.get]; done) ?_)))
        · simp (disch := omega) only [exec_succ, runR_next, runR_stop, stepS, runOp, goS, toSR, sop, rOf, sInt, sBin, ev, Env.get, exitTo, OutOK_stop, List.size_toArray, List.length_cons, List.length_nil, List.range, List.range.loop, List.getElem?_toArray, List.getElem?_cons_succ, List.getElem?_cons_zero, ↓reduceIte, Nat.reduceAdd, Nat.reduceLT, Nat.reduceEqDiff, Nat.zero_add, beq_self_eq_true, wrap_i64]
          obtain rfl : j = c := by omega
          have hw := hz cap hcap (by omega)
          exact hw.less (by repeat' (first | exact EnvSub.nil _ | exact HeapSub.nil _ | refine EnvSub.cons rfl ?_ | refine HeapSub.cons rfl ?_ | (refine EnvSub.cons (by simp [Env.get]; done) ?_) | (refine HeapSub.cons (by simp [Heap.get]; done) ?_))) (by repeat' (first | exact EnvSub.nil _ | exact HeapSub.nil _ | refine EnvSub.cons rfl ?_ | refine HeapSub.cons rfl ?_ | (refine EnvSub.cons (by simp [Env.get]; done) ?_) | (refine HeapSub.cons (by simp [Heap.get]; done) ?_)))
    · simp (disch := omega) only [runR_next, stepS, goS, exitTo, OutOK_stop, halt, isAt, atC, execA_succ, ↓reduceIte, beq_self_eq_true]
      obtain rfl : i = s := by omega
      have hin : ∀ x ∈ rA c t i 0 0, inT x := fun x hx => by
        have := rA_mem hx
        exact ⟨⟨by omega, by omega⟩, by omega, by omega⟩
      have c1 := tright_ok (rA c t i 0 0) hin (by omega)
      generalize rA c t i 0 0 = l at *
      have et : List.take l.length (List.map eT l) = List.map eT l := List.take_of_length_le (by simp)
      refine Sat.frzOwn [2] 1 _ _ rfl (by decide) (by first | (simp [lendPL, lendP, lendSlP, Heap.get]; done) | (simp only [lendPL, lendP, lendSlP, Heap.get, List.mem_singleton, List.mem_cons, List.not_mem_nil, or_false, or_true, true_or, Nat.reduceEqDiff, Nat.one_ne_zero, Nat.zero_ne_one, ↓reduceIte, and_true, true_and, List.length_map, List.length_append, List.length_cons, List.length_nil, List.length_replicate]; omega)) ?_
      simp only [lendL, lendS, lendSl, Heap.get, without, List.mem_singleton, List.mem_cons, List.not_mem_nil, or_false, or_true, true_or, List.drop_zero, List.take_length, List.take_succ_cons, List.take_zero, Nat.reduceAdd, Nat.reduceEqDiff, Nat.one_ne_zero, Nat.zero_ne_one, ↓reduceIte]
      simp only [Heap.set, Nat.reduceEqDiff, ↓reduceIte, et]
      refine hκ.run 300 ?_
      simp (disch := omega) only [exec_succ, runR_next, runR_call, stepS, runOp, toSR, sop, rOf, sLoadIn, sLoad, ev, evs, Env.get, Heap.get, takeN, cut, aggOf, OutOK_call, List.size_toArray, List.length_cons, List.length_nil, List.range, List.range.loop, List.getElem?_toArray, List.getElem?_cons_succ, List.getElem?_cons_zero, ↓reduceIte, Nat.reduceAdd, Nat.reduceLT, Nat.reduceEqDiff, Nat.zero_add, gl0, Tryd.sz24, Tryd.ag24]
      cases ho : okTs l
      · rw [ho, if_neg (by decide)] at hκ
        rw [ho] at c1
        refine Does.ret hκ.hP hκ.hgl (c1) ⟨trivial, by simp [SV.bnd, SV.bndL], by first | (simp [SV.bnd, SV.bndL]; done) | assumption⟩ ?_
        refine hκ.run 300 ?_
        simp (disch := omega) only [sBuild0, exec_succ, runR_next, runR_need, runR_fork_true, runR_stop, stepS, runOp, condS, toSR, sop, rOf, sStoreIn, sStore, sUn, fillS, evps, sBuild, ev, svs, Env.get, Heap.get, Heap.set, over, paste, cellsS, one, ones, setO, Value.oneCell', OutOK_need, OutOK_stop, undefS, undef, List.size_toArray, List.length_cons, List.length_nil, List.range, List.range.loop, List.getElem?_toArray, List.getElem?_cons_succ, List.getElem?_cons_zero, List.map_cons, List.map_nil, ↓reduceIte, Nat.reduceAdd, Nat.reduceLT, Nat.reduceEqDiff, Nat.zero_add, Nat.add_one_ne_zero, Bool.not_false, true_and, and_self, forall_const, gl0, Tryd.sz24, Tryd.ze24, Tryd.pl24, Tryd.ar24]
        refine hκ.ret _ _ _ _ _ _ trivial rfl ?_
        exact .ret (by simp [SV.bnd, SV.bndL])
      · rw [ho, if_pos rfl] at hκ
        rw [ho] at c1
        refine Does.ret hκ.hP hκ.hgl (c1) ⟨trivial, by simp [SV.bnd, SV.bndL], by first | (simp [SV.bnd, SV.bndL]; done) | assumption⟩ ?_
        refine hκ.run 300 ?_
        simp (disch := omega) only [exec_succ, runR_next, runR_need, runR_fork_false, runR_stop, stepS, runOp, condS, toSR, sop, rOf, sLoadIn, sLoad, sStoreIn, sStore, sUn, ev, Env.get, Heap.get, Heap.set, takeN, cut, over, paste, aggOf, cellsS, one, ones, setO, OutOK_need, OutOK_stop, undefS, undef, List.size_toArray, List.length_cons, List.length_nil, List.range, List.range.loop, List.getElem?_toArray, List.getElem?_cons_succ, List.getElem?_cons_zero, ↓reduceIte, Nat.reduceAdd, Nat.reduceLT, Nat.reduceEqDiff, Nat.zero_add, Nat.add_one_ne_zero, Bool.not_true, true_and, and_self, forall_const, gl0, Tryd.sz24, Tryd.ag24]
        refine hκ.ret _ _ _ _ _ _ trivial rfl ?_
        exact .ret (by simp [SV.bnd, SV.bndL])
/-- The same ones. -/
def regC (s c t : Nat) : Bool := (okTs (rA c t s 0 0) == decide (t ≤ 8 / (s * c))) && (!decide (t ≤ 8 / (s * c)) || decide (rA c t s 0 0 = regK c t (s * c * t)))
theorem reg_all : ((List.range 4).all fun s => (List.range 8).all fun c => (List.range 8).all fun t => regC (s + 1) (c + 1) (t + 1)) = true := by decide +kernel
theorem reg_small (s c t : Nat) (hs : s < 5) (hc : c < 9) (ht : t < 9) (s1 : 1 ≤ s) (c1 : 1 ≤ c) (t1 : 1 ≤ t) : okTs (rA c t s 0 0) = decide (t ≤ 8 / (s * c)) ∧ (t ≤ 8 / (s * c) → rA c t s 0 0 = regK c t (s * c * t)) := by
  have h := List.all_eq_true.1 reg_all (s - 1) (List.mem_range.2 (by omega))
  have h := List.all_eq_true.1 h (c - 1) (List.mem_range.2 (by omega))
  have h := List.all_eq_true.1 h (t - 1) (List.mem_range.2 (by omega))
  rw [Nat.sub_add_cancel s1, Nat.sub_add_cancel c1, Nat.sub_add_cancel t1, regC, Bool.and_eq_true, beq_iff_eq] at h
  refine ⟨h.1, fun h2 => ?_⟩
  have h3 := h.2
  rw [decide_eq_true h2] at h3
  exact of_decide_eq_true h3
theorem reg_same (s c t : Int) : (refB s c t = decide (regE s c t = 0)) ∧ refL s c t = regL s c t := by
  have hkey : refB s c t = decide (regP s c t) ∧ (regP s c t → refW s c t = regK c.toNat t.toNat (s.toNat * c.toNat * t.toNat)) := by
    by_cases hp : refP s c t
    · have h := reg_small s.toNat c.toNat t.toNat (by omega) (by omega) (by omega) (by omega) (by omega) (by omega)
      refine ⟨?_, fun h2 => h.2 h2.2.2.2⟩
      rw [refB, decide_eq_true hp, Bool.true_and, refW, h.1, decide_eq_decide]
      exact ⟨fun h2 => ⟨hp.1, hp.2.1, hp.2.2.1, h2⟩, fun h2 => h2.2.2.2⟩
    · have hn : ¬ regP s c t := fun h => hp ⟨h.1, h.2.1, h.2.2.1, by
        have h1 := h.2.2.2
        have h2 : 8 / (s.toNat * c.toNat) ≤ 8 := Nat.div_le_self _ _
        omega⟩
      exact ⟨by rw [refB, decide_eq_false hp, decide_eq_false hn, Bool.false_and], fun h => absurd h hn⟩
  refine ⟨?_, ?_⟩
  · rw [hkey.1, regE]
    by_cases h : regP s c t
    · rw [if_pos h, decide_eq_true h]; rfl
    · rw [if_neg h, decide_eq_false h]; rfl
  · rw [refL, regL, hkey.1]
    by_cases h : regP s c t
    · rw [if_pos h, if_pos (decide_eq_true h), hkey.2 h]
    · rw [if_neg h, if_neg (by rw [decide_eq_false h]; decide)]
end Go.Proofs.YtbgnnmlhpaaebaaDoor

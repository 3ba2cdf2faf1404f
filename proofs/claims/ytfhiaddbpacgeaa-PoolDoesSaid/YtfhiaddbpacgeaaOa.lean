/- Pools: which may be, are the same; what the walks share. No condition. -/
import Derived.Test.YtfhiaddbpacgeaaCs
import Derived.Test.YtfhiaddbpacgeaaCq
namespace Go.Proofs.Ytfhiaddbpacgeaa
open Go Go.Sy
set_option maxRecDepth 100000
set_option linter.unusedSimpArgs false
set_option linter.unusedVariables false

def eS (s : Nat) : List SV := [S s]
abbrev Po (xs : List Nat) : SV := .agg [.rd 1 (xs.map eS)]
abbrev noP : SV := .agg [.v (.slice none 0 0)]
abbrev u32s (xs : List Nat) : Prop := ∀ s ∈ xs, s < 4294967296
theorem getD_mem {α : Type} [Inhabited α] {l : List α} {k : Nat} (h : k < l.length) : l.getD k default ∈ l := by
  rw [List.getD, List.getElem?_eq_getElem h]; exact List.getElem_mem _
theorem drop_getD {α : Type} [Inhabited α] {l : List α} {k : Nat} (h : k < l.length) : l.drop k = l.getD k default :: l.drop (k + 1) := by
  rw [List.drop_eq_getElem_cons h, List.getD, List.getElem?_eq_getElem h]; rfl
theorem take_getD {α : Type} [Inhabited α] {l : List α} {k : Nat} (h : k < l.length) : l.take (k + 1) = l.take k ++ [l.getD k default] := by
  rw [List.take_succ_eq_append_getElem h, List.getD, List.getElem?_eq_getElem h]; rfl
theorem getD_def {l : List Nat} {k : Nat} : l.getD k default = l.getD k 0 := rfl

/- Check -/
def goP (p : Bool × Nat) (s : Nat) : Bool × Nat := (p.1 && decide (s ≠ 0) && decide (s < 256) && decide (s &&& p.2 = 0), p.2 ||| s)
def foP (xs : List Nat) : Bool × Nat := xs.foldl goP (decide (1 ≤ xs.length ∧ xs.length ≤ 4), 0)
def okP (xs : List Nat) : Bool := (foP xs).1 && decide ((foP xs).2 &&& ((foP xs).2 + 1) = 0)
theorem goP_bd : ∀ (xs : List Nat) (b : Bool) (a : Nat), u32s xs → a < 4294967296 → (b = true → a < 256) → (xs.foldl goP (b, a)).2 < 4294967296 ∧ ((xs.foldl goP (b, a)).1 = true → (xs.foldl goP (b, a)).2 < 256)
  | [], b, a, _, h, h2 => ⟨h, h2⟩
  | s :: xs, b, a, hx, h, h2 => by
    rw [List.foldl_cons]
    have hs := hx s (by simp)
    refine goP_bd xs _ _ (fun u hu => hx u (by simp [hu])) (Nat.or_lt_two_pow (n := 32) h hs) fun h3 => ?_
    simp only [goP, Bool.and_eq_true, decide_eq_true_eq] at h3
    exact Nat.or_lt_two_pow (n := 8) (h2 h3.1.1.1) h3.1.2
theorem pchk_ok (xs : List Nat) (hx : u32s xs) (hn : xs.length < 2 ^ 46) : Con Try.prog gl0 (fnv 17) [Po xs] 0 [] (Ret (I (if okP xs = true then 0 else 180))) := by
  refine Con.of Try.ok17 (nt := 53) (res := [.tmp 2]) Try.mixed Try.func17 rfl rfl rfl rfl fun κ xc hκ => hκ.run 300 ?_
  simp (disch := omega) only [sBuiltin, exec_succ, runR_next, stepS, runOp, guardS, toSR, sop, rOf, rNew, sBox, isArr, sLoadIn, sLoad, sInt, sBin, sFieldAddr, sLen, ev, Env.get, Heap.get, takeN, cut, aggOf, cellsS, envOf, undefS, undef, Bool.false_eq_true, List.size_toArray, List.length_cons, List.length_nil, List.length_map, List.range, List.range.loop, List.getElem?_toArray, List.getElem?_cons_succ, List.getElem?_cons_zero, Option.bind_some, ↓reduceIte, Nat.reduceAdd, Nat.reduceLT, Nat.reduceEqDiff, Nat.zero_add, Nat.add_zero, Nat.add_one_ne_zero, Bool.not_true, and_self, gl0, Try.underlying24, Try.sz24, Try.ag24, Try.fd26f0]
  apply Sat.join (α := Unit) (nx := 1) (dfs := []) (fun _ => True) (fun _ => ([(3, Bo (decide (1 ≤ xs.length ∧ xs.length ≤ 4))), (4, S 0), (18, .rd 1 (xs.map eS)), (19, I xs.length), (20, I 0)], []))
  · intro hj
    have hj := hj () trivial
    by_cases h1 : 1 ≤ xs.length
    · have e1 : ((0 : Int) < xs.length) = True := by simp only [eq_iff_iff, iff_true]; omega
      by_cases h2 : xs.length ≤ 4
      · have e2 : ((xs.length : Int) ≤ 4) = True := by simp only [eq_iff_iff, iff_true]; omega
        rw [decide_eq_true ⟨h1, h2⟩] at hj
        simp (disch := omega) only [sBuiltin, exec_succ, runR_next, runR_guard_tt, runR_stop, stepS, runOp, guardS, toSR, sop, rOf, sPick, sLoadIn, sLoad, sInt, sBin, sFieldAddr, sLen, ev, Env.get, Heap.get, takeN, cut, aggOf, OutOK_stop, undefS, undef, List.size_toArray, List.length_cons, List.length_nil, List.length_map, List.range, List.range.loop, List.getElem?_toArray, List.getElem?_cons_succ, List.getElem?_cons_zero, Option.bind_some, ↓reduceIte, Nat.reduceAdd, Nat.reduceLT, Nat.reduceEqDiff, Nat.zero_add, Nat.add_zero, Nat.add_one_ne_zero, Bool.not_true, decide_true, and_self, Try.underlying24, Try.sz24, Try.ag24, Try.fd26f0, e1, e2]
        exact hj.less (by repeat' (first | exact EnvSub.nil _ | exact HeapSub.nil _ | refine EnvSub.cons rfl ?_ | refine HeapSub.cons rfl ?_ | (refine EnvSub.cons (by simp [Env.get]; done) ?_) | (refine HeapSub.cons (by simp [Heap.get]; done) ?_))) (by repeat' (first | exact EnvSub.nil _ | exact HeapSub.nil _ | refine EnvSub.cons rfl ?_ | refine HeapSub.cons rfl ?_ | (refine EnvSub.cons (by simp [Env.get]; done) ?_) | (refine HeapSub.cons (by simp [Heap.get]; done) ?_)))
      · have e2 : ((xs.length : Int) ≤ 4) = False := by simp only [eq_iff_iff, iff_false]; omega
        rw [decide_eq_false (fun h => h2 h.2)] at hj
        simp (disch := omega) only [sBuiltin, exec_succ, runR_next, runR_guard_tt, runR_stop, stepS, runOp, guardS, toSR, sop, rOf, sPick, sLoadIn, sLoad, sInt, sBin, sFieldAddr, sLen, ev, Env.get, Heap.get, takeN, cut, aggOf, OutOK_stop, undefS, undef, List.size_toArray, List.length_cons, List.length_nil, List.length_map, List.range, List.range.loop, List.getElem?_toArray, List.getElem?_cons_succ, List.getElem?_cons_zero, Option.bind_some, ↓reduceIte, Nat.reduceAdd, Nat.reduceLT, Nat.reduceEqDiff, Nat.zero_add, Nat.add_zero, Nat.add_one_ne_zero, Bool.not_true, decide_true, decide_false, and_self, Try.underlying24, Try.sz24, Try.ag24, Try.fd26f0, e1, e2]
        exact hj.less (by repeat' (first | exact EnvSub.nil _ | exact HeapSub.nil _ | refine EnvSub.cons rfl ?_ | refine HeapSub.cons rfl ?_ | (refine EnvSub.cons (by simp [Env.get]; done) ?_) | (refine HeapSub.cons (by simp [Heap.get]; done) ?_))) (by repeat' (first | exact EnvSub.nil _ | exact HeapSub.nil _ | refine EnvSub.cons rfl ?_ | refine HeapSub.cons rfl ?_ | (refine EnvSub.cons (by simp [Env.get]; done) ?_) | (refine HeapSub.cons (by simp [Heap.get]; done) ?_)))
    · have e1 : ((0 : Int) < xs.length) = False := by simp only [eq_iff_iff, iff_false]; omega
      rw [decide_eq_false (fun h => h1 h.1)] at hj
      simp (disch := omega) only [sBuiltin, exec_succ, runR_next, runR_guard_ft, runR_stop, stepS, runOp, guardS, toSR, sop, rOf, sPick, sLoadIn, sLoad, sBin, sFieldAddr, sLen, ev, Env.get, Heap.get, takeN, cut, aggOf, OutOK_stop, undefS, undef, List.size_toArray, List.length_cons, List.length_nil, List.length_map, List.range, List.range.loop, List.getElem?_toArray, List.getElem?_cons_succ, List.getElem?_cons_zero, Option.bind_some, ↓reduceIte, Nat.reduceAdd, Nat.reduceLT, Nat.reduceEqDiff, Nat.zero_add, Nat.add_zero, Nat.add_one_ne_zero, Bool.not_true, decide_false, and_self, Try.underlying24, Try.sz24, Try.ag24, Try.fd26f0, e1]
      exact hj.less (by repeat' (first | exact EnvSub.nil _ | exact HeapSub.nil _ | refine EnvSub.cons rfl ?_ | refine HeapSub.cons rfl ?_ | (refine EnvSub.cons (by simp [Env.get]; done) ?_) | (refine HeapSub.cons (by simp [Heap.get]; done) ?_))) (by repeat' (first | exact EnvSub.nil _ | exact HeapSub.nil _ | refine EnvSub.cons rfl ?_ | refine HeapSub.cons rfl ?_ | (refine EnvSub.cons (by simp [Env.get]; done) ?_) | (refine HeapSub.cons (by simp [Heap.get]; done) ?_)))
  intro _ _
  refine Sat.less (Sat.loop (γ := Nat × Bool × Nat) (fun g => ([(20, I g.1), (19, I xs.length), (18, .rd 1 (xs.map eS)), (3, Bo g.2.1), (4, S g.2.2)], [], 1)) (fun g => xs.length - g.1)
    (fun g => g.1 ≤ xs.length ∧ (xs.drop g.1).foldl goP g.2 = foP xs ∧ g.2.2 < 4294967296 ∧ (g.2.1 = true → g.2.2 < 256)) ?round (0, decide (1 ≤ xs.length ∧ xs.length ≤ 4), 0) ⟨Nat.zero_le _, rfl, show (0 : Nat) < 4294967296 by decide, fun _ => show (0 : Nat) < 256 by decide⟩) (by repeat' (first | exact EnvSub.nil _ | exact HeapSub.nil _ | refine EnvSub.cons rfl ?_ | refine HeapSub.cons rfl ?_ | (refine EnvSub.cons (by simp [Env.get]; done) ?_) | (refine HeapSub.cons (by simp [Heap.get]; done) ?_))) (by repeat' (first | exact EnvSub.nil _ | exact HeapSub.nil _ | refine EnvSub.cons rfl ?_ | refine HeapSub.cons rfl ?_ | (refine EnvSub.cons (by simp [Env.get]; done) ?_) | (refine HeapSub.cons (by simp [Heap.get]; done) ?_)))
  case round =>
    rintro ⟨k, ok, all⟩ ⟨hk, hf, ha, hb⟩ ih
    dsimp only at hk hf ha hb ih ⊢
    refine hκ.run 300 ?_
    simp (disch := omega) only [exec_succ, runR_next, stepS, runOp, condS, toSR, sop, sInt, sBin, ev, Env.get, List.size_toArray, List.length_cons, List.length_nil, List.range, List.range.loop, List.getElem?_toArray, List.getElem?_cons_zero, ↓reduceIte, Nat.reduceLT, Nat.reduceEqDiff, Nat.zero_add, gl0]
    refine OutOK_fork (fun h => ?_) (fun h => ?_) <;> try simp only [Bool.not_true, Bool.not_false, decide_eq_true_eq, decide_eq_false_iff_not, Bool.not_eq_true', Bool.not_eq_false', Bool.and_eq_true, Bool.or_eq_false_iff, Bool.or_eq_true, Bool.and_eq_false_iff] at h
    · have hs := hx _ (getD_mem (show k < xs.length by omega))
      rw [drop_getD (by omega), List.foldl_cons] at hf
      have hz := fun ok all h1 h2 h3 => ih (k + 1, ok, all) ⟨by dsimp only; omega, h1, h2, h3⟩ (by dsimp only; omega)
      dsimp only at hz
      simp (disch := omega) only [exec_succ, runR_next, runR_need, stepS, runOp, guardS, toSR, sop, rOf, sLoad, sIndexAddr, elemT, obind, ev, Env.get, takeN, cut, aggOf, OutOK_need, undefS, undef, List.size_toArray, List.length_cons, List.length_nil, List.length_map, List.range, List.range.loop, List.getElem?_toArray, List.getElem?_cons_succ, List.getElem?_cons_zero, Option.bind_some, ↓reduceIte, Nat.reduceAdd, Nat.reduceLT, Nat.reduceEqDiff, Nat.zero_add, Int.toNat_natCast, Bool.not_true, and_self, getD_map, Try.underlying24, Try.sz31, Try.ag31, eS]
      (repeat (refine ⟨by first | omega | (refine ⟨?_, ?_⟩ <;> omega) | trivial | (simp; done) | decide +kernel, fun _ => ?_⟩))
      generalize xs.getD k default = s at hs hf ⊢
      have ho : all ||| s < 4294967296 := Nat.or_lt_two_pow (n := 32) ha hs
      have hy := fun v (e : (ok && decide (s ≠ 0) && decide (s < 256) && decide (s &&& all = 0)) = v) (h : v = true → all ||| s < 256) => hz v (all ||| s) (by rw [← hf]; exact congrArg (fun b => List.foldl goP (b, all ||| s) (xs.drop (k + 1))) e.symm) ho h
      have oo := or32 ha hs
      cases ok
      · have hy := hy false rfl (by simp)
        simp (disch := omega) only [exec_succ, runR_next, runR_guard_ft, runR_stop, stepS, runOp, guardS, toSR, sop, rOf, sPick, sInt, sEq, sEqR, sBin, ev, evs, Env.get, OutOK_stop, undefS, undef, List.size_toArray, List.length_cons, List.length_nil, List.range, List.range.loop, List.getElem?_toArray, List.getElem?_cons_succ, List.getElem?_cons_zero, Option.bind_some, ↓reduceIte, Nat.reduceAdd, Nat.reduceLT, Nat.reduceEqDiff, Nat.zero_add, Bool.not_true, and_self, wrap_i64, oo]
        exact hy.less (by repeat' (first | exact EnvSub.nil _ | exact HeapSub.nil _ | refine EnvSub.cons rfl ?_ | refine HeapSub.cons rfl ?_ | (refine EnvSub.cons (by simp [Env.get]; done) ?_) | (refine HeapSub.cons (by simp [Heap.get]; done) ?_))) (by repeat' (first | exact EnvSub.nil _ | exact HeapSub.nil _ | refine EnvSub.cons rfl ?_ | refine HeapSub.cons rfl ?_ | (refine EnvSub.cons (by simp [Env.get]; done) ?_) | (refine HeapSub.cons (by simp [Heap.get]; done) ?_)))
      · by_cases h1 : s = 0
        · have e1 : ((s : Int) = 0) = True := by simp only [eq_iff_iff, iff_true]; omega
          have hy := hy false (by simp [h1]) (by simp)
          simp (disch := omega) only [exec_succ, runR_next, runR_guard_tt, runR_guard_ft, runR_stop, stepS, runOp, guardS, toSR, sop, rOf, sPick, sInt, sEq, sEqR, sBin, ev, evs, Env.get, OutOK_stop, undefS, undef, List.size_toArray, List.length_cons, List.length_nil, List.range, List.range.loop, List.getElem?_toArray, List.getElem?_cons_succ, List.getElem?_cons_zero, Option.bind_some, ↓reduceIte, Nat.reduceAdd, Nat.reduceLT, Nat.reduceEqDiff, Nat.zero_add, Bool.not_true, decide_true, and_self, wrap_i64, oo, e1]
          exact hy.less (by repeat' (first | exact EnvSub.nil _ | exact HeapSub.nil _ | refine EnvSub.cons rfl ?_ | refine HeapSub.cons rfl ?_ | (refine EnvSub.cons (by simp [Env.get]; done) ?_) | (refine HeapSub.cons (by simp [Heap.get]; done) ?_))) (by repeat' (first | exact EnvSub.nil _ | exact HeapSub.nil _ | refine EnvSub.cons rfl ?_ | refine HeapSub.cons rfl ?_ | (refine EnvSub.cons (by simp [Env.get]; done) ?_) | (refine HeapSub.cons (by simp [Heap.get]; done) ?_)))
        · have e1 : ((s : Int) = 0) = False := by simp only [eq_iff_iff, iff_false]; omega
          simp (disch := omega) only [exec_succ, runR_next, runR_guard_tt, runR_call, stepS, runOp, guardS, toSR, sop, rOf, sPick, sInt, sBin, ev, evs, Env.get, OutOK_call, undefS, undef, List.getElem?_toArray, List.getElem?_cons_succ, List.getElem?_cons_zero, Option.bind_some, ↓reduceIte, Nat.reduceLT, Nat.reduceEqDiff, Bool.not_true, Bool.not_false, decide_false, and_self, e1]
          refine Does.ret hκ.hP hκ.hgl (check_ok s hs) ⟨trivial, by simp [SV.bnd, SV.bndL], by first | (simp [SV.bnd, SV.bndL]; done) | assumption⟩ ?_
          by_cases h2 : s < 256
          · rw [if_pos h2]
            have aa := and32 hs ha
            by_cases h3 : s &&& all = 0
            · have e3 : (((s &&& all : Nat) : Int) = 0) = True := by simp only [eq_iff_iff, iff_true]; omega
              have hy := hy true (by simp [h1, h2, h3]) (fun _ => Nat.or_lt_two_pow (n := 8) (hb rfl) h2)
              refine hκ.run 300 ?_
              simp (disch := omega) only [exec_succ, runR_next, runR_guard_tt, runR_stop, stepS, runOp, guardS, toSR, sop, rOf, sPick, sInt, sBin, ev, Env.get, setO, OutOK_stop, undefS, undef, List.size_toArray, List.length_cons, List.length_nil, List.range, List.range.loop, List.getElem?_toArray, List.getElem?_cons_succ, List.getElem?_cons_zero, Option.bind_some, ↓reduceIte, Nat.reduceAdd, Nat.reduceLT, Nat.reduceEqDiff, Nat.zero_add, Bool.not_true, decide_true, and_self, wrap_i64, gl0, oo, aa, e3]
              exact hy.less (by repeat' (first | exact EnvSub.nil _ | exact HeapSub.nil _ | refine EnvSub.cons rfl ?_ | refine HeapSub.cons rfl ?_ | (refine EnvSub.cons (by simp [Env.get]; done) ?_) | (refine HeapSub.cons (by simp [Heap.get]; done) ?_))) (by repeat' (first | exact EnvSub.nil _ | exact HeapSub.nil _ | refine EnvSub.cons rfl ?_ | refine HeapSub.cons rfl ?_ | (refine EnvSub.cons (by simp [Env.get]; done) ?_) | (refine HeapSub.cons (by simp [Heap.get]; done) ?_)))
            · have e3 : (((s &&& all : Nat) : Int) = 0) = False := by simp only [eq_iff_iff, iff_false]; omega
              have hy := hy false (by simp [h3]) (by simp)
              refine hκ.run 300 ?_
              simp (disch := omega) only [exec_succ, runR_next, runR_guard_tt, runR_stop, stepS, runOp, guardS, toSR, sop, rOf, sPick, sInt, sBin, ev, Env.get, setO, OutOK_stop, undefS, undef, List.size_toArray, List.length_cons, List.length_nil, List.range, List.range.loop, List.getElem?_toArray, List.getElem?_cons_succ, List.getElem?_cons_zero, Option.bind_some, ↓reduceIte, Nat.reduceAdd, Nat.reduceLT, Nat.reduceEqDiff, Nat.zero_add, Bool.not_true, decide_true, decide_false, and_self, wrap_i64, gl0, oo, aa, e3]
              exact hy.less (by repeat' (first | exact EnvSub.nil _ | exact HeapSub.nil _ | refine EnvSub.cons rfl ?_ | refine HeapSub.cons rfl ?_ | (refine EnvSub.cons (by simp [Env.get]; done) ?_) | (refine HeapSub.cons (by simp [Heap.get]; done) ?_))) (by repeat' (first | exact EnvSub.nil _ | exact HeapSub.nil _ | refine EnvSub.cons rfl ?_ | refine HeapSub.cons rfl ?_ | (refine EnvSub.cons (by simp [Env.get]; done) ?_) | (refine HeapSub.cons (by simp [Heap.get]; done) ?_)))
          · rw [if_neg h2]
            have hy := hy false (by simp [h2]) (by simp)
            refine hκ.run 300 ?_
            simp (disch := omega) only [exec_succ, runR_next, runR_guard_tt, runR_guard_ft, runR_stop, stepS, runOp, guardS, toSR, sop, rOf, sPick, sInt, sEq, sEqR, sBin, ev, Env.get, setO, OutOK_stop, undefS, undef, List.size_toArray, List.length_cons, List.length_nil, List.range, List.range.loop, List.getElem?_toArray, List.getElem?_cons_succ, List.getElem?_cons_zero, Option.bind_some, ↓reduceIte, Nat.reduceAdd, Nat.reduceLT, Nat.reduceEqDiff, Nat.zero_add, Int.reduceEq, Bool.not_true, decide_false, and_self, wrap_i64, gl0, oo]
            exact hy.less (by repeat' (first | exact EnvSub.nil _ | exact HeapSub.nil _ | refine EnvSub.cons rfl ?_ | refine HeapSub.cons rfl ?_ | (refine EnvSub.cons (by simp [Env.get]; done) ?_) | (refine HeapSub.cons (by simp [Heap.get]; done) ?_))) (by repeat' (first | exact EnvSub.nil _ | exact HeapSub.nil _ | refine EnvSub.cons rfl ?_ | refine HeapSub.cons rfl ?_ | (refine EnvSub.cons (by simp [Env.get]; done) ?_) | (refine HeapSub.cons (by simp [Heap.get]; done) ?_)))
    · obtain rfl : k = xs.length := by omega
      rw [List.drop_length, List.foldl_nil] at hf
      have e0 : okP xs = (ok && decide (all &&& (all + 1) = 0)) := by rw [okP, ← hf]
      cases ok
      · simp (disch := omega) only [exec_succ, runR_next, runR_fork_true, runR_guard_tf, runR_stop, stepS, runOp, guardS, condS, goS, toSR, sop, rOf, sPick, sEq, sEqR, sBin, sUn, ev, Env.get, exitTo, OutOK_stop, undefS, undef, List.size_toArray, List.length_cons, List.length_nil, List.range, List.range.loop, List.getElem?_toArray, List.getElem?_cons_succ, List.getElem?_cons_zero, Option.bind_some, ↓reduceIte, Nat.reduceAdd, Nat.reduceLT, Nat.reduceEqDiff, Nat.zero_add, Bool.not_false, beq_self_eq_true, and_self]
        refine hκ.ret _ _ _ _ _ _ trivial rfl ?_
        rw [e0]
        exact .ret trivial
      · have hb := hb rfl
        have aa : ibits .and .u32 (all : Int) ((all : Int) + 1) = ((all &&& (all + 1) : Nat) : Int) := and32 ha (b := all + 1) (by omega)
        by_cases h3 : all &&& (all + 1) = 0
        · have e3 : (((all &&& (all + 1) : Nat) : Int) = 0) = True := by simp only [eq_iff_iff, iff_true]; omega
          simp (disch := omega) only [exec_succ, runR_next, runR_fork_false, runR_guard_ff, runR_stop, stepS, runOp, guardS, condS, goS, toSR, sop, rOf, sPick, sInt, sBin, sUn, ev, Env.get, exitTo, OutOK_stop, undefS, undef, List.size_toArray, List.length_cons, List.length_nil, List.range, List.range.loop, List.getElem?_toArray, List.getElem?_cons_succ, List.getElem?_cons_zero, Option.bind_some, ↓reduceIte, Nat.reduceAdd, Nat.reduceLT, Nat.reduceEqDiff, Nat.zero_add, Bool.not_true, Bool.not_false, decide_true, beq_self_eq_true, and_self, wrap_u32, aa, e3]
          refine hκ.ret _ _ _ _ _ _ trivial rfl ?_
          rw [e0]
          simp only [h3, decide_true, Bool.true_and, if_true]
          exact .ret trivial
        · have e3 : (((all &&& (all + 1) : Nat) : Int) = 0) = False := by simp only [eq_iff_iff, iff_false]; omega
          simp (disch := omega) only [exec_succ, runR_next, runR_fork_true, runR_guard_ff, runR_stop, stepS, runOp, guardS, condS, goS, toSR, sop, rOf, sPick, sInt, sBin, sUn, ev, Env.get, exitTo, OutOK_stop, undefS, undef, List.size_toArray, List.length_cons, List.length_nil, List.range, List.range.loop, List.getElem?_toArray, List.getElem?_cons_succ, List.getElem?_cons_zero, Option.bind_some, ↓reduceIte, Nat.reduceAdd, Nat.reduceLT, Nat.reduceEqDiff, Nat.zero_add, Bool.not_true, Bool.not_false, decide_false, beq_self_eq_true, and_self, wrap_u32, aa, e3]
          refine hκ.ret _ _ _ _ _ _ trivial rfl ?_
          rw [e0]
          simp only [h3, decide_false, Bool.and_false, Bool.false_eq_true, if_false]
          exact .ret trivial

/- Same -/
theorem castN {a b : Nat} : ((a : Int) = (b : Int)) = (a = b) := by simp only [eq_iff_iff]; omega
theorem equal_ok (us bs : List Nat) (hn : us.length < 2 ^ 62) : Con Try.prog gl0 (fnv 39) [.rd 1 (us.map eS), .rd 1 (bs.map eS)] 0 [] (Ret (Bo (decide (us = bs)))) := by
  refine Con.of Try.ok39 (nt := 26) (res := [.tmp 4]) Try.mixed Try.func39 rfl rfl rfl rfl fun κ xc hκ => hκ.run 300 ?_
  simp (disch := omega) only [sBuiltin, exec_succ, runR_next, stepS, runOp, condS, toSR, sop, rOf, sInt, sBin, sLen, ev, Env.get, envOf, List.size_toArray, List.length_cons, List.length_nil, List.length_map, List.range, List.range.loop, List.getElem?_toArray, List.getElem?_cons_succ, List.getElem?_cons_zero, ↓reduceIte, Nat.reduceAdd, Nat.reduceLT, Nat.reduceEqDiff, Nat.zero_add, Nat.add_one_ne_zero, reduceCtorEq, gl0, Try.underlying24]
  refine OutOK_fork (fun h => ?_) (fun h => ?_) <;> try simp only [Bool.not_true, Bool.not_false, decide_eq_true_eq, decide_eq_false_iff_not, Bool.not_eq_true', Bool.not_eq_false', Bool.and_eq_true, Bool.or_eq_false_iff, Bool.or_eq_true, Bool.and_eq_false_iff] at h
  · simp (disch := omega) only [exec_succ, runR_next, runR_stop, stepS, runOp, toSR, sop, rOf, ev, OutOK_stop, List.size_toArray, List.length_cons, List.length_nil, List.range, List.range.loop, List.getElem?_toArray, List.getElem?_cons_zero, ↓reduceIte, Nat.reduceLT, Nat.zero_add]
    refine hκ.ret _ _ _ _ _ _ trivial rfl ?_
    have : ¬ us = bs := by rintro rfl; exact h rfl
    simp only [this, decide_false]
    exact .ret trivial
  · simp (disch := omega) only [sBuiltin, exec_succ, runR_next, runR_stop, stepS, runOp, toSR, sop, rOf, sLen, ev, Env.get, OutOK_stop, List.size_toArray, List.length_cons, List.length_nil, List.length_map, List.range, List.range.loop, List.getElem?_toArray, List.getElem?_cons_succ, List.getElem?_cons_zero, ↓reduceIte, Nat.reduceAdd, Nat.reduceLT, Nat.zero_add, Nat.add_one_ne_zero, Try.underlying24]
    have hlen : us.length = bs.length := by omega
    refine Sat.less (Sat.loop (γ := Nat) (fun k => ([(13, I k), (12, I us.length), (0, .rd 1 (us.map eS)), (1, .rd 1 (bs.map eS))], [], 0)) (fun k => us.length - k)
      (fun k => k ≤ us.length ∧ us.take k = bs.take k) ?round 0 ⟨by omega, by simp⟩) (by repeat' (first | exact EnvSub.nil _ | exact HeapSub.nil _ | refine EnvSub.cons rfl ?_ | refine HeapSub.cons rfl ?_ | (refine EnvSub.cons (by simp [Env.get]; done) ?_) | (refine HeapSub.cons (by simp [Heap.get]; done) ?_))) (by repeat' (first | exact EnvSub.nil _ | exact HeapSub.nil _ | refine EnvSub.cons rfl ?_ | refine HeapSub.cons rfl ?_ | (refine EnvSub.cons (by simp [Env.get]; done) ?_) | (refine HeapSub.cons (by simp [Heap.get]; done) ?_)))
    case round =>
      rintro k ⟨hk, hl⟩ ih
      refine hκ.run 300 ?_
      simp (disch := omega) only [exec_succ, runR_next, stepS, runOp, condS, toSR, sop, sInt, sBin, ev, Env.get, List.size_toArray, List.length_cons, List.length_nil, List.range, List.range.loop, List.getElem?_toArray, List.getElem?_cons_zero, ↓reduceIte, Nat.reduceLT, Nat.reduceEqDiff, Nat.zero_add, gl0]
      refine OutOK_fork (fun h => ?_) (fun h => ?_) <;> try simp only [Bool.not_true, Bool.not_false, decide_eq_true_eq, decide_eq_false_iff_not, Bool.not_eq_true', Bool.not_eq_false', Bool.and_eq_true, Bool.or_eq_false_iff, Bool.or_eq_true, Bool.and_eq_false_iff] at h
      · by_cases e : us.getD k default = bs.getD k default
        · have hy := ih (k + 1) ⟨by omega, by rw [take_getD (by omega), take_getD (by omega), hl, e]⟩ (by omega)
          have e2 : (((us.getD k default : Nat) : Int) = ((bs.getD k default : Nat) : Int)) = True := by rw [castN]; simp only [e]
          simp (disch := omega) only [allQuiet, quietOp, drawS, drawGo, drawN, drawFin, exec_succ, runR_next, runR_need, runR_fork_false, runR_stop, stepS, runOp, condS, toSR, sop, rOf, sLoadIn, sLoad, sInt, sEq, sEqR, sEqAgg, aggS, sBin, sIndexAddr, elemT, obind, ev, svs, Env.get, Heap.get, takeN, cut, aggOf, OutOK_need, OutOK_stop, Option.isNone_none, Bool.and_true, List.size_toArray, List.length_cons, List.length_nil, List.length_map, List.range, List.range.loop, List.getElem?_toArray, List.getElem?_cons_succ, List.getElem?_cons_zero, ↓reduceIte, Nat.reduceAdd, Nat.reduceLT, Nat.reduceEqDiff, Nat.zero_add, Nat.add_one_ne_zero, Int.toNat_natCast, Bool.not_true, decide_true, reduceCtorEq, getD_map, wrap_i64, Try.underlying24, Try.underlying31, Try.sz31, Try.ag31, e2, eS]
          (repeat (refine ⟨by first | omega | (refine ⟨?_, ?_⟩ <;> omega) | trivial | (simp; done) | decide +kernel, fun _ => ?_⟩))
          exact hy.less (by repeat' (first | exact EnvSub.nil _ | exact HeapSub.nil _ | refine EnvSub.cons rfl ?_ | refine HeapSub.cons rfl ?_ | (refine EnvSub.cons (by simp [Env.get]; done) ?_) | (refine HeapSub.cons (by simp [Heap.get]; done) ?_))) (by repeat' (first | exact EnvSub.nil _ | exact HeapSub.nil _ | refine EnvSub.cons rfl ?_ | refine HeapSub.cons rfl ?_ | (refine EnvSub.cons (by simp [Env.get]; done) ?_) | (refine HeapSub.cons (by simp [Heap.get]; done) ?_)))
        · have e2 : (((us.getD k default : Nat) : Int) = ((bs.getD k default : Nat) : Int)) = False := by rw [castN]; simp only [e]
          simp (disch := omega) only [allQuiet, quietOp, drawS, drawGo, drawN, drawFin, exec_succ, runR_next, runR_need, runR_fork_true, runR_stop, stepS, runOp, condS, toSR, sop, rOf, sLoadIn, sLoad, sInt, sEq, sEqR, sEqAgg, aggS, sBin, sIndexAddr, elemT, obind, ev, svs, Env.get, Heap.get, takeN, cut, aggOf, OutOK_need, OutOK_stop, Option.isNone_none, Bool.and_true, List.size_toArray, List.length_cons, List.length_nil, List.length_map, List.range, List.range.loop, List.getElem?_toArray, List.getElem?_cons_succ, List.getElem?_cons_zero, ↓reduceIte, Nat.reduceAdd, Nat.reduceLT, Nat.reduceEqDiff, Nat.zero_add, Nat.add_one_ne_zero, Int.toNat_natCast, Bool.not_false, decide_false, reduceCtorEq, getD_map, Try.underlying24, Try.underlying31, Try.sz31, Try.ag31, e2, eS]
          (repeat (refine ⟨by first | omega | (refine ⟨?_, ?_⟩ <;> omega) | trivial | (simp; done) | decide +kernel, fun _ => ?_⟩))
          refine hκ.ret _ _ _ _ _ _ trivial rfl ?_
          have : ¬ us = bs := by rintro rfl; exact e rfl
          simp only [this, decide_false]
          exact .ret trivial
      · simp (disch := omega) only [exec_succ, runR_next, runR_stop, stepS, runOp, goS, toSR, sop, rOf, ev, exitTo, OutOK_stop, List.size_toArray, List.length_cons, List.length_nil, List.range, List.range.loop, List.getElem?_toArray, List.getElem?_cons_zero, ↓reduceIte, Nat.reduceLT, Nat.zero_add, beq_self_eq_true]
        obtain rfl : k = us.length := by omega
        refine hκ.ret _ _ _ _ _ _ trivial rfl ?_
        have : us = bs := by
          rw [List.take_length] at hl
          rw [hl, List.take_of_length_le (by omega)]
        simp only [this, decide_true]
        exact .ret trivial
theorem psame_ok (us bs : List Nat) (hn : us.length < 2 ^ 62) : Con Try.prog gl0 (fnv 18) [Po us, Po bs] 0 [] (Ret (Bo (decide (us = bs)))) := by
  refine Con.of Try.ok18 (nt := 10) (res := [.tmp 4]) Try.mixed Try.func18 rfl rfl rfl rfl fun κ xc hκ => hκ.run 300 ?_
  simp (disch := omega) only [exec_succ, runR_next, runR_call, stepS, runOp, toSR, sop, rOf, rNew, sBox, isArr, sLoadIn, sLoad, sFieldAddr, ev, evs, Env.get, Heap.get, takeN, cut, aggOf, cellsS, envOf, OutOK_call, Bool.false_eq_true, List.size_toArray, List.length_cons, List.length_nil, List.range, List.range.loop, List.getElem?_toArray, List.getElem?_cons_succ, List.getElem?_cons_zero, ↓reduceIte, Nat.reduceAdd, Nat.reduceLT, Nat.reduceEqDiff, Nat.zero_add, Nat.add_zero, Nat.add_one_ne_zero, reduceCtorEq, gl0, Try.sz24, Try.ag24, Try.fd26f0]
  refine Does.ret hκ.hP hκ.hgl (equal_ok us bs hn) ⟨trivial, by simp [SV.bnd, SV.bndL], by first | (simp [SV.bnd, SV.bndL]; done) | assumption⟩ ?_
  refine hκ.run 300 ?_
  simp (disch := omega) only [exec_succ, runR_next, runR_stop, stepS, runOp, toSR, sop, rOf, ev, Env.get, setO, OutOK_stop, List.getElem?_toArray, List.getElem?_cons_succ, List.getElem?_cons_zero, ↓reduceIte, Nat.reduceLT, gl0]
  refine hκ.ret _ _ _ _ _ _ trivial rfl ?_
  exact .ret trivial
theorem rsame_ok (us bs : List Nat) (hn : us.length < 2 ^ 62) : Con Try.prog gl0 (fnv 14) [Po us, Po bs] 0 [] (Ret (Bo (decide (us = bs)))) := by
  refine Con.of Try.ok14 (nt := 31) (res := [.tmp 4]) Try.mixed Try.func14 rfl rfl rfl rfl fun κ xc hκ => hκ.run 300 ?_
  simp (disch := omega) only [sBuiltin, exec_succ, runR_next, stepS, runOp, condS, toSR, sop, rOf, rNew, sBox, isArr, sLoadIn, sLoad, sInt, sBin, sFieldAddr, sLen, ev, Env.get, Heap.get, takeN, cut, aggOf, cellsS, envOf, Bool.false_eq_true, List.size_toArray, List.length_cons, List.length_nil, List.length_map, List.range, List.range.loop, List.getElem?_toArray, List.getElem?_cons_succ, List.getElem?_cons_zero, ↓reduceIte, Nat.reduceAdd, Nat.reduceLT, Nat.reduceEqDiff, Nat.zero_add, Nat.add_zero, Nat.add_one_ne_zero, reduceCtorEq, gl0, Try.underlying24, Try.sz24, Try.ag24, Try.fd26f0]
  refine OutOK_fork (fun h => ?_) (fun h => ?_) <;> try simp only [Bool.not_true, Bool.not_false, decide_eq_true_eq, decide_eq_false_iff_not, Bool.not_eq_true', Bool.not_eq_false', Bool.and_eq_true, Bool.or_eq_false_iff, Bool.or_eq_true, Bool.and_eq_false_iff] at h
  · simp (disch := omega) only [exec_succ, runR_next, runR_stop, stepS, runOp, toSR, sop, rOf, ev, OutOK_stop, List.size_toArray, List.length_cons, List.length_nil, List.range, List.range.loop, List.getElem?_toArray, List.getElem?_cons_zero, ↓reduceIte, Nat.reduceLT, Nat.zero_add]
    refine hκ.ret _ _ _ _ _ _ trivial rfl ?_
    have : ¬ us = bs := by rintro rfl; exact h rfl
    simp only [this, decide_false]
    exact .ret trivial
  · simp (disch := omega) only [sBuiltin, exec_succ, runR_next, runR_stop, stepS, runOp, toSR, sop, rOf, sLoadIn, sLoad, sFieldAddr, sLen, ev, Env.get, Heap.get, takeN, cut, aggOf, OutOK_stop, List.size_toArray, List.length_cons, List.length_nil, List.length_map, List.range, List.range.loop, List.getElem?_toArray, List.getElem?_cons_succ, List.getElem?_cons_zero, ↓reduceIte, Nat.reduceAdd, Nat.reduceLT, Nat.reduceEqDiff, Nat.zero_add, Nat.add_zero, Nat.add_one_ne_zero, Try.underlying24, Try.sz24, Try.ag24, Try.fd26f0]
    have hlen : us.length = bs.length := by omega
    refine Sat.less (Sat.loop (γ := Nat) (fun k => ([(16, I k), (15, I us.length), (2, .ptr 0 0 0 0), (3, .ptr 1 0 0 0)], [(0, .own [.rd 1 (us.map eS)] 26), (1, .own [.rd 1 (bs.map eS)] 26)], 2)) (fun k => us.length - k)
      (fun k => k ≤ us.length ∧ us.take k = bs.take k) ?round 0 ⟨by omega, by simp⟩) (by repeat' (first | exact EnvSub.nil _ | exact HeapSub.nil _ | refine EnvSub.cons rfl ?_ | refine HeapSub.cons rfl ?_ | (refine EnvSub.cons (by simp [Env.get]; done) ?_) | (refine HeapSub.cons (by simp [Heap.get]; done) ?_))) (by repeat' (first | exact EnvSub.nil _ | exact HeapSub.nil _ | refine EnvSub.cons rfl ?_ | refine HeapSub.cons rfl ?_ | (refine EnvSub.cons (by simp [Env.get]; done) ?_) | (refine HeapSub.cons (by simp [Heap.get]; done) ?_)))
    case round =>
      rintro k ⟨hk, hl⟩ ih
      refine hκ.run 300 ?_
      simp (disch := omega) only [exec_succ, runR_next, stepS, runOp, condS, toSR, sop, sInt, sBin, ev, Env.get, List.size_toArray, List.length_cons, List.length_nil, List.range, List.range.loop, List.getElem?_toArray, List.getElem?_cons_zero, ↓reduceIte, Nat.reduceLT, Nat.reduceEqDiff, Nat.zero_add, gl0]
      refine OutOK_fork (fun h => ?_) (fun h => ?_) <;> try simp only [Bool.not_true, Bool.not_false, decide_eq_true_eq, decide_eq_false_iff_not, Bool.not_eq_true', Bool.not_eq_false', Bool.and_eq_true, Bool.or_eq_false_iff, Bool.or_eq_true, Bool.and_eq_false_iff] at h
      · by_cases e : us.getD k default = bs.getD k default
        · have hy := ih (k + 1) ⟨by omega, by rw [take_getD (by omega), take_getD (by omega), hl, e]⟩ (by omega)
          have e2 : (((us.getD k default : Nat) : Int) = ((bs.getD k default : Nat) : Int)) = True := by rw [castN]; simp only [e]
          simp (disch := omega) only [allQuiet, quietOp, drawS, drawGo, drawN, drawFin, exec_succ, runR_next, runR_need, runR_fork_false, runR_stop, stepS, runOp, condS, toSR, sop, rOf, sLoadIn, sLoad, sInt, sEq, sEqR, sEqAgg, aggS, sBin, sFieldAddr, sIndexAddr, elemT, obind, ev, svs, Env.get, Heap.get, takeN, cut, aggOf, OutOK_need, OutOK_stop, Option.isNone_none, Bool.and_true, Bool.false_eq_true, List.size_toArray, List.length_cons, List.length_nil, List.length_map, List.range, List.range.loop, List.getElem?_toArray, List.getElem?_cons_succ, List.getElem?_cons_zero, ↓reduceIte, Nat.reduceAdd, Nat.reduceLT, Nat.reduceEqDiff, Nat.zero_add, Nat.add_zero, Nat.add_one_ne_zero, Int.toNat_natCast, Bool.not_true, decide_true, reduceCtorEq, getD_map, wrap_i64, Try.underlying24, Try.sz24, Try.ag24, Try.fd26f0, Try.underlying31, Try.sz31, Try.ag31, e2, eS]
          (repeat (refine ⟨by first | omega | (refine ⟨?_, ?_⟩ <;> omega) | trivial | (simp; done) | decide +kernel, fun _ => ?_⟩))
          exact hy.less (by repeat' (first | exact EnvSub.nil _ | exact HeapSub.nil _ | refine EnvSub.cons rfl ?_ | refine HeapSub.cons rfl ?_ | (refine EnvSub.cons (by simp [Env.get]; done) ?_) | (refine HeapSub.cons (by simp [Heap.get]; done) ?_))) (by repeat' (first | exact EnvSub.nil _ | exact HeapSub.nil _ | refine EnvSub.cons rfl ?_ | refine HeapSub.cons rfl ?_ | (refine EnvSub.cons (by simp [Env.get]; done) ?_) | (refine HeapSub.cons (by simp [Heap.get]; done) ?_)))
        · have e2 : (((us.getD k default : Nat) : Int) = ((bs.getD k default : Nat) : Int)) = False := by rw [castN]; simp only [e]
          simp (disch := omega) only [allQuiet, quietOp, drawS, drawGo, drawN, drawFin, exec_succ, runR_next, runR_need, runR_fork_true, runR_stop, stepS, runOp, condS, toSR, sop, rOf, sLoadIn, sLoad, sInt, sEq, sEqR, sEqAgg, aggS, sBin, sFieldAddr, sIndexAddr, elemT, obind, ev, svs, Env.get, Heap.get, takeN, cut, aggOf, OutOK_need, OutOK_stop, Option.isNone_none, Bool.and_true, Bool.false_eq_true, List.size_toArray, List.length_cons, List.length_nil, List.length_map, List.range, List.range.loop, List.getElem?_toArray, List.getElem?_cons_succ, List.getElem?_cons_zero, ↓reduceIte, Nat.reduceAdd, Nat.reduceLT, Nat.reduceEqDiff, Nat.zero_add, Nat.add_zero, Nat.add_one_ne_zero, Int.toNat_natCast, Bool.not_false, decide_false, reduceCtorEq, getD_map, Try.underlying24, Try.sz24, Try.ag24, Try.fd26f0, Try.underlying31, Try.sz31, Try.ag31, e2, eS]
          (repeat (refine ⟨by first | omega | (refine ⟨?_, ?_⟩ <;> omega) | trivial | (simp; done) | decide +kernel, fun _ => ?_⟩))
          refine hκ.ret _ _ _ _ _ _ trivial rfl ?_
          have : ¬ us = bs := by rintro rfl; exact e rfl
          simp only [this, decide_false]
          exact .ret trivial
      · simp (disch := omega) only [exec_succ, runR_next, runR_stop, stepS, runOp, goS, toSR, sop, rOf, ev, exitTo, OutOK_stop, List.size_toArray, List.length_cons, List.length_nil, List.range, List.range.loop, List.getElem?_toArray, List.getElem?_cons_zero, ↓reduceIte, Nat.reduceLT, Nat.zero_add, beq_self_eq_true]
        obtain rfl : k = us.length := by omega
        refine hκ.ret _ _ _ _ _ _ trivial rfl ?_
        have : us = bs := by
          rw [List.take_length] at hl
          rw [hl, List.take_of_length_le (by omega)]
        simp only [this, decide_true]
        exact .ret trivial
end Go.Proofs.Ytfhiaddbpacgeaa

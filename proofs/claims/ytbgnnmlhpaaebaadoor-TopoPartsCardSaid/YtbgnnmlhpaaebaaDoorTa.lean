/- Topologies: which may be, are the same; distances. No condition. -/
import Derived.Test.YtbgnnmlhpaaebaaDoorR4
import Derived.Test.YtbgnnmlhpaaebaaDoorCl
namespace Go.Proofs.YtbgnnmlhpaaebaaDoor
open Go Go.Sy
set_option maxRecDepth 100000
set_option linter.unusedSimpArgs false
set_option linter.unusedVariables false

theorem getD_mem {α : Type} [Inhabited α] {l : List α} {k : Nat} (h : k < l.length) : l.getD k default ∈ l := by
  rw [List.getD, List.getElem?_eq_getElem h]; exact List.getElem_mem _
theorem take_getD {α : Type} [Inhabited α] {l : List α} {k : Nat} (h : k < l.length) : l.take (k + 1) = l.take k ++ [l.getD k default] := by
  rw [List.take_succ_eq_append_getElem h, List.getD, List.getElem?_eq_getElem h]; rfl
theorem all_getD {α : Type} [Inhabited α] {l : List α} {p : α → Prop} (h : ∀ j, j < l.length → p (l.getD j default)) : ∀ x ∈ l, p x := fun x hx => by
  obtain ⟨j, hj, rfl⟩ := List.getElem_of_mem hx
  have := h j hj
  rwa [List.getD, List.getElem?_eq_getElem hj] at this
abbrev i64 (n : Int) : Prop := -9223372036854775808 ≤ n ∧ n ≤ 9223372036854775807
/-- A seat: its socket, its core. -/
abbrev Sea := Int × Int
def eT (s : Sea) : List SV := [I s.1, I s.2]
abbrev Ss (l : List Sea) : SV := .rd 2 (l.map eT)
abbrev To (l : List Sea) : SV := .agg [Ss l]
abbrev inT (s : Sea) : Prop := i64 s.1 ∧ i64 s.2
def okT (s : Sea) : Bool := decide (0 ≤ s.1) && (decide (s.1 < 4) && (decide (0 ≤ s.2) && decide (s.2 < 8)))
theorem okT_iff (s : Sea) : okT s = true ↔ (0 ≤ s.1 ∧ s.1 < 4) ∧ 0 ≤ s.2 ∧ s.2 < 8 := by
  simp only [okT, Bool.and_eq_true, decide_eq_true_eq]; omega
def okTs (l : List Sea) : Bool := l.all okT && (decide (1 ≤ l.length) && decide (l.length ≤ 8))
theorem okTs_iff (l : List Sea) : okTs l = true ↔ (∀ s ∈ l, okT s = true) ∧ 1 ≤ l.length ∧ l.length ≤ 8 := by
  simp only [okTs, Bool.and_eq_true, decide_eq_true_eq, List.all_eq_true]
theorem okTs_no {l : List Sea} {k : Nat} (hk : k < l.length) (h : okT (l.getD k default) = false) : okTs l = false := by
  rw [← Bool.not_eq_true, okTs_iff]
  rintro ⟨h1, -⟩
  rw [h1 _ (getD_mem hk)] at h; cases h
theorem okTs_len {l : List Sea} (h : ¬ (1 ≤ l.length ∧ l.length ≤ 8)) : okTs l = false := by
  rw [← Bool.not_eq_true, okTs_iff]; rintro ⟨-, h1⟩; exact h h1
theorem seated_ok (s : Sea) (h : inT s) : Con Tryd.prog gl0 (fnv 46) [.agg (eT s)] 0 [] (Ret (Bo (!okT s))) := by
  refine Con.of Tryd.ok46 (nt := 21) (res := [.tmp 2]) Tryd.mixed Tryd.func46 rfl rfl rfl rfl fun κ xc hκ => hκ.run 300 ?_
  simp (disch := omega) only [exec_succ, runR_next, stepS, runOp, guardS, toSR, sop, rOf, rNew, sBox, isArr, sLoadIn, sLoad, sInt, sBin, sFieldAddr, ev, Env.get, Heap.get, takeN, cut, aggOf, cellsS, envOf, undefS, undef, Bool.false_eq_true, List.size_toArray, List.length_cons, List.length_nil, List.range, List.range.loop, List.getElem?_toArray, List.getElem?_cons_succ, List.getElem?_cons_zero, Option.bind_some, ↓reduceIte, Nat.reduceAdd, Nat.reduceLT, Nat.reduceEqDiff, Nat.zero_add, Nat.add_zero, Nat.add_one_ne_zero, Bool.not_false, and_self, gl0, Tryd.sz3, Tryd.ag3, Tryd.fd50f0, eT]
  by_cases h1 : 0 ≤ s.1
  case neg =>
    rw [okT, decide_eq_false h1] at hκ
    have e : (s.1 < 0) = True := by first | (simp only [eq_iff_iff, iff_true]; first | assumption | omega) | (simp; omega)
    simp (disch := omega) only [exec_succ, runR_next, runR_guard_tf, runR_stop, stepS, runOp, guardS, toSR, sop, rOf, sPick, sLoad, sBin, sFieldAddr, ev, Env.get, OutOK_stop, undefS, undef, List.getElem?_toArray, List.getElem?_cons_succ, List.getElem?_cons_zero, Option.bind_some, ↓reduceIte, Nat.reduceLT, Nat.reduceEqDiff, Nat.zero_add, Nat.add_one_ne_zero, Bool.not_false, decide_true, and_self, Tryd.fd50f1, e]
    refine hκ.ret _ _ _ _ _ _ trivial rfl ?_
    exact .ret trivial
  have e1 : (s.1 < 0) = False := by first | (simp only [eq_iff_iff, iff_false]; first | assumption | omega) | (simp; omega)
  by_cases h2 : s.1 < 4
  case neg =>
    rw [okT, decide_eq_true h1, decide_eq_false h2] at hκ
    have e : (4 ≤ s.1) = True := by first | (simp only [eq_iff_iff, iff_true]; first | assumption | omega) | (simp; omega)
    simp (disch := omega) only [exec_succ, runR_next, runR_guard_ff, runR_guard_tf, runR_stop, stepS, runOp, guardS, toSR, sop, rOf, sPick, sLoadIn, sLoad, sInt, sBin, sFieldAddr, ev, Env.get, Heap.get, takeN, cut, aggOf, OutOK_stop, undefS, undef, List.getElem?_toArray, List.getElem?_cons_succ, List.getElem?_cons_zero, Option.bind_some, ↓reduceIte, Nat.reduceLT, Nat.reduceEqDiff, Nat.zero_add, Nat.add_one_ne_zero, Bool.not_false, decide_true, decide_false, and_self, Tryd.sz3, Tryd.ag3, Tryd.fd50f1, e1, e]
    refine hκ.ret _ _ _ _ _ _ trivial rfl ?_
    exact .ret trivial
  have e2 : (4 ≤ s.1) = False := by first | (simp only [eq_iff_iff, iff_false]; first | assumption | omega) | (simp; omega)
  by_cases h3 : 0 ≤ s.2
  case neg =>
    rw [okT, decide_eq_true h1, decide_eq_true h2, decide_eq_false h3] at hκ
    have e : (s.2 < 0) = True := by first | (simp only [eq_iff_iff, iff_true]; first | assumption | omega) | (simp; omega)
    simp (disch := omega) only [exec_succ, runR_next, runR_guard_ff, runR_guard_tf, runR_stop, stepS, runOp, guardS, toSR, sop, rOf, sPick, sLoadIn, sLoad, sInt, sBin, sFieldAddr, ev, Env.get, Heap.get, takeN, cut, aggOf, OutOK_stop, undefS, undef, List.getElem?_toArray, List.getElem?_cons_succ, List.getElem?_cons_zero, Option.bind_some, ↓reduceIte, Nat.reduceLT, Nat.reduceEqDiff, Nat.zero_add, Nat.add_one_ne_zero, Bool.not_false, decide_true, decide_false, and_self, Tryd.sz3, Tryd.ag3, Tryd.fd50f1, e1, e2, e]
    refine hκ.ret _ _ _ _ _ _ trivial rfl ?_
    exact .ret trivial
  have e3 : (s.2 < 0) = False := by first | (simp only [eq_iff_iff, iff_false]; first | assumption | omega) | (simp; omega)
  by_cases h4 : s.2 < 8
  case neg =>
    rw [okT, decide_eq_true h1, decide_eq_true h2, decide_eq_true h3, decide_eq_false h4] at hκ
    have e : (8 ≤ s.2) = True := by first | (simp only [eq_iff_iff, iff_true]; first | assumption | omega) | (simp; omega)
    simp (disch := omega) only [exec_succ, runR_next, runR_guard_ff, runR_stop, stepS, runOp, guardS, toSR, sop, rOf, sPick, sLoadIn, sLoad, sInt, sBin, sFieldAddr, ev, Env.get, Heap.get, takeN, cut, aggOf, OutOK_stop, undefS, undef, List.getElem?_toArray, List.getElem?_cons_succ, List.getElem?_cons_zero, Option.bind_some, ↓reduceIte, Nat.reduceLT, Nat.reduceEqDiff, Nat.zero_add, Nat.add_one_ne_zero, Bool.not_false, decide_true, decide_false, and_self, Tryd.sz3, Tryd.ag3, Tryd.fd50f1, e1, e2, e3, e]
    refine hκ.ret _ _ _ _ _ _ trivial rfl ?_
    exact .ret trivial
  rw [okT, decide_eq_true h1, decide_eq_true h2, decide_eq_true h3, decide_eq_true h4] at hκ
  have e4 : (8 ≤ s.2) = False := by first | (simp only [eq_iff_iff, iff_false]; first | assumption | omega) | (simp; omega)
  simp (disch := omega) only [exec_succ, runR_next, runR_guard_ff, runR_stop, stepS, runOp, guardS, toSR, sop, rOf, sPick, sLoadIn, sLoad, sInt, sBin, sFieldAddr, ev, Env.get, Heap.get, takeN, cut, aggOf, OutOK_stop, undefS, undef, List.getElem?_toArray, List.getElem?_cons_succ, List.getElem?_cons_zero, Option.bind_some, ↓reduceIte, Nat.reduceLT, Nat.reduceEqDiff, Nat.zero_add, Nat.add_one_ne_zero, Bool.not_false, decide_false, and_self, Tryd.sz3, Tryd.ag3, Tryd.fd50f1, e1, e2, e3, e4]
  refine hκ.ret _ _ _ _ _ _ trivial rfl ?_
  exact .ret trivial
/-- Is there a seat that may not be? -/
theorem contains_ok (l : List Sea) (hl : ∀ s ∈ l, inT s) (hn : l.length < 2 ^ 40) : Con Tryd.prog gl0 (fnv 45) [Ss l, fnv 46] 0 [] (Ret (Bo (!l.all okT))) := by
  refine Con.of Tryd.ok45 (nt := 9) (res := [.tmp 4]) Tryd.mixed Tryd.func45 rfl rfl rfl rfl fun κ xc hκ => hκ.run 300 ?_
  simp (disch := omega) only [exec_succ, runR_next, runR_call, stepS, runOp, toSR, sop, rOf, ev, evs, Env.get, envOf, OutOK_call, List.size_toArray, List.length_cons, List.length_nil, List.range, List.range.loop, List.getElem?_toArray, List.getElem?_cons_succ, List.getElem?_cons_zero, ↓reduceIte, Nat.reduceAdd, Nat.reduceLT, Nat.reduceEqDiff, Nat.zero_add, Nat.add_one_ne_zero, reduceCtorEq, gl0, fnv]
  refine Does.inl hκ.hP hκ.hgl Tryd.ok58 (nt := 19) (res := [.tmp 4]) Tryd.mixed Tryd.func58 rfl rfl rfl rfl fun κ_h1 x_h1 h1 => h1.run 300 ?_
  simp (disch := omega) only [sBuiltin, exec_succ, runR_next, runR_stop, stepS, runOp, toSR, sop, rOf, sLen, ev, Env.get, envOf, OutOK_stop, List.size_toArray, List.length_cons, List.length_nil, List.length_map, List.range, List.range.loop, List.getElem?_toArray, List.getElem?_cons_succ, List.getElem?_cons_zero, ↓reduceIte, Nat.reduceAdd, Nat.reduceLT, Nat.zero_add, Nat.add_one_ne_zero, Int.reduceNeg, gl0, Tryd.underlying22]
  refine Sat.less (Sat.loop (γ := Nat) (fun k => ([(8, I k), (7, I l.length), (0, Ss l), (1, fnv 46)], [], 0)) (fun k => l.length - k) (fun k => k ≤ l.length ∧ ∀ j, j < k → okT (l.getD j default) = true) ?round 0 ⟨Nat.zero_le _, fun j hj => by omega⟩) (by repeat' (first | exact EnvSub.nil _ | exact HeapSub.nil _ | refine EnvSub.cons rfl ?_ | refine HeapSub.cons rfl ?_ | (refine EnvSub.cons (by simp [Env.get]; done) ?_) | (refine HeapSub.cons (by simp [Heap.get]; done) ?_))) (by repeat' (first | exact EnvSub.nil _ | exact HeapSub.nil _ | refine EnvSub.cons rfl ?_ | refine HeapSub.cons rfl ?_ | (refine EnvSub.cons (by simp [Env.get]; done) ?_) | (refine HeapSub.cons (by simp [Heap.get]; done) ?_)))
  case round =>
    rintro k ⟨hk, hj⟩ ih
    dsimp only at ih ⊢
    refine h1.run 300 ?_
    simp (disch := omega) only [exec_succ, runR_next, stepS, runOp, condS, toSR, sop, sInt, sBin, ev, Env.get, List.size_toArray, List.length_cons, List.length_nil, List.range, List.range.loop, List.getElem?_toArray, List.getElem?_cons_zero, ↓reduceIte, Nat.reduceLT, Nat.reduceEqDiff, Nat.zero_add, Int.reduceNeg, gl0, fnv, fnv]
    refine OutOK_fork (fun h => ?_) (fun h => ?_) <;> try simp only [Bool.not_true, Bool.not_false, decide_eq_true_eq, decide_eq_false_iff_not, Bool.not_eq_true', Bool.not_eq_false', Bool.and_eq_true, Bool.or_eq_false_iff, Bool.or_eq_true, Bool.and_eq_false_iff] at h
    · have hz := fun h => ih (k + 1) ⟨by omega, h⟩ (by omega)
      have hz := fun (h : okT (l.getD k default) = true) => hz fun j hj2 => by
        by_cases e : j = k
        · rw [e]; exact h
        · exact hj j (by omega)
      have hno : okT (l.getD k default) = false → l.all okT = false := fun h => List.all_eq_false.2 ⟨_, getD_mem (show k < l.length by omega), by rw [h]; decide⟩
      have c1 := seated_ok _ (hl _ (getD_mem (show k < l.length by omega)))
      have gk : (List.map eT l).getD k [] = eT (l.getD k default) := getD_map _ _ _ (by omega)
      generalize l.getD k default = y at *
      rw [eT] at c1
      simp (disch := omega) only [exec_succ, runR_next, runR_need, runR_call, stepS, runOp, toSR, sop, rOf, sLoad, sIndexAddr, elemT, obind, ev, evs, Env.get, takeN, cut, aggOf, OutOK_need, OutOK_call, List.size_toArray, List.length_cons, List.length_nil, List.length_map, List.range, List.range.loop, List.getElem?_toArray, List.getElem?_cons_succ, List.getElem?_cons_zero, ↓reduceIte, Nat.reduceAdd, Nat.reduceLT, Nat.reduceEqDiff, Nat.zero_add, Nat.add_one_ne_zero, Int.reduceNeg, Int.toNat_natCast, reduceCtorEq, Tryd.underlying22, Tryd.sz50, Tryd.ag50, gk, eT]
      (repeat (refine ⟨by first | omega | (refine ⟨?_, ?_⟩ <;> omega) | trivial | (simp; done) | decide +kernel, fun _ => ?_⟩))
      cases ho : okT y
      · rw [hno ho] at hκ
        rw [ho] at c1
        have ek : decide ((0 : Int) ≤ (k : Int)) = true := decide_eq_true (by omega)
        refine Does.ret h1.hP h1.hgl (c1) ⟨trivial, by simp [SV.bnd, SV.bndL], by first | (simp [SV.bnd, SV.bndL]; done) | assumption⟩ ?_
        refine h1.run 300 ?_
        simp (disch := omega) only [exec_succ, runR_next, runR_fork_true, runR_stop, stepS, runOp, condS, toSR, sop, rOf, ev, Env.get, setO, OutOK_stop, List.size_toArray, List.length_cons, List.length_nil, List.range, List.range.loop, List.getElem?_toArray, List.getElem?_cons_succ, List.getElem?_cons_zero, ↓reduceIte, Nat.reduceAdd, Nat.reduceLT, Nat.reduceEqDiff, Nat.zero_add, Int.reduceNeg, Bool.not_false, gl0]
        refine h1.ret _ _ _ _ _ _ trivial rfl ?_
        refine hκ.run 300 ?_
        simp (disch := omega) only [exec_succ, runR_next, runR_stop, stepS, runOp, toSR, sop, rOf, sInt, sBin, ev, Env.get, setO, OutOK_stop, dropL, resV, List.getElem?_toArray, List.getElem?_cons_succ, List.getElem?_cons_zero, ↓reduceIte, Nat.reduceLT, gl0, ek]
        refine hκ.ret _ _ _ _ _ _ trivial rfl ?_
        exact .ret trivial
      · have hz := hz ho
        rw [ho] at c1
        refine Does.ret h1.hP h1.hgl (c1) ⟨trivial, by simp [SV.bnd, SV.bndL], by first | (simp [SV.bnd, SV.bndL]; done) | assumption⟩ ?_
        refine h1.run 300 ?_
        simp (disch := omega) only [exec_succ, runR_next, runR_fork_false, runR_stop, stepS, runOp, condS, toSR, sop, rOf, sInt, sBin, ev, Env.get, setO, OutOK_stop, List.size_toArray, List.length_cons, List.length_nil, List.range, List.range.loop, List.getElem?_toArray, List.getElem?_cons_succ, List.getElem?_cons_zero, ↓reduceIte, Nat.reduceAdd, Nat.reduceLT, Nat.reduceEqDiff, Nat.zero_add, Int.reduceNeg, Bool.not_true, wrap_i64, gl0]
        refine Sat.via (fun i => i) (hz) (by intro i j; (repeat (first | omega | split))) (by repeat' (first | exact EnvVia.nil | refine EnvVia.cons (by first | trivial | decide | (simp [SV.bnd, SV.bndL]; done)) rfl ?_)) (by repeat' (first | exact HeapVia.nil | refine HeapVia.cons (by decide) (by first | trivial | (simp [Blk.bnd, SV.bnd, SV.bndL]; done) | exact bndL_mapV _ _ _ | exact LR.bnd (by rw [l2]; simp [bndE, SV.bnd, SV.bndL]) (by rw [l6]; decide)) (by first | rfl | (simp only [Blk.ren, renL_mapV]; rfl) | (rw [LR.ren (by rw [l2] <;> rfl) (by rw [l6] <;> rfl)]; rfl)) ?_)) ⟨by have := h1.hm; (try dsimp only at this); (first | done | omega), fun i hi => by have := h1.hm; (try dsimp only at this); (first | omega | (dsimp only; omega) | (rw [if_neg (by omega)]))⟩ ⟨by simp, rfl⟩
    · simp (disch := omega) only [exec_succ, runR_next, runR_stop, stepS, runOp, goS, toSR, sop, rOf, ev, exitTo, OutOK_stop, List.size_toArray, List.length_cons, List.length_nil, List.range, List.range.loop, List.getElem?_toArray, List.getElem?_cons_zero, ↓reduceIte, Nat.reduceLT, Nat.zero_add, Int.reduceNeg, beq_self_eq_true]
      obtain rfl : k = l.length := by omega
      have hall : l.all okT = true := List.all_eq_true.2 (all_getD hj)
      rw [hall] at hκ
      refine h1.ret _ _ _ _ _ _ trivial rfl ?_
      refine hκ.run 300 ?_
      simp (disch := omega) only [exec_succ, runR_next, runR_stop, stepS, runOp, toSR, sop, rOf, sInt, sBin, ev, Env.get, setO, OutOK_stop, dropL, resV, List.getElem?_toArray, List.getElem?_cons_succ, List.getElem?_cons_zero, ↓reduceIte, Nat.reduceLT, Int.reduceLE, Int.reduceNeg, decide_false, gl0, Int.reduceNeg]
      refine hκ.ret _ _ _ _ _ _ trivial rfl ?_
      exact .ret trivial
theorem tcheck_ok (l : List Sea) (hl : ∀ s ∈ l, inT s) (hn : l.length < 2 ^ 40) : Con Tryd.prog gl0 (fnv 24) [To l] 0 [] (Ret (I (if okTs l = true then 0 else 160))) := by
  have c1 := contains_ok l hl hn
  rw [fnv] at c1
  refine Con.of Tryd.ok24 (nt := 18) (res := [.tmp 2]) Tryd.mixed Tryd.func24 rfl rfl rfl rfl fun κ xc hκ => hκ.run 300 ?_
  simp (disch := omega) only [sBuiltin, exec_succ, runR_next, stepS, runOp, guardS, toSR, sop, rOf, rNew, sBox, isArr, sLoadIn, sLoad, sInt, sBin, sFieldAddr, sLen, ev, Env.get, Heap.get, takeN, cut, aggOf, cellsS, envOf, undefS, undef, Bool.false_eq_true, List.size_toArray, List.length_cons, List.length_nil, List.length_map, List.range, List.range.loop, List.getElem?_toArray, List.getElem?_cons_succ, List.getElem?_cons_zero, Option.bind_some, ↓reduceIte, Nat.reduceAdd, Nat.reduceLT, Nat.reduceEqDiff, Nat.zero_add, Nat.add_zero, Nat.add_one_ne_zero, Bool.not_false, and_self, gl0, Tryd.underlying22, Tryd.sz22, Tryd.ag22, Tryd.fd24f0]
  by_cases h1 : (l.length : Int) < 1
  · rw [okTs_len (by omega), if_neg (by decide)] at hκ
    simp (disch := omega) only [sBuiltin, exec_succ, runR_next, runR_fork_true, runR_guard_tf, runR_stop, stepS, runOp, guardS, condS, toSR, sop, rOf, sPick, sLoad, sBin, sFieldAddr, sLen, ev, evs, Env.get, OutOK_stop, undefS, undef, List.size_toArray, List.length_cons, List.length_nil, List.range, List.range.loop, List.getElem?_toArray, List.getElem?_cons_succ, List.getElem?_cons_zero, Option.bind_some, ↓reduceIte, Nat.reduceLT, Nat.reduceEqDiff, Nat.zero_add, Nat.add_zero, Nat.add_one_ne_zero, Bool.not_false, decide_true, and_self, Tryd.fd24f0, h1]
    refine hκ.ret _ _ _ _ _ _ trivial rfl ?_
    exact .ret trivial
  by_cases h2 : (8 : Int) < l.length
  · rw [okTs_len (by omega), if_neg (by decide)] at hκ
    simp (disch := omega) only [sBuiltin, exec_succ, runR_next, runR_fork_true, runR_guard_ff, runR_guard_tf, runR_stop, stepS, runOp, guardS, condS, toSR, sop, rOf, sPick, sLoadIn, sLoad, sInt, sBin, sFieldAddr, sLen, ev, evs, Env.get, Heap.get, takeN, cut, aggOf, OutOK_stop, undefS, undef, List.size_toArray, List.length_cons, List.length_nil, List.length_map, List.range, List.range.loop, List.getElem?_toArray, List.getElem?_cons_succ, List.getElem?_cons_zero, Option.bind_some, ↓reduceIte, Nat.reduceLT, Nat.reduceEqDiff, Nat.zero_add, Nat.add_zero, Nat.add_one_ne_zero, Bool.not_false, decide_true, decide_false, and_self, Tryd.underlying22, Tryd.sz22, Tryd.ag22, Tryd.fd24f0, h1, h2]
    refine hκ.ret _ _ _ _ _ _ trivial rfl ?_
    exact .ret trivial
  have e : okTs l = l.all okT := by rw [okTs, decide_eq_true (show 1 ≤ l.length by omega), decide_eq_true (show l.length ≤ 8 by omega)]; simp
  rw [e] at hκ
  simp (disch := omega) only [sBuiltin, exec_succ, runR_next, runR_guard_ff, runR_call, stepS, runOp, guardS, toSR, sop, rOf, sPick, sLoadIn, sLoad, sInt, sBin, sFieldAddr, sLen, ev, evs, Env.get, Heap.get, takeN, cut, aggOf, OutOK_call, undefS, undef, List.length_map, List.getElem?_toArray, List.getElem?_cons_succ, List.getElem?_cons_zero, Option.bind_some, ↓reduceIte, Nat.reduceLT, Nat.reduceEqDiff, Nat.add_zero, Nat.add_one_ne_zero, Bool.not_false, decide_false, and_self, Tryd.underlying22, Tryd.sz22, Tryd.ag22, Tryd.fd24f0, h1, h2]
  cases ha : l.all okT
  · rw [ha, if_neg (by decide)] at hκ
    rw [ha] at c1
    refine Does.ret hκ.hP hκ.hgl (c1) ⟨trivial, by simp [SV.bnd, SV.bndL], by first | (simp [SV.bnd, SV.bndL]; done) | assumption⟩ ?_
    refine hκ.run 300 ?_
    simp (disch := omega) only [exec_succ, runR_next, runR_fork_true, runR_stop, stepS, runOp, condS, toSR, sop, rOf, sPick, ev, Env.get, setO, OutOK_stop, List.size_toArray, List.length_cons, List.length_nil, List.range, List.range.loop, List.getElem?_toArray, List.getElem?_cons_succ, List.getElem?_cons_zero, ↓reduceIte, Nat.reduceLT, Nat.reduceEqDiff, Nat.zero_add, Bool.not_false, gl0]
    refine hκ.ret _ _ _ _ _ _ trivial rfl ?_
    exact .ret trivial
  · rw [ha, if_pos rfl] at hκ
    rw [ha] at c1
    refine Does.ret hκ.hP hκ.hgl (c1) ⟨trivial, by simp [SV.bnd, SV.bndL], by first | (simp [SV.bnd, SV.bndL]; done) | assumption⟩ ?_
    refine hκ.run 300 ?_
    simp (disch := omega) only [exec_succ, runR_next, runR_fork_false, runR_stop, stepS, runOp, condS, toSR, sop, rOf, sPick, ev, Env.get, setO, OutOK_stop, List.size_toArray, List.length_cons, List.length_nil, List.range, List.range.loop, List.getElem?_toArray, List.getElem?_cons_succ, List.getElem?_cons_zero, ↓reduceIte, Nat.reduceLT, Nat.reduceEqDiff, Nat.zero_add, Bool.not_true, gl0]
    refine hκ.ret _ _ _ _ _ _ trivial rfl ?_
    exact .ret trivial
theorem tright_ok (l : List Sea) (hl : ∀ s ∈ l, inT s) (hn : l.length < 2 ^ 40) : Con Tryd.prog gl0 (fnv 12) [To l] 0 [] (Ret (Bo (okTs l))) := by
  refine Con.of Tryd.ok12 (nt := 41) (res := [.tmp 2]) Tryd.mixed Tryd.func12 rfl rfl rfl rfl fun κ xc hκ => hκ.run 300 ?_
  simp (disch := omega) only [sBuiltin, exec_succ, runR_next, runR_stop, stepS, runOp, toSR, sop, rOf, rNew, sBox, isArr, sLoadIn, sLoad, sFieldAddr, sLen, ev, Env.get, Heap.get, takeN, cut, aggOf, cellsS, envOf, OutOK_stop, Bool.false_eq_true, List.size_toArray, List.length_cons, List.length_nil, List.length_map, List.range, List.range.loop, List.getElem?_toArray, List.getElem?_cons_succ, List.getElem?_cons_zero, ↓reduceIte, Nat.reduceAdd, Nat.reduceLT, Nat.reduceEqDiff, Nat.zero_add, Nat.add_zero, Nat.add_one_ne_zero, gl0, Tryd.underlying22, Tryd.sz22, Tryd.ag22, Tryd.fd24f0]
  refine Sat.less (Sat.loop (γ := Nat) (fun k => ([(8, I k), (7, I l.length), (6, Ss l), (1, .ptr 0 0 0 0)], [(0, .own [Ss l] 24)], 1)) (fun k => l.length - k) (fun k => k ≤ l.length ∧ ∀ j, j < k → okT (l.getD j default) = true) ?round 0 ⟨Nat.zero_le _, fun j hj => by omega⟩) (by repeat' (first | exact EnvSub.nil _ | exact HeapSub.nil _ | refine EnvSub.cons rfl ?_ | refine HeapSub.cons rfl ?_ | (refine EnvSub.cons (by simp [Env.get]; done) ?_) | (refine HeapSub.cons (by simp [Heap.get]; done) ?_))) (by repeat' (first | exact EnvSub.nil _ | exact HeapSub.nil _ | refine EnvSub.cons rfl ?_ | refine HeapSub.cons rfl ?_ | (refine EnvSub.cons (by simp [Env.get]; done) ?_) | (refine HeapSub.cons (by simp [Heap.get]; done) ?_)))
  case round =>
    rintro k ⟨hk, hj⟩ ih
    dsimp only at ih ⊢
    refine hκ.run 300 ?_
    simp (disch := omega) only [exec_succ, runR_next, stepS, runOp, condS, toSR, sop, sInt, sBin, ev, Env.get, List.size_toArray, List.length_cons, List.length_nil, List.range, List.range.loop, List.getElem?_toArray, List.getElem?_cons_zero, ↓reduceIte, Nat.reduceLT, Nat.reduceEqDiff, Nat.zero_add, gl0]
    refine OutOK_fork (fun h => ?_) (fun h => ?_) <;> try simp only [Bool.not_true, Bool.not_false, decide_eq_true_eq, decide_eq_false_iff_not, Bool.not_eq_true', Bool.not_eq_false', Bool.and_eq_true, Bool.or_eq_false_iff, Bool.or_eq_true, Bool.and_eq_false_iff] at h
    · have hz := fun h => ih (k + 1) ⟨by omega, h⟩ (by omega)
      have hz := fun (h : okT (l.getD k default) = true) => hz fun j hj2 => by
        by_cases e : j = k
        · rw [e]; exact h
        · exact hj j (by omega)
      have hno := fun h => okTs_no (l := l) (k := k) (by omega) h
      have gk : (List.map eT l).getD k [] = eT (l.getD k default) := getD_map _ _ _ (by omega)
      generalize l.getD k default = s at *
      rw [okT] at hno hz
      simp (disch := omega) only [exec_succ, runR_next, runR_need, stepS, runOp, guardS, toSR, sop, rOf, rNew, sAlloc, sAlloc0, sLoadIn, sLoad, sStoreIn, sStore, sInt, sBin, sFieldAddr, sIndexAddr, elemT, obind, ev, svs, Env.get, Heap.get, Heap.set, takeN, cut, over, paste, aggOf, cellsS, one, ones, Value.oneCell', OutOK_need, undefS, undef, List.size_toArray, List.length_cons, List.length_nil, List.length_map, List.range, List.range.loop, List.getElem?_toArray, List.getElem?_cons_succ, List.getElem?_cons_zero, List.map_cons, List.map_nil, Option.bind_some, ↓reduceIte, Nat.reduceAdd, Nat.reduceLT, Nat.reduceEqDiff, Nat.zero_add, Nat.add_zero, Nat.add_one_ne_zero, Int.toNat_natCast, Bool.not_false, true_and, and_self, forall_const, Tryd.sz3, Tryd.ag3, Tryd.underlying22, Tryd.sz50, Tryd.ag50, Tryd.ze50, Tryd.ar50, Tryd.fd50f0, gk, eT]
      (repeat (refine ⟨by first | omega | (refine ⟨?_, ?_⟩ <;> omega) | trivial | (simp; done) | decide +kernel, fun _ => ?_⟩))
      by_cases h1 : 0 ≤ s.1
      case neg =>
        rw [hno (by rw [decide_eq_false h1]; rfl)] at hκ
        have e : (s.1 < 0) = True := by first | (simp only [eq_iff_iff, iff_true]; first | assumption | omega) | (simp; omega)
        simp (disch := omega) only [exec_succ, runR_next, runR_fork_true, runR_guard_tf, runR_stop, stepS, runOp, guardS, condS, toSR, sop, rOf, sPick, sLoad, sBin, sFieldAddr, ev, Env.get, OutOK_stop, undefS, undef, List.size_toArray, List.length_cons, List.length_nil, List.range, List.range.loop, List.getElem?_toArray, List.getElem?_cons_succ, List.getElem?_cons_zero, Option.bind_some, ↓reduceIte, Nat.reduceLT, Nat.reduceEqDiff, Nat.zero_add, Nat.add_one_ne_zero, Bool.not_false, decide_true, and_self, Tryd.fd50f1, e]
        refine hκ.ret _ _ _ _ _ _ trivial rfl ?_
        exact .ret trivial
      have e1 : (s.1 < 0) = False := by first | (simp only [eq_iff_iff, iff_false]; first | assumption | omega) | (simp; omega)
      by_cases h2 : s.1 < 4
      case neg =>
        rw [hno (by rw [decide_eq_false h2]; simp)] at hκ
        have e : (4 ≤ s.1) = True := by first | (simp only [eq_iff_iff, iff_true]; first | assumption | omega) | (simp; omega)
        simp (disch := omega) only [exec_succ, runR_next, runR_fork_true, runR_guard_ff, runR_guard_tf, runR_stop, stepS, runOp, guardS, condS, toSR, sop, rOf, sPick, sLoadIn, sLoad, sInt, sBin, sFieldAddr, ev, Env.get, Heap.get, takeN, cut, aggOf, OutOK_stop, undefS, undef, List.size_toArray, List.length_cons, List.length_nil, List.range, List.range.loop, List.getElem?_toArray, List.getElem?_cons_succ, List.getElem?_cons_zero, Option.bind_some, ↓reduceIte, Nat.reduceLT, Nat.reduceEqDiff, Nat.zero_add, Nat.add_one_ne_zero, Bool.not_false, decide_true, decide_false, and_self, Tryd.sz3, Tryd.ag3, Tryd.fd50f1, e1, e]
        refine hκ.ret _ _ _ _ _ _ trivial rfl ?_
        exact .ret trivial
      have e2 : (4 ≤ s.1) = False := by first | (simp only [eq_iff_iff, iff_false]; first | assumption | omega) | (simp; omega)
      by_cases h3 : 0 ≤ s.2
      case neg =>
        rw [hno (by rw [decide_eq_false h3]; simp)] at hκ
        have e : (s.2 < 0) = True := by first | (simp only [eq_iff_iff, iff_true]; first | assumption | omega) | (simp; omega)
        simp (disch := omega) only [exec_succ, runR_next, runR_fork_true, runR_guard_ff, runR_guard_tf, runR_stop, stepS, runOp, guardS, condS, toSR, sop, rOf, sPick, sLoadIn, sLoad, sInt, sBin, sFieldAddr, ev, Env.get, Heap.get, takeN, cut, aggOf, OutOK_stop, undefS, undef, List.size_toArray, List.length_cons, List.length_nil, List.range, List.range.loop, List.getElem?_toArray, List.getElem?_cons_succ, List.getElem?_cons_zero, Option.bind_some, ↓reduceIte, Nat.reduceLT, Nat.reduceEqDiff, Nat.zero_add, Nat.add_one_ne_zero, Bool.not_false, decide_true, decide_false, and_self, Tryd.sz3, Tryd.ag3, Tryd.fd50f1, e1, e2, e]
        refine hκ.ret _ _ _ _ _ _ trivial rfl ?_
        exact .ret trivial
      have e3 : (s.2 < 0) = False := by first | (simp only [eq_iff_iff, iff_false]; first | assumption | omega) | (simp; omega)
      by_cases h4 : s.2 < 8
      case neg =>
        rw [hno (by rw [decide_eq_false h4]; simp)] at hκ
        have e : (8 ≤ s.2) = True := by first | (simp only [eq_iff_iff, iff_true]; first | assumption | omega) | (simp; omega)
        simp (disch := omega) only [exec_succ, runR_next, runR_fork_true, runR_guard_ff, runR_stop, stepS, runOp, guardS, condS, toSR, sop, rOf, sPick, sLoadIn, sLoad, sInt, sBin, sFieldAddr, ev, Env.get, Heap.get, takeN, cut, aggOf, OutOK_stop, undefS, undef, List.size_toArray, List.length_cons, List.length_nil, List.range, List.range.loop, List.getElem?_toArray, List.getElem?_cons_succ, List.getElem?_cons_zero, Option.bind_some, ↓reduceIte, Nat.reduceLT, Nat.reduceEqDiff, Nat.zero_add, Nat.add_one_ne_zero, Bool.not_false, decide_true, decide_false, and_self, Tryd.sz3, Tryd.ag3, Tryd.fd50f1, e1, e2, e3, e]
        refine hκ.ret _ _ _ _ _ _ trivial rfl ?_
        exact .ret trivial
      have hz := hz (by rw [decide_eq_true h1, decide_eq_true h2, decide_eq_true h3, decide_eq_true h4]; rfl)
      have e4 : (8 ≤ s.2) = False := by first | (simp only [eq_iff_iff, iff_false]; first | assumption | omega) | (simp; omega)
      simp (disch := omega) only [exec_succ, runR_next, runR_fork_false, runR_guard_ff, runR_stop, stepS, runOp, guardS, condS, toSR, sop, rOf, sPick, sLoadIn, sLoad, sInt, sBin, sFieldAddr, ev, Env.get, Heap.get, takeN, cut, aggOf, OutOK_stop, undefS, undef, List.size_toArray, List.length_cons, List.length_nil, List.range, List.range.loop, List.getElem?_toArray, List.getElem?_cons_succ, List.getElem?_cons_zero, Option.bind_some, ↓reduceIte, Nat.reduceAdd, Nat.reduceLT, Nat.reduceEqDiff, Nat.zero_add, Nat.add_one_ne_zero, Bool.not_false, decide_false, and_self, wrap_i64, Tryd.sz3, Tryd.ag3, Tryd.fd50f1, e1, e2, e3, e4]
      refine Sat.via (fun i => i) (hz) (by intro i j; (repeat (first | omega | split))) (by repeat' (first | exact EnvVia.nil | refine EnvVia.cons (by first | trivial | decide | (simp [SV.bnd, SV.bndL]; done)) rfl ?_)) (by repeat' (first | exact HeapVia.nil | refine HeapVia.cons (by decide) (by first | trivial | (simp [Blk.bnd, SV.bnd, SV.bndL]; done) | exact bndL_mapV _ _ _ | exact LR.bnd (by rw [l2]; simp [bndE, SV.bnd, SV.bndL]) (by rw [l6]; decide)) (by first | rfl | (simp only [Blk.ren, renL_mapV]; rfl) | (rw [LR.ren (by rw [l2] <;> rfl) (by rw [l6] <;> rfl)]; rfl)) ?_)) ⟨by have := hκ.hm; (try dsimp only at this); (first | done | omega), fun i hi => by have := hκ.hm; (try dsimp only at this); (first | omega | (dsimp only; omega) | (rw [if_neg (by omega)]))⟩ ⟨by simp, rfl⟩
    · simp (disch := omega) only [sBuiltin, exec_succ, runR_next, stepS, runOp, guardS, goS, toSR, sop, rOf, sLoadIn, sLoad, sInt, sBin, sFieldAddr, sLen, ev, Env.get, Heap.get, takeN, cut, aggOf, exitTo, undefS, undef, List.size_toArray, List.length_cons, List.length_nil, List.length_map, List.range, List.range.loop, List.getElem?_toArray, List.getElem?_cons_succ, List.getElem?_cons_zero, Option.bind_some, ↓reduceIte, Nat.reduceAdd, Nat.reduceLT, Nat.reduceEqDiff, Nat.zero_add, Nat.add_zero, Nat.add_one_ne_zero, Bool.not_true, beq_self_eq_true, and_self, Tryd.underlying22, Tryd.sz22, Tryd.ag22, Tryd.fd24f0]
      obtain rfl : k = l.length := by omega
      have hall : l.all okT = true := List.all_eq_true.2 (all_getD hj)
      by_cases h1 : (1 : Int) ≤ l.length
      · by_cases h2 : (l.length : Int) ≤ 8
        · rw [okTs, hall, decide_eq_true (show 1 ≤ l.length by omega), decide_eq_true (show l.length ≤ 8 by omega)] at hκ
          simp (disch := omega) only [sBuiltin, exec_succ, runR_next, runR_guard_tt, runR_stop, stepS, runOp, guardS, toSR, sop, rOf, sPick, sLoadIn, sLoad, sInt, sBin, sLen, ev, Env.get, Heap.get, takeN, cut, aggOf, OutOK_stop, undefS, undef, List.length_map, List.getElem?_toArray, List.getElem?_cons_succ, List.getElem?_cons_zero, Option.bind_some, ↓reduceIte, Nat.reduceLT, Nat.reduceEqDiff, Bool.not_true, decide_true, and_self, Tryd.underlying22, Tryd.sz22, Tryd.ag22, h1, h2]
          refine hκ.ret _ _ _ _ _ _ trivial rfl ?_
          exact .ret trivial
        · rw [okTs_len (by omega)] at hκ
          simp (disch := omega) only [sBuiltin, exec_succ, runR_next, runR_guard_tt, runR_stop, stepS, runOp, guardS, toSR, sop, rOf, sPick, sLoadIn, sLoad, sInt, sBin, sLen, ev, Env.get, Heap.get, takeN, cut, aggOf, OutOK_stop, undefS, undef, List.length_map, List.getElem?_toArray, List.getElem?_cons_succ, List.getElem?_cons_zero, Option.bind_some, ↓reduceIte, Nat.reduceLT, Nat.reduceEqDiff, Bool.not_true, decide_true, decide_false, and_self, Tryd.underlying22, Tryd.sz22, Tryd.ag22, h1, h2]
          refine hκ.ret _ _ _ _ _ _ trivial rfl ?_
          exact .ret trivial
      · rw [okTs_len (by omega)] at hκ
        simp (disch := omega) only [sBuiltin, exec_succ, runR_next, runR_guard_ft, runR_stop, stepS, runOp, guardS, toSR, sop, rOf, sPick, sLoad, sBin, sLen, ev, Env.get, OutOK_stop, undefS, undef, List.getElem?_toArray, List.getElem?_cons_succ, List.getElem?_cons_zero, Option.bind_some, ↓reduceIte, Nat.reduceLT, Nat.reduceEqDiff, Bool.not_true, decide_false, and_self, h1]
        refine hκ.ret _ _ _ _ _ _ trivial rfl ?_
        exact .ret trivial
def inN (l : List Sea) (n : Int) : Bool := decide (0 ≤ n) && decide (n < l.length)
theorem inN_iff (l : List Sea) (n : Int) : inN l n = true ↔ 0 ≤ n ∧ n < l.length := by
  simp only [inN, Bool.and_eq_true, decide_eq_true_eq]
theorem there_ok (l : List Sea) (n : Int) : Con Tryd.prog gl0 (fnv 38) [To l, I n] 0 [] (Ret (Bo (inN l n))) := by
  refine Con.of Tryd.ok38 (nt := 14) (res := [.tmp 4]) Tryd.mixed Tryd.func38 rfl rfl rfl rfl fun κ xc hκ => hκ.run 300 ?_
  simp (disch := omega) only [exec_succ, runR_next, stepS, runOp, guardS, toSR, sop, rOf, rNew, sBox, isArr, sInt, sBin, ev, Env.get, cellsS, envOf, undefS, undef, Bool.false_eq_true, List.size_toArray, List.length_cons, List.length_nil, List.range, List.range.loop, List.getElem?_toArray, List.getElem?_cons_succ, List.getElem?_cons_zero, Option.bind_some, ↓reduceIte, Nat.reduceAdd, Nat.reduceLT, Nat.reduceEqDiff, Nat.zero_add, Bool.not_true, and_self, reduceCtorEq, gl0]
  by_cases h1 : 0 ≤ n
  · rw [inN, decide_eq_true h1, Bool.true_and] at hκ
    simp (disch := omega) only [sBuiltin, exec_succ, runR_next, runR_guard_tt, runR_stop, stepS, runOp, guardS, toSR, sop, rOf, sPick, sLoadIn, sLoad, sInt, sBin, sFieldAddr, sLen, ev, Env.get, Heap.get, takeN, cut, aggOf, OutOK_stop, undefS, undef, List.length_map, List.getElem?_toArray, List.getElem?_cons_succ, List.getElem?_cons_zero, Option.bind_some, ↓reduceIte, Nat.reduceLT, Nat.reduceEqDiff, Nat.add_zero, Nat.add_one_ne_zero, Bool.not_true, decide_true, and_self, Tryd.underlying22, Tryd.sz22, Tryd.ag22, Tryd.fd24f0, h1]
    refine hκ.ret _ _ _ _ _ _ trivial rfl ?_
    exact .ret trivial
  · rw [inN, decide_eq_false h1, Bool.false_and] at hκ
    simp (disch := omega) only [sBuiltin, exec_succ, runR_next, runR_guard_ft, runR_stop, stepS, runOp, guardS, toSR, sop, rOf, sPick, sLoad, sBin, sFieldAddr, sLen, ev, Env.get, OutOK_stop, undefS, undef, List.getElem?_toArray, List.getElem?_cons_succ, List.getElem?_cons_zero, Option.bind_some, ↓reduceIte, Nat.reduceLT, Nat.reduceEqDiff, Nat.add_zero, Nat.add_one_ne_zero, Bool.not_true, decide_false, and_self, Tryd.fd24f0, h1]
    refine hκ.ret _ _ _ _ _ _ trivial rfl ?_
    exact .ret trivial
theorem tcpu_ok (l : List Sea) (n : Int) : Con Tryd.prog gl0 (fnv 14) [To l, I n] 0 [] (Ret (Bo (inN l n))) := by
  refine Con.of Tryd.ok14 (nt := 14) (res := [.tmp 4]) Tryd.mixed Tryd.func14 rfl rfl rfl rfl fun κ xc hκ => hκ.run 300 ?_
  simp (disch := omega) only [exec_succ, runR_next, stepS, runOp, guardS, toSR, sop, rOf, rNew, sBox, isArr, sInt, sBin, ev, Env.get, cellsS, envOf, undefS, undef, Bool.false_eq_true, List.size_toArray, List.length_cons, List.length_nil, List.range, List.range.loop, List.getElem?_toArray, List.getElem?_cons_succ, List.getElem?_cons_zero, Option.bind_some, ↓reduceIte, Nat.reduceAdd, Nat.reduceLT, Nat.reduceEqDiff, Nat.zero_add, Bool.not_true, and_self, reduceCtorEq, gl0]
  by_cases h1 : 0 ≤ n
  · rw [inN, decide_eq_true h1, Bool.true_and] at hκ
    simp (disch := omega) only [sBuiltin, exec_succ, runR_next, runR_guard_tt, runR_stop, stepS, runOp, guardS, toSR, sop, rOf, sPick, sLoadIn, sLoad, sInt, sBin, sFieldAddr, sLen, ev, Env.get, Heap.get, takeN, cut, aggOf, OutOK_stop, undefS, undef, List.length_map, List.getElem?_toArray, List.getElem?_cons_succ, List.getElem?_cons_zero, Option.bind_some, ↓reduceIte, Nat.reduceLT, Nat.reduceEqDiff, Nat.add_zero, Nat.add_one_ne_zero, Bool.not_true, decide_true, and_self, Tryd.underlying22, Tryd.sz22, Tryd.ag22, Tryd.fd24f0, h1]
    refine hκ.ret _ _ _ _ _ _ trivial rfl ?_
    exact .ret trivial
  · rw [inN, decide_eq_false h1, Bool.false_and] at hκ
    simp (disch := omega) only [sBuiltin, exec_succ, runR_next, runR_guard_ft, runR_stop, stepS, runOp, guardS, toSR, sop, rOf, sPick, sLoad, sBin, sFieldAddr, sLen, ev, Env.get, OutOK_stop, undefS, undef, List.getElem?_toArray, List.getElem?_cons_succ, List.getElem?_cons_zero, Option.bind_some, ↓reduceIte, Nat.reduceLT, Nat.reduceEqDiff, Nat.add_zero, Nat.add_one_ne_zero, Bool.not_true, decide_false, and_self, Tryd.fd24f0, h1]
    refine hκ.ret _ _ _ _ _ _ trivial rfl ?_
    exact .ret trivial
/-- How far two pCPUs are from one another. -/
def distN (l : List Sea) (a b : Nat) : Int :=
  if a = b then 0 else if l.getD a default = l.getD b default then 1 else if (l.getD a default).1 = (l.getD b default).1 then 2 else 3
theorem distN_bd (l : List Sea) (a b : Nat) : 0 ≤ distN l a b ∧ distN l a b ≤ 3 := by
  rw [distN]; repeat' split
  all_goals omega
theorem seat_eq (p q : Sea) : (decide (p.1 = q.1) && decide (p.2 = q.2)) = decide (p = q) := by
  rw [← Bool.decide_and, decide_eq_decide]
  exact ⟨fun h => Prod.ext h.1 h.2, fun h => by rw [h]; exact ⟨rfl, rfl⟩⟩
theorem tdist_ok (l : List Sea) (a b : Nat) (ha : a < l.length) (hb : b < l.length) (hn : l.length < 2 ^ 40) : Con Tryd.prog gl0 (fnv 39) [To l, I a, I b] 0 [] (Ret (I (distN l a b))) := by
  have ga : (List.map eT l).getD a [] = eT (l.getD a default) := getD_map _ _ _ ha
  have gb : (List.map eT l).getD b [] = eT (l.getD b default) := getD_map _ _ _ hb
  rw [distN]
  have hab : a = b → l.getD a default = l.getD b default := fun h => by rw [h]
  generalize l.getD a default = p at *
  generalize l.getD b default = q at *
  refine Con.of Tryd.ok39 (nt := 32) (res := [.tmp 6]) Tryd.mixed Tryd.func39 rfl rfl rfl rfl fun κ xc hκ => hκ.run 300 ?_
  simp (disch := omega) only [allQuiet, quietOp, drawS, exec_succ, runR_next, runR_stop, stepS, runOp, toSR, sop, rOf, rNew, sBox, isArr, ev, Env.get, cellsS, envOf, OutOK_stop, Option.isNone_none, Bool.and_true, Bool.and_false, Bool.false_eq_true, List.size_toArray, List.length_cons, List.length_nil, List.range, List.range.loop, List.getElem?_toArray, List.getElem?_cons_succ, List.getElem?_cons_zero, ↓reduceIte, Nat.reduceAdd, Nat.reduceLT, Nat.zero_add, gl0]
  apply Sat.join (α := Unit) (nx := 3) (dfs := []) (fun _ => True) (fun _ => ([(8, .ptr 2 0 0 0), (7, .ptr 1 0 0 0), (1, I a), (2, I b)], [(2, .own [I q.1, I q.2] 50), (1, .own [I p.1, I p.2] 50)]))
  · intro hj
    have hj := hj () trivial
    refine hκ.draw (.q 0 (.q 1 (.q 2 (.q 3 (.q 4 (.q 5 (.q 6 (.q 7 (.q 8 (.q 9 (.or (.m 10 [1, 4, 6, 9] (.l 11 [1, 4, 6, 9] (.l 12 [6, 9] (.l 13 [] (.fin))))) (.m 11 [1, 4, 6, 9] (.l 10 [1, 4, 6, 9] (.l 12 [6, 9] (.l 13 [] (.fin)))))))))))))))) [0, 1, 2, 3, 4, 5, 6, 7, 8, 9] (by kernel_rfl) (by kernel_rfl) rfl ?_
    simp (disch := omega) only [sop, rOf, rNew, sAlloc, sAlloc0, sLoadIn, sLoad, sStoreIn, sStore, sFieldAddr, sIndexAddr, elemT, obind, ev, svs, Env.get, Heap.get, Heap.set, takeN, cut, over, paste, aggOf, cellsS, one, ones, setO, Value.oneCell', drawP_fin, drawP_q, drawP_l, dnext, dq, dqn, dl, slotR, ag, guardP, R1Q, dstOK, loudP, again, again1, slotIs, R1OK, undefS, undef, drawP_m, drawP_or, List.length_cons, List.length_nil, List.length_map, List.getElem?_toArray, List.getElem?_cons_succ, List.getElem?_cons_zero, List.map_cons, List.map_nil, ↓reduceIte, Nat.reduceAdd, Nat.reduceLT, Nat.reduceEqDiff, Nat.zero_add, Nat.add_zero, Nat.add_one_ne_zero, Int.toNat_natCast, true_and, and_self, forall_const, reduceCtorEq, gl0, Tryd.underlying22, Tryd.sz22, Tryd.ag22, Tryd.fd24f0, Tryd.sz50, Tryd.ag50, Tryd.ze50, Tryd.ar50, eT, ga, gb]
    (repeat (refine ⟨by first | omega | (refine ⟨?_, ?_⟩ <;> omega) | trivial | (simp; done) | decide +kernel, fun _ => ?_⟩))
    refine And.intro ?_ ?_
    · exact hj.less (by repeat' (first | exact EnvSub.nil _ | exact HeapSub.nil _ | refine EnvSub.cons rfl ?_ | refine HeapSub.cons rfl ?_ | (refine EnvSub.cons (by simp [Env.get]; done) ?_) | (refine HeapSub.cons (by simp [Heap.get]; done) ?_))) (by repeat' (first | exact EnvSub.nil _ | exact HeapSub.nil _ | refine EnvSub.cons rfl ?_ | refine HeapSub.cons rfl ?_ | (refine EnvSub.cons (by simp [Env.get]; done) ?_) | (refine HeapSub.cons (by simp [Heap.get]; done) ?_)))
    · refine Sat.via (fun i => if i = 1 then 2 else if i = 2 then 1 else i) (hj) (by intro i j; (repeat (first | omega | split))) (by repeat' (first | exact EnvVia.nil | refine EnvVia.cons (by first | trivial | decide | (simp [SV.bnd, SV.bndL]; done)) rfl ?_)) (by repeat' (first | exact HeapVia.nil | refine HeapVia.cons (by decide) (by first | trivial | (simp [Blk.bnd, SV.bnd, SV.bndL]; done) | exact bndL_mapV _ _ _ | exact LR.bnd (by rw [l2]; simp [bndE, SV.bnd, SV.bndL]) (by rw [l6]; decide)) (by first | rfl | (simp only [Blk.ren, renL_mapV]; rfl) | (rw [LR.ren (by rw [l2] <;> rfl) (by rw [l6] <;> rfl)]; rfl)) ?_)) ⟨by have := hκ.hm; (try dsimp only at this); (first | done | omega), fun i hi => by have := hκ.hm; (try dsimp only at this); (first | omega | (dsimp only; omega) | (rw [if_neg (by omega)]))⟩ ⟨by simp, rfl⟩
  intro _ _
  have es := seat_eq p q
  by_cases h1 : a = b
  · obtain rfl := hab h1
    rw [if_pos h1] at hκ
    have e1 : ((a : Int) = (b : Int)) = True := by first | (simp only [eq_iff_iff, iff_true]; first | assumption | omega) | (simp; omega)
    refine hκ.run 300 ?_
    simp (disch := omega) only [exec_succ, runR_next, runR_fork_true, runR_stop, stepS, runOp, condS, toSR, sop, rOf, sLoadIn, sLoad, sInt, sEqAgg, aggS, eqCells, sBin, sFieldAddr, ev, Env.get, Heap.get, takeN, cut, aggOf, OutOK_stop, Bool.true_and, Bool.false_eq_true, List.size_toArray, List.length_cons, List.length_nil, List.range, List.range.loop, List.getElem?_toArray, List.getElem?_cons_succ, List.getElem?_cons_zero, Option.map_some, ↓reduceIte, Nat.reduceAdd, Nat.reduceLT, Nat.reduceEqDiff, Nat.zero_add, Nat.add_zero, Nat.add_one_ne_zero, decide_true, gl0, Tryd.sz3, Tryd.ag3, Tryd.sz50, Tryd.ag50, Tryd.eq50, Tryd.fd50f0, e1]
    refine hκ.ret _ _ _ _ _ _ trivial rfl ?_
    exact .ret trivial
  rw [if_neg h1] at hκ
  have e1 : ((a : Int) = (b : Int)) = False := by first | (simp only [eq_iff_iff, iff_false]; first | assumption | omega) | (simp; omega)
  by_cases h2 : p = q
  · subst h2
    rw [if_pos rfl] at hκ
    refine hκ.run 300 ?_
    simp (disch := omega) only [exec_succ, runR_next, runR_fork_true, runR_fork_false, runR_stop, stepS, runOp, condS, toSR, sop, rOf, sLoadIn, sLoad, sInt, sEqAgg, aggS, eqCells, sBin, sFieldAddr, ev, Env.get, Heap.get, takeN, cut, aggOf, OutOK_stop, Bool.true_and, Bool.false_eq_true, List.size_toArray, List.length_cons, List.length_nil, List.range, List.range.loop, List.getElem?_toArray, List.getElem?_cons_succ, List.getElem?_cons_zero, Option.map_some, ↓reduceIte, Nat.reduceAdd, Nat.reduceLT, Nat.reduceEqDiff, Nat.zero_add, Nat.add_zero, Nat.add_one_ne_zero, decide_true, decide_false, gl0, Tryd.sz3, Tryd.ag3, Tryd.sz50, Tryd.ag50, Tryd.eq50, Tryd.fd50f0, e1]
    refine hκ.ret _ _ _ _ _ _ trivial rfl ?_
    exact .ret trivial
  rw [if_neg h2] at hκ
  rw [decide_eq_false h2] at es
  by_cases h3 : p.1 = q.1
  · rw [if_pos h3] at hκ
    rw [decide_eq_true h3, Bool.true_and] at es
    have e3 := of_decide_eq_false es
    have e4 : (p.1 = q.1) = True := by first | (simp only [eq_iff_iff, iff_true]; first | assumption | omega) | (simp; omega)
    refine hκ.run 300 ?_
    simp (disch := omega) only [exec_succ, runR_next, runR_fork_true, runR_fork_false, runR_stop, stepS, runOp, condS, toSR, sop, rOf, sLoadIn, sLoad, sInt, sEqAgg, aggS, eqCells, sBin, sFieldAddr, ev, Env.get, Heap.get, takeN, cut, aggOf, OutOK_stop, Bool.true_and, Bool.false_and, Bool.false_eq_true, List.size_toArray, List.length_cons, List.length_nil, List.range, List.range.loop, List.getElem?_toArray, List.getElem?_cons_succ, List.getElem?_cons_zero, Option.map_some, ↓reduceIte, Nat.reduceAdd, Nat.reduceLT, Nat.reduceEqDiff, Nat.zero_add, Nat.add_zero, Nat.add_one_ne_zero, decide_true, decide_false, gl0, Tryd.sz3, Tryd.ag3, Tryd.sz50, Tryd.ag50, Tryd.eq50, Tryd.fd50f0, e1, e3, e4]
    refine hκ.ret _ _ _ _ _ _ trivial rfl ?_
    exact .ret trivial
  · rw [if_neg h3] at hκ
    refine hκ.run 300 ?_
    simp (disch := omega) only [exec_succ, runR_next, runR_fork_false, runR_stop, stepS, runOp, condS, toSR, sop, rOf, sLoadIn, sLoad, sInt, sEqAgg, aggS, eqCells, sBin, sFieldAddr, ev, Env.get, Heap.get, takeN, cut, aggOf, OutOK_stop, Bool.and_true, Bool.false_and, Bool.false_eq_true, List.size_toArray, List.length_cons, List.length_nil, List.range, List.range.loop, List.getElem?_toArray, List.getElem?_cons_succ, List.getElem?_cons_zero, Option.map_some, ↓reduceIte, Nat.reduceAdd, Nat.reduceLT, Nat.reduceEqDiff, Nat.zero_add, Nat.add_zero, Nat.add_one_ne_zero, decide_false, gl0, Tryd.sz3, Tryd.ag3, Tryd.sz50, Tryd.ag50, Tryd.eq50, Tryd.fd50f0, e1, h3]
    refine hκ.ret _ _ _ _ _ _ trivial rfl ?_
    exact .ret trivial
set_option maxHeartbeats 1000000 in
theorem trdist_ok (l : List Sea) (a b : Nat) (ha : a < l.length) (hb : b < l.length) (hn : l.length < 2 ^ 40) : Con Tryd.prog gl0 (fnv 15) [To l, I a, I b] 0 [] (Ret (I (distN l a b))) := by
  have ga : (List.map eT l).getD a [] = eT (l.getD a default) := getD_map _ _ _ ha
  have gb : (List.map eT l).getD b [] = eT (l.getD b default) := getD_map _ _ _ hb
  rw [distN]
  generalize l.getD a default = p at *
  generalize l.getD b default = q at *
  have es := seat_eq p q
  refine Con.of Tryd.ok15 (nt := 37) (res := [.tmp 6]) Tryd.mixed Tryd.func15 rfl rfl rfl rfl fun κ xc hκ => hκ.run 300 ?_
  simp (disch := omega) only [exec_succ, runR_next, stepS, runOp, condS, toSR, sop, rOf, rNew, sBox, isArr, sInt, sBin, ev, Env.get, cellsS, envOf, Bool.false_eq_true, List.size_toArray, List.length_cons, List.length_nil, List.range, List.range.loop, List.getElem?_toArray, List.getElem?_cons_succ, List.getElem?_cons_zero, ↓reduceIte, Nat.reduceAdd, Nat.reduceLT, Nat.reduceEqDiff, Nat.zero_add, reduceCtorEq, gl0]
  by_cases h1 : a = b
  · rw [if_pos h1] at hκ
    have e1 : ((a : Int) = (b : Int)) = True := by first | (simp only [eq_iff_iff, iff_true]; first | assumption | omega) | (simp; omega)
    simp (disch := omega) only [exec_succ, runR_next, runR_fork_true, runR_stop, stepS, runOp, toSR, sop, rOf, ev, OutOK_stop, List.size_toArray, List.length_cons, List.length_nil, List.range, List.range.loop, List.getElem?_toArray, List.getElem?_cons_zero, ↓reduceIte, Nat.reduceLT, Nat.zero_add, decide_true, e1]
    refine hκ.ret _ _ _ _ _ _ trivial rfl ?_
    exact .ret trivial
  rw [if_neg h1] at hκ
  have e1 : ((a : Int) = (b : Int)) = False := by first | (simp only [eq_iff_iff, iff_false]; first | assumption | omega) | (simp; omega)
  by_cases h2 : p = q
  · subst h2
    rw [if_pos rfl] at hκ
    simp (disch := omega) only [sEqArr, allQuiet, quietOp, drawS, drawGo, drawN, drawFin, exec_succ, runR_next, runR_need, runR_fork_true, runR_fork_false, runR_stop, stepS, runOp, condS, toSR, sop, rOf, sLoadIn, sLoad, sInt, sEq, sEqR, sEqAgg, aggS, eqCells, sBin, sFieldAddr, sIndexAddr, elemT, obind, ev, svs, Env.get, Heap.get, takeN, cut, aggOf, OutOK_need, OutOK_stop, Option.isNone_none, Bool.and_true, Bool.true_and, Bool.false_eq_true, List.size_toArray, List.length_cons, List.length_nil, List.length_map, List.range, List.range.loop, List.getElem?_toArray, List.getElem?_cons_zero, Option.map_some, ↓reduceIte, Nat.reduceLT, Nat.reduceEqDiff, Nat.zero_add, Nat.add_zero, Nat.add_one_ne_zero, Int.toNat_natCast, decide_true, decide_false, and_true, reduceCtorEq, Tryd.underlying22, Tryd.sz22, Tryd.ag22, Tryd.fd24f0, Tryd.underlying50, Tryd.sz50, Tryd.ag50, Tryd.eq50, e1, eT, ga, gb]
    (repeat (refine ⟨by first | omega | (refine ⟨?_, ?_⟩ <;> omega) | trivial | (simp; done) | decide +kernel, fun _ => ?_⟩))
    refine hκ.ret _ _ _ _ _ _ trivial rfl ?_
    exact .ret trivial
  rw [if_neg h2] at hκ
  rw [decide_eq_false h2] at es
  by_cases h3 : p.1 = q.1
  · rw [if_pos h3] at hκ
    rw [decide_eq_true h3, Bool.true_and] at es
    have e3 := of_decide_eq_false es
    have e4 : (p.1 = q.1) = True := by first | (simp only [eq_iff_iff, iff_true]; first | assumption | omega) | (simp; omega)
    simp (disch := omega) only [sEqArr, allQuiet, quietOp, drawS, drawGo, drawN, drawFin, exec_succ, runR_next, runR_need, runR_fork_true, runR_fork_false, runR_stop, stepS, runOp, condS, toSR, sop, rOf, sLoadIn, sLoad, sInt, sEq, sEqR, sEqAgg, aggS, eqCells, sBin, sFieldAddr, sIndexAddr, elemT, obind, ev, svs, Env.get, Heap.get, takeN, cut, aggOf, OutOK_need, OutOK_stop, Option.isNone_none, Bool.and_true, Bool.true_and, Bool.false_and, Bool.false_eq_true, List.size_toArray, List.length_cons, List.length_nil, List.length_map, List.range, List.range.loop, List.getElem?_toArray, List.getElem?_cons_zero, Option.map_some, ↓reduceIte, Nat.reduceLT, Nat.reduceEqDiff, Nat.zero_add, Nat.add_zero, Nat.add_one_ne_zero, Int.toNat_natCast, decide_true, decide_false, and_true, reduceCtorEq, Tryd.underlying3, Tryd.sz3, Tryd.ag3, Tryd.underlying22, Tryd.sz22, Tryd.ag22, Tryd.fd24f0, Tryd.underlying50, Tryd.sz50, Tryd.ag50, Tryd.eq50, Tryd.fd50f0, e1, e3, e4, eT, ga, gb]
    (repeat (refine ⟨by first | omega | (refine ⟨?_, ?_⟩ <;> omega) | trivial | (simp; done) | decide +kernel, fun _ => ?_⟩))
    refine hκ.ret _ _ _ _ _ _ trivial rfl ?_
    exact .ret trivial
  · rw [if_neg h3] at hκ
    simp (disch := omega) only [sEqArr, allQuiet, quietOp, drawS, drawGo, drawN, drawFin, exec_succ, runR_next, runR_need, runR_fork_false, runR_stop, stepS, runOp, condS, toSR, sop, rOf, sLoadIn, sLoad, sInt, sEq, sEqR, sEqAgg, aggS, eqCells, sBin, sFieldAddr, sIndexAddr, elemT, obind, ev, svs, Env.get, Heap.get, takeN, cut, aggOf, OutOK_need, OutOK_stop, Option.isNone_none, Bool.and_true, Bool.false_and, Bool.false_eq_true, List.size_toArray, List.length_cons, List.length_nil, List.length_map, List.range, List.range.loop, List.getElem?_toArray, List.getElem?_cons_zero, Option.map_some, ↓reduceIte, Nat.reduceLT, Nat.reduceEqDiff, Nat.zero_add, Nat.add_zero, Nat.add_one_ne_zero, Int.toNat_natCast, decide_false, and_true, reduceCtorEq, Tryd.underlying3, Tryd.sz3, Tryd.ag3, Tryd.underlying22, Tryd.sz22, Tryd.ag22, Tryd.fd24f0, Tryd.underlying50, Tryd.sz50, Tryd.ag50, Tryd.eq50, Tryd.fd50f0, e1, h3, eT, ga, gb]
    (repeat (refine ⟨by first | omega | (refine ⟨?_, ?_⟩ <;> omega) | trivial | (simp; done) | decide +kernel, fun _ => ?_⟩))
    refine hκ.ret _ _ _ _ _ _ trivial rfl ?_
    exact .ret trivial
/-- Why no distance is told. -/
def distE (l : List Sea) (a b : Int) : Int := if okTs l = true then (if inN l a = true ∧ inN l b = true then 0 else 2) else 160
theorem Dist_ok (l : List Sea) (a b : Int) (hl : ∀ s ∈ l, inT s) (hn : l.length < 2 ^ 40) : Con Tryd.prog gl0 (fnv 13) [To l, I a, I b] 0 [] (Ret (.tup [I (if distE l a b = 0 then distN l a.toNat b.toNat else 0), I (distE l a b)])) := by
  have c1 := tcheck_ok l hl hn
  have c2 := there_ok l a
  have c3 := there_ok l b
  refine Con.of Tryd.ok13 (nt := 28) (res := [.tmp 6, .tmp 7]) Tryd.mixed Tryd.func13 rfl rfl rfl rfl fun κ xc hκ => hκ.run 300 ?_
  simp (disch := omega) only [exec_succ, runR_next, runR_call, stepS, runOp, toSR, sop, rOf, rNew, sBox, isArr, sLoadIn, sLoad, ev, evs, Env.get, Heap.get, takeN, cut, aggOf, cellsS, envOf, OutOK_call, Bool.false_eq_true, List.size_toArray, List.length_cons, List.length_nil, List.range, List.range.loop, List.getElem?_toArray, List.getElem?_cons_succ, List.getElem?_cons_zero, ↓reduceIte, Nat.reduceAdd, Nat.reduceLT, Nat.reduceEqDiff, Nat.zero_add, gl0, Tryd.sz24, Tryd.ag24]
  cases h1 : okTs l
  · have hd : distE l a b = 160 := by rw [distE, if_neg (by rw [h1]; decide)]
    rw [hd, if_neg (by decide)] at hκ
    rw [h1, if_neg (by decide)] at c1
    refine Does.ret hκ.hP hκ.hgl (c1) ⟨trivial, by simp [SV.bnd, SV.bndL], by first | (simp [SV.bnd, SV.bndL]; done) | assumption⟩ ?_
    refine hκ.run 300 ?_
    simp (disch := omega) only [exec_succ, runR_next, runR_fork_true, runR_stop, stepS, runOp, condS, toSR, sop, rOf, sInt, sBin, ev, Env.get, setO, OutOK_stop, List.size_toArray, List.length_cons, List.length_nil, List.range, List.range.loop, List.getElem?_toArray, List.getElem?_cons_succ, List.getElem?_cons_zero, ↓reduceIte, Nat.reduceAdd, Nat.reduceLT, Nat.reduceEqDiff, Nat.zero_add, Int.reduceEq, Bool.not_false, decide_false, gl0]
    refine hκ.ret _ _ _ _ _ _ trivial rfl ?_
    exact .ret (by simp [SV.bnd, SV.bndL])
  rw [h1, if_pos rfl] at c1
  refine Does.ret hκ.hP hκ.hgl (c1) ⟨trivial, by simp [SV.bnd, SV.bndL], by first | (simp [SV.bnd, SV.bndL]; done) | assumption⟩ ?_
  refine hκ.run 300 ?_
  simp (disch := omega) only [exec_succ, runR_next, runR_fork_false, runR_call, stepS, runOp, condS, toSR, sop, rOf, sLoadIn, sLoad, sInt, sBin, ev, evs, Env.get, Heap.get, takeN, cut, aggOf, setO, OutOK_call, List.size_toArray, List.length_cons, List.length_nil, List.range, List.range.loop, List.getElem?_toArray, List.getElem?_cons_succ, List.getElem?_cons_zero, ↓reduceIte, Nat.reduceAdd, Nat.reduceLT, Nat.reduceEqDiff, Nat.zero_add, Bool.not_true, decide_true, reduceCtorEq, gl0, Tryd.sz24, Tryd.ag24]
  refine Does.ret hκ.hP hκ.hgl (c2) ⟨trivial, by simp [SV.bnd, SV.bndL], by first | (simp [SV.bnd, SV.bndL]; done) | assumption⟩ ?_
  cases h2 : inN l a
  · have hd : distE l a b = 2 := by rw [distE, if_pos h1, if_neg (fun h => by rw [h2] at h; cases h.1)]
    rw [hd, if_neg (by decide)] at hκ
    refine hκ.run 300 ?_
    simp (disch := omega) only [exec_succ, runR_next, runR_fork_true, runR_guard_tf, runR_stop, stepS, runOp, guardS, condS, toSR, sop, rOf, sPick, sLoadIn, sLoad, sUn, ev, evs, Env.get, Heap.get, takeN, cut, aggOf, setO, OutOK_stop, undefS, undef, List.size_toArray, List.length_cons, List.length_nil, List.range, List.range.loop, List.getElem?_toArray, List.getElem?_cons_succ, List.getElem?_cons_zero, Option.bind_some, ↓reduceIte, Nat.reduceAdd, Nat.reduceLT, Nat.reduceEqDiff, Nat.zero_add, Bool.not_false, and_self, reduceCtorEq, gl0, Tryd.sz24, Tryd.ag24]
    refine hκ.ret _ _ _ _ _ _ trivial rfl ?_
    exact .ret (by simp [SV.bnd, SV.bndL])
  refine hκ.run 300 ?_
  simp (disch := omega) only [exec_succ, runR_next, runR_guard_ff, runR_call, stepS, runOp, guardS, toSR, sop, rOf, sLoadIn, sLoad, sUn, ev, evs, Env.get, Heap.get, takeN, cut, aggOf, setO, OutOK_call, undefS, undef, List.getElem?_toArray, List.getElem?_cons_succ, List.getElem?_cons_zero, Option.bind_some, ↓reduceIte, Nat.reduceLT, Nat.reduceEqDiff, Bool.not_true, Bool.not_false, and_self, reduceCtorEq, gl0, Tryd.sz24, Tryd.ag24]
  refine Does.ret hκ.hP hκ.hgl (c3) ⟨trivial, by simp [SV.bnd, SV.bndL], by first | (simp [SV.bnd, SV.bndL]; done) | assumption⟩ ?_
  cases h3 : inN l b
  · have hd : distE l a b = 2 := by rw [distE, if_pos h1, if_neg (fun h => by rw [h3] at h; cases h.2)]
    rw [hd, if_neg (by decide)] at hκ
    refine hκ.run 300 ?_
    simp (disch := omega) only [exec_succ, runR_next, runR_fork_true, runR_guard_ff, runR_stop, stepS, runOp, guardS, condS, toSR, sop, rOf, sPick, sUn, ev, Env.get, setO, OutOK_stop, undefS, undef, List.size_toArray, List.length_cons, List.length_nil, List.range, List.range.loop, List.getElem?_toArray, List.getElem?_cons_succ, List.getElem?_cons_zero, Option.bind_some, ↓reduceIte, Nat.reduceAdd, Nat.reduceLT, Nat.reduceEqDiff, Nat.zero_add, Bool.not_false, and_self, gl0]
    refine hκ.ret _ _ _ _ _ _ trivial rfl ?_
    exact .ret (by simp [SV.bnd, SV.bndL])
  have hd : distE l a b = 0 := by rw [distE, if_pos h1, if_pos ⟨h2, h3⟩]
  rw [hd, if_pos rfl] at hκ
  clear hd
  have h2 := (inN_iff _ _).1 h2
  have h3 := (inN_iff _ _).1 h3
  obtain ⟨a, rfl⟩ : ∃ j : Nat, a = j := ⟨a.toNat, by omega⟩
  obtain ⟨b, rfl⟩ : ∃ j : Nat, b = j := ⟨b.toNat, by omega⟩
  rw [Int.toNat_natCast, Int.toNat_natCast] at hκ
  refine hκ.run 300 ?_
  simp (disch := omega) only [exec_succ, runR_next, runR_fork_false, runR_guard_ff, runR_call, stepS, runOp, guardS, condS, toSR, sop, rOf, sPick, sLoadIn, sLoad, sUn, ev, evs, Env.get, Heap.get, takeN, cut, aggOf, setO, OutOK_call, undefS, undef, List.size_toArray, List.length_cons, List.length_nil, List.range, List.range.loop, List.getElem?_toArray, List.getElem?_cons_succ, List.getElem?_cons_zero, Option.bind_some, ↓reduceIte, Nat.reduceAdd, Nat.reduceLT, Nat.reduceEqDiff, Nat.zero_add, Bool.not_true, Bool.not_false, and_self, reduceCtorEq, gl0, Tryd.sz24, Tryd.ag24]
  refine Does.ret hκ.hP hκ.hgl (tdist_ok l a b (by omega) (by omega) hn) ⟨trivial, by simp [SV.bnd, SV.bndL], by first | (simp [SV.bnd, SV.bndL]; done) | assumption⟩ ?_
  refine hκ.run 300 ?_
  simp (disch := omega) only [exec_succ, runR_next, runR_stop, stepS, runOp, toSR, sop, rOf, ev, Env.get, setO, OutOK_stop, List.getElem?_toArray, List.getElem?_cons_succ, List.getElem?_cons_zero, ↓reduceIte, Nat.reduceLT, gl0]
  refine hκ.ret _ _ _ _ _ _ trivial rfl ?_
  exact .ret (by simp [SV.bnd, SV.bndL])
/-- Are two topologies one? -/
theorem take_eq_seat {us bs : List Sea} {k : Nat} (ha : k < us.length) (hb : k < bs.length) (h : us.take k = bs.take k) (e : us.getD k default = bs.getD k default) : us.take (k + 1) = bs.take (k + 1) := by rw [take_getD ha, take_getD hb, h, e]
theorem trsame_ok (us bs : List Sea) (hn : us.length < 2 ^ 46) : Con Tryd.prog gl0 (fnv 20) [To us, To bs] 0 [] (Ret (Bo (decide (us = bs)))) := by
  have ne : ∀ k, k < us.length → k < bs.length → us.getD k default ≠ bs.getD k default → ¬ us = bs := fun k _ _ h e => h (by rw [e])
  refine Con.of Tryd.ok20 (nt := 31) (res := [.tmp 4]) Tryd.mixed Tryd.func20 rfl rfl rfl rfl fun κ xc hκ => hκ.run 300 ?_
  simp (disch := omega) only [sBuiltin, exec_succ, runR_next, stepS, runOp, condS, toSR, sop, rOf, rNew, sBox, isArr, sLoadIn, sLoad, sInt, sBin, sFieldAddr, sLen, ev, Env.get, Heap.get, takeN, cut, aggOf, cellsS, envOf, Bool.false_eq_true, List.size_toArray, List.length_cons, List.length_nil, List.length_map, List.range, List.range.loop, List.getElem?_toArray, List.getElem?_cons_succ, List.getElem?_cons_zero, ↓reduceIte, Nat.reduceAdd, Nat.reduceLT, Nat.reduceEqDiff, Nat.zero_add, Nat.add_zero, Nat.add_one_ne_zero, reduceCtorEq, gl0, Tryd.underlying22, Tryd.sz22, Tryd.ag22, Tryd.fd24f0]
  by_cases hlen : us.length = bs.length
  case neg =>
    have e : ¬ us = bs := fun e => hlen (by rw [e])
    rw [decide_eq_false e] at hκ
    have e1 : ((us.length : Int) = (bs.length : Int)) = False := by first | (simp only [eq_iff_iff, iff_false]; first | assumption | omega) | (simp; omega)
    simp (disch := omega) only [exec_succ, runR_next, runR_fork_true, runR_stop, stepS, runOp, toSR, sop, rOf, ev, OutOK_stop, List.size_toArray, List.length_cons, List.length_nil, List.range, List.range.loop, List.getElem?_toArray, List.getElem?_cons_zero, ↓reduceIte, Nat.reduceLT, Nat.zero_add, Bool.not_false, decide_false, e1]
    refine hκ.ret _ _ _ _ _ _ trivial rfl ?_
    exact .ret trivial
  have e1 : ((us.length : Int) = (bs.length : Int)) = True := by first | (simp only [eq_iff_iff, iff_true]; first | assumption | omega) | (simp; omega)
  simp (disch := omega) only [sBuiltin, exec_succ, runR_next, runR_fork_false, runR_stop, stepS, runOp, toSR, sop, rOf, sLoadIn, sLoad, sFieldAddr, sLen, ev, Env.get, Heap.get, takeN, cut, aggOf, OutOK_stop, List.size_toArray, List.length_cons, List.length_nil, List.length_map, List.range, List.range.loop, List.getElem?_toArray, List.getElem?_cons_succ, List.getElem?_cons_zero, ↓reduceIte, Nat.reduceAdd, Nat.reduceLT, Nat.reduceEqDiff, Nat.zero_add, Nat.add_zero, Nat.add_one_ne_zero, Bool.not_true, decide_true, Tryd.underlying22, Tryd.sz22, Tryd.ag22, Tryd.fd24f0, e1]
  refine Sat.less (Sat.loop (γ := Nat) (fun k => ([(16, I k), (15, I us.length), (14, Ss us), (3, .ptr 1 0 0 0), (2, .ptr 0 0 0 0)], [(1, .own [Ss bs] 24), (0, .own [Ss us] 24)], 2)) (fun k => us.length - k) (fun k => k ≤ us.length ∧ us.take k = bs.take k) ?round 0 ⟨Nat.zero_le _, rfl⟩) (by repeat' (first | exact EnvSub.nil _ | exact HeapSub.nil _ | refine EnvSub.cons rfl ?_ | refine HeapSub.cons rfl ?_ | (refine EnvSub.cons (by simp [Env.get]; done) ?_) | (refine HeapSub.cons (by simp [Heap.get]; done) ?_))) (by repeat' (first | exact EnvSub.nil _ | exact HeapSub.nil _ | refine EnvSub.cons rfl ?_ | refine HeapSub.cons rfl ?_ | (refine EnvSub.cons (by simp [Env.get]; done) ?_) | (refine HeapSub.cons (by simp [Heap.get]; done) ?_)))
  case round =>
    rintro k ⟨hk, hj⟩ ih
    dsimp only at ih ⊢
    refine hκ.run 300 ?_
    simp (disch := omega) only [exec_succ, runR_next, stepS, runOp, condS, toSR, sop, sInt, sBin, ev, Env.get, List.size_toArray, List.length_cons, List.length_nil, List.range, List.range.loop, List.getElem?_toArray, List.getElem?_cons_zero, ↓reduceIte, Nat.reduceLT, Nat.reduceEqDiff, Nat.zero_add, gl0]
    refine OutOK_fork (fun h => ?_) (fun h => ?_) <;> try simp only [Bool.not_true, Bool.not_false, decide_eq_true_eq, decide_eq_false_iff_not, Bool.not_eq_true', Bool.not_eq_false', Bool.and_eq_true, Bool.or_eq_false_iff, Bool.or_eq_true, Bool.and_eq_false_iff] at h
    · have hz := fun h => ih (k + 1) ⟨by omega, take_eq_seat (by omega) (by omega) hj h⟩ (by omega)
      have ne := ne k (by omega) (by omega)
      have ga : (List.map eT us).getD k [] = eT (us.getD k default) := getD_map _ _ _ (by omega)
      have gb : (List.map eT bs).getD k [] = eT (bs.getD k default) := getD_map _ _ _ (by omega)
      clear ih
      generalize us.getD k default = p at *
      generalize bs.getD k default = q at *
      have es := seat_eq p q
      by_cases h2 : p = q
      · have hy := hz h2
        clear hz
        subst h2
        simp (disch := omega) only [sEqArr, allQuiet, quietOp, drawS, drawGo, drawN, drawFin, exec_succ, runR_next, runR_need, runR_fork_false, runR_stop, stepS, runOp, condS, toSR, sop, rOf, sLoadIn, sLoad, sInt, sEq, sEqR, sEqAgg, aggS, eqCells, sBin, sFieldAddr, sIndexAddr, elemT, obind, ev, svs, Env.get, Heap.get, takeN, cut, aggOf, OutOK_need, OutOK_stop, Option.isNone_none, Bool.and_true, Bool.true_and, Bool.false_eq_true, List.size_toArray, List.length_cons, List.length_nil, List.length_map, List.range, List.range.loop, List.getElem?_toArray, List.getElem?_cons_succ, List.getElem?_cons_zero, Option.map_some, ↓reduceIte, Nat.reduceAdd, Nat.reduceLT, Nat.reduceEqDiff, Nat.zero_add, Nat.add_zero, Nat.add_one_ne_zero, Int.toNat_natCast, Bool.not_true, decide_true, and_true, wrap_i64, Tryd.underlying22, Tryd.sz22, Tryd.ag22, Tryd.fd24f0, Tryd.underlying50, Tryd.sz50, Tryd.ag50, Tryd.eq50, eT, ga, gb]
        (repeat (refine ⟨by first | omega | (refine ⟨?_, ?_⟩ <;> omega) | trivial | (simp; done) | decide +kernel, fun _ => ?_⟩))
        refine Sat.via (fun i => i) (hy) (by intro i j; (repeat (first | omega | split))) (by repeat' (first | exact EnvVia.nil | refine EnvVia.cons (by first | trivial | decide | (simp [SV.bnd, SV.bndL]; done)) rfl ?_)) (by repeat' (first | exact HeapVia.nil | refine HeapVia.cons (by decide) (by first | trivial | (simp [Blk.bnd, SV.bnd, SV.bndL]; done) | exact bndL_mapV _ _ _ | exact LR.bnd (by rw [l2]; simp [bndE, SV.bnd, SV.bndL]) (by rw [l6]; decide)) (by first | rfl | (simp only [Blk.ren, renL_mapV]; rfl) | (rw [LR.ren (by rw [l2] <;> rfl) (by rw [l6] <;> rfl)]; rfl)) ?_)) ⟨by have := hκ.hm; (try dsimp only at this); (first | done | omega), fun i hi => by have := hκ.hm; (try dsimp only at this); (first | omega | (dsimp only; omega) | (rw [if_neg (by omega)]))⟩ ⟨by simp, rfl⟩
      · rw [decide_eq_false (ne h2)] at hκ
        rw [decide_eq_false h2] at es
        simp (disch := omega) only [sEqArr, allQuiet, quietOp, drawS, drawGo, drawN, drawFin, exec_succ, runR_next, runR_need, runR_fork_true, runR_stop, stepS, runOp, condS, toSR, sop, rOf, sLoadIn, sLoad, sInt, sEq, sEqR, sEqAgg, aggS, eqCells, sBin, sFieldAddr, sIndexAddr, elemT, obind, ev, svs, Env.get, Heap.get, takeN, cut, aggOf, OutOK_need, OutOK_stop, Option.isNone_none, Bool.and_true, Bool.false_eq_true, List.size_toArray, List.length_cons, List.length_nil, List.length_map, List.range, List.range.loop, List.getElem?_toArray, List.getElem?_cons_succ, List.getElem?_cons_zero, Option.map_some, ↓reduceIte, Nat.reduceAdd, Nat.reduceLT, Nat.reduceEqDiff, Nat.zero_add, Nat.add_zero, Nat.add_one_ne_zero, Int.toNat_natCast, Bool.not_false, and_true, Tryd.underlying22, Tryd.sz22, Tryd.ag22, Tryd.fd24f0, Tryd.underlying50, Tryd.sz50, Tryd.ag50, Tryd.eq50, eT, ga, gb, es]
        (repeat (refine ⟨by first | omega | (refine ⟨?_, ?_⟩ <;> omega) | trivial | (simp; done) | decide +kernel, fun _ => ?_⟩))
        refine hκ.ret _ _ _ _ _ _ trivial rfl ?_
        exact .ret trivial
    · simp (disch := omega) only [exec_succ, runR_next, runR_stop, stepS, runOp, goS, toSR, sop, rOf, ev, exitTo, OutOK_stop, List.size_toArray, List.length_cons, List.length_nil, List.range, List.range.loop, List.getElem?_toArray, List.getElem?_cons_zero, ↓reduceIte, Nat.reduceLT, Nat.zero_add, beq_self_eq_true]
      obtain rfl : k = us.length := by omega
      rw [List.take_length, List.take_of_length_le (by omega)] at hj
      rw [decide_eq_true hj] at hκ
      refine hκ.ret _ _ _ _ _ _ trivial rfl ?_
      exact .ret trivial
theorem sequal_ok (us bs : List Sea) (hn : us.length < 2 ^ 46) : Con Tryd.prog gl0 (fnv 53) [Ss us, Ss bs] 0 [] (Ret (Bo (decide (us = bs)))) := by
  have ne : ∀ k, k < us.length → k < bs.length → us.getD k default ≠ bs.getD k default → ¬ us = bs := fun k _ _ h e => h (by rw [e])
  refine Con.of Tryd.ok53 (nt := 26) (res := [.tmp 4]) Tryd.mixed Tryd.func53 rfl rfl rfl rfl fun κ xc hκ => hκ.run 300 ?_
  simp (disch := omega) only [sBuiltin, exec_succ, runR_next, stepS, runOp, condS, toSR, sop, rOf, sInt, sBin, sLen, ev, Env.get, envOf, List.size_toArray, List.length_cons, List.length_nil, List.length_map, List.range, List.range.loop, List.getElem?_toArray, List.getElem?_cons_succ, List.getElem?_cons_zero, ↓reduceIte, Nat.reduceAdd, Nat.reduceLT, Nat.reduceEqDiff, Nat.zero_add, Nat.add_one_ne_zero, reduceCtorEq, gl0, Tryd.underlying22]
  by_cases hlen : us.length = bs.length
  case neg =>
    have e : ¬ us = bs := fun e => hlen (by rw [e])
    rw [decide_eq_false e] at hκ
    have e1 : ((us.length : Int) = (bs.length : Int)) = False := by first | (simp only [eq_iff_iff, iff_false]; first | assumption | omega) | (simp; omega)
    simp (disch := omega) only [exec_succ, runR_next, runR_fork_true, runR_stop, stepS, runOp, toSR, sop, rOf, ev, OutOK_stop, List.size_toArray, List.length_cons, List.length_nil, List.range, List.range.loop, List.getElem?_toArray, List.getElem?_cons_zero, ↓reduceIte, Nat.reduceLT, Nat.zero_add, Bool.not_false, decide_false, e1]
    refine hκ.ret _ _ _ _ _ _ trivial rfl ?_
    exact .ret trivial
  have e1 : ((us.length : Int) = (bs.length : Int)) = True := by first | (simp only [eq_iff_iff, iff_true]; first | assumption | omega) | (simp; omega)
  simp (disch := omega) only [sBuiltin, exec_succ, runR_next, runR_fork_false, runR_stop, stepS, runOp, toSR, sop, rOf, sLen, ev, Env.get, OutOK_stop, List.size_toArray, List.length_cons, List.length_nil, List.length_map, List.range, List.range.loop, List.getElem?_toArray, List.getElem?_cons_succ, List.getElem?_cons_zero, ↓reduceIte, Nat.reduceAdd, Nat.reduceLT, Nat.zero_add, Nat.add_one_ne_zero, Bool.not_true, decide_true, Tryd.underlying22, e1]
  refine Sat.less (Sat.loop (γ := Nat) (fun k => ([(13, I k), (12, I us.length), (11, Ss us), (1, Ss bs), (0, Ss us)], [], 0)) (fun k => us.length - k) (fun k => k ≤ us.length ∧ us.take k = bs.take k) ?round 0 ⟨Nat.zero_le _, rfl⟩) (by repeat' (first | exact EnvSub.nil _ | exact HeapSub.nil _ | refine EnvSub.cons rfl ?_ | refine HeapSub.cons rfl ?_ | (refine EnvSub.cons (by simp [Env.get]; done) ?_) | (refine HeapSub.cons (by simp [Heap.get]; done) ?_))) (by repeat' (first | exact EnvSub.nil _ | exact HeapSub.nil _ | refine EnvSub.cons rfl ?_ | refine HeapSub.cons rfl ?_ | (refine EnvSub.cons (by simp [Env.get]; done) ?_) | (refine HeapSub.cons (by simp [Heap.get]; done) ?_)))
  case round =>
    rintro k ⟨hk, hj⟩ ih
    dsimp only at ih ⊢
    refine hκ.run 300 ?_
    simp (disch := omega) only [exec_succ, runR_next, stepS, runOp, condS, toSR, sop, sInt, sBin, ev, Env.get, List.size_toArray, List.length_cons, List.length_nil, List.range, List.range.loop, List.getElem?_toArray, List.getElem?_cons_zero, ↓reduceIte, Nat.reduceLT, Nat.reduceEqDiff, Nat.zero_add, gl0]
    refine OutOK_fork (fun h => ?_) (fun h => ?_) <;> try simp only [Bool.not_true, Bool.not_false, decide_eq_true_eq, decide_eq_false_iff_not, Bool.not_eq_true', Bool.not_eq_false', Bool.and_eq_true, Bool.or_eq_false_iff, Bool.or_eq_true, Bool.and_eq_false_iff] at h
    · have hz := fun h => ih (k + 1) ⟨by omega, take_eq_seat (by omega) (by omega) hj h⟩ (by omega)
      have ne := ne k (by omega) (by omega)
      have ga : (List.map eT us).getD k [] = eT (us.getD k default) := getD_map _ _ _ (by omega)
      have gb : (List.map eT bs).getD k [] = eT (bs.getD k default) := getD_map _ _ _ (by omega)
      clear ih
      generalize us.getD k default = p at *
      generalize bs.getD k default = q at *
      have es := seat_eq p q
      by_cases h2 : p = q
      · have hy := hz h2
        clear hz
        subst h2
        simp (disch := omega) only [sEqArr, allQuiet, quietOp, drawS, drawGo, drawN, drawFin, exec_succ, runR_next, runR_need, runR_fork_false, runR_stop, stepS, runOp, condS, toSR, sop, rOf, sLoadIn, sLoad, sInt, sEq, sEqR, sEqAgg, aggS, eqCells, sBin, sIndexAddr, elemT, obind, ev, svs, Env.get, Heap.get, takeN, cut, aggOf, OutOK_need, OutOK_stop, Option.isNone_none, Bool.and_true, Bool.true_and, List.size_toArray, List.length_cons, List.length_nil, List.length_map, List.range, List.range.loop, List.getElem?_toArray, List.getElem?_cons_succ, List.getElem?_cons_zero, Option.map_some, ↓reduceIte, Nat.reduceAdd, Nat.reduceLT, Nat.reduceEqDiff, Nat.zero_add, Nat.add_one_ne_zero, Int.toNat_natCast, Bool.not_true, decide_true, wrap_i64, Tryd.underlying22, Tryd.underlying50, Tryd.sz50, Tryd.ag50, Tryd.eq50, eT, ga, gb]
        (repeat (refine ⟨by first | omega | (refine ⟨?_, ?_⟩ <;> omega) | trivial | (simp; done) | decide +kernel, fun _ => ?_⟩))
        refine Sat.via (fun i => i) (hy) (by intro i j; (repeat (first | omega | split))) (by repeat' (first | exact EnvVia.nil | refine EnvVia.cons (by first | trivial | decide | (simp [SV.bnd, SV.bndL]; done)) rfl ?_)) (by repeat' (first | exact HeapVia.nil | refine HeapVia.cons (by decide) (by first | trivial | (simp [Blk.bnd, SV.bnd, SV.bndL]; done) | exact bndL_mapV _ _ _ | exact LR.bnd (by rw [l2]; simp [bndE, SV.bnd, SV.bndL]) (by rw [l6]; decide)) (by first | rfl | (simp only [Blk.ren, renL_mapV]; rfl) | (rw [LR.ren (by rw [l2] <;> rfl) (by rw [l6] <;> rfl)]; rfl)) ?_)) ⟨by have := hκ.hm; (try dsimp only at this); (first | done | omega), fun i hi => by have := hκ.hm; (try dsimp only at this); (first | omega | (dsimp only; omega) | (rw [if_neg (by omega)]))⟩ ⟨by simp, rfl⟩
      · rw [decide_eq_false (ne h2)] at hκ
        rw [decide_eq_false h2] at es
        simp (disch := omega) only [sEqArr, allQuiet, quietOp, drawS, drawGo, drawN, drawFin, exec_succ, runR_next, runR_need, runR_fork_true, runR_stop, stepS, runOp, condS, toSR, sop, rOf, sLoadIn, sLoad, sInt, sEq, sEqR, sEqAgg, aggS, eqCells, sBin, sIndexAddr, elemT, obind, ev, svs, Env.get, Heap.get, takeN, cut, aggOf, OutOK_need, OutOK_stop, Option.isNone_none, Bool.and_true, List.size_toArray, List.length_cons, List.length_nil, List.length_map, List.range, List.range.loop, List.getElem?_toArray, List.getElem?_cons_succ, List.getElem?_cons_zero, Option.map_some, ↓reduceIte, Nat.reduceAdd, Nat.reduceLT, Nat.reduceEqDiff, Nat.zero_add, Nat.add_one_ne_zero, Int.toNat_natCast, Bool.not_false, Tryd.underlying22, Tryd.underlying50, Tryd.sz50, Tryd.ag50, Tryd.eq50, eT, ga, gb, es]
        (repeat (refine ⟨by first | omega | (refine ⟨?_, ?_⟩ <;> omega) | trivial | (simp; done) | decide +kernel, fun _ => ?_⟩))
        refine hκ.ret _ _ _ _ _ _ trivial rfl ?_
        exact .ret trivial
    · simp (disch := omega) only [exec_succ, runR_next, runR_stop, stepS, runOp, goS, toSR, sop, rOf, ev, exitTo, OutOK_stop, List.size_toArray, List.length_cons, List.length_nil, List.range, List.range.loop, List.getElem?_toArray, List.getElem?_cons_zero, ↓reduceIte, Nat.reduceLT, Nat.zero_add, beq_self_eq_true]
      obtain rfl : k = us.length := by omega
      rw [List.take_length, List.take_of_length_le (by omega)] at hj
      rw [decide_eq_true hj] at hκ
      refine hκ.ret _ _ _ _ _ _ trivial rfl ?_
      exact .ret trivial
theorem tsame_ok (us bs : List Sea) (hn : us.length < 2 ^ 46) : Con Tryd.prog gl0 (fnv 31) [To us, To bs] 0 [] (Ret (Bo (decide (us = bs)))) := by
  refine Con.of Tryd.ok31 (nt := 10) (res := [.tmp 4]) Tryd.mixed Tryd.func31 rfl rfl rfl rfl fun κ xc hκ => hκ.run 300 ?_
  simp (disch := omega) only [exec_succ, runR_next, runR_call, stepS, runOp, toSR, sop, rOf, rNew, sBox, isArr, sLoadIn, sLoad, sFieldAddr, ev, evs, Env.get, Heap.get, takeN, cut, aggOf, cellsS, envOf, OutOK_call, Bool.false_eq_true, List.size_toArray, List.length_cons, List.length_nil, List.range, List.range.loop, List.getElem?_toArray, List.getElem?_cons_succ, List.getElem?_cons_zero, ↓reduceIte, Nat.reduceAdd, Nat.reduceLT, Nat.reduceEqDiff, Nat.zero_add, Nat.add_zero, Nat.add_one_ne_zero, reduceCtorEq, gl0, Tryd.sz22, Tryd.ag22, Tryd.fd24f0]
  refine Does.ret hκ.hP hκ.hgl (sequal_ok us bs hn) ⟨trivial, by simp [SV.bnd, SV.bndL], by first | (simp [SV.bnd, SV.bndL]; done) | assumption⟩ ?_
  refine hκ.run 300 ?_
  simp (disch := omega) only [exec_succ, runR_next, runR_stop, stepS, runOp, toSR, sop, rOf, ev, Env.get, setO, OutOK_stop, List.getElem?_toArray, List.getElem?_cons_succ, List.getElem?_cons_zero, ↓reduceIte, Nat.reduceLT, gl0]
  refine hκ.ret _ _ _ _ _ _ trivial rfl ?_
  exact .ret trivial
/-- In memory of its own. -/
theorem copy_ok (l : List Sea) (hn : l.length < 2 ^ 40) : Con Tryd.prog gl0 (fnv 37) [To l] 0 [] (Ret (To l)) := by
  refine Con.of Tryd.ok37 (nt := 8) (res := [.cell 2 24]) Tryd.mixed Tryd.func37 rfl rfl rfl rfl fun κ xc hκ => hκ.run 300 ?_
  simp (disch := omega) only [sBuild0, sBuiltin, srcS, appArgS, sAppendTo, sAppend, exec_succ, runR_next, runR_need, runR_all, runR_stop, stepS, runOp, toSR, sop, rOf, rNew, sAlloc, sAlloc0, sBox, isArr, sLoadIn, sLoad, sStoreIn, sStore, sFieldAddr, sliceT, obind, fillS, evps, sBuild, repeatL, sBuildSlice, chunk, ev, svs, Env.get, Heap.get, Heap.set, Heap.drop, takeN, cut, over, paste, aggOf, cellsS, one, ones, idFrees, envOf, OutOK_need, OutOK_all, OutOK_stop, undefS, undef, List.take_nil, Bool.false_eq_true, List.size_toArray, List.length_cons, List.length_nil, List.length_map, List.range, List.range.loop, List.getElem?_toArray, List.getElem?_cons_succ, List.getElem?_cons_zero, List.map_cons, List.map_nil, List.nil_append, ↓reduceIte, Nat.reduceAdd, Nat.reduceLT, Nat.reduceLeDiff, Nat.reduceEqDiff, Nat.zero_add, Nat.add_zero, Nat.zero_mul, Nat.add_one_ne_zero, true_and, and_self, forall_const, reduceCtorEq, gl0, Tryd.underlying22, Tryd.sz22, Tryd.ag22, Tryd.sz24, Tryd.ze24, Tryd.pl24, Tryd.ar24, Tryd.fd24f0, Tryd.sz50, Tryd.ze50, Tryd.by50]
  (repeat (refine ⟨by first | omega | (refine ⟨?_, ?_⟩ <;> omega) | trivial | (simp; done) | decide +kernel, fun _ => ?_⟩))
  intro c
  refine hκ.ret _ _ _ _ _ _ trivial rfl ?_
  refine Post.frz [3] (by first | (simp [lendPL, lendP, lendSlP, dropL, Heap.get, Heap.drop, resV]; done) | (simp [lendPL, lendP, lendSlP, dropL, Heap.get, Heap.drop, resV]; omega) | (simp [lendPL, lendP, lendSlP, dropL, Heap.get, Heap.drop, resV, -List.length_eq_zero_iff]; omega)) ?_
  simp only [resV, lendL, lendS, lendSl, dropL, Heap.drop, Heap.get, List.mem_singleton, List.mem_cons, List.not_mem_nil, or_false, or_true, true_or, List.drop_zero, Nat.reduceEqDiff, Nat.one_ne_zero, Nat.zero_ne_one, ↓reduceIte]
  rw [show List.take l.length (List.map eT l) = List.map eT l from List.take_of_length_le (by simp)]
  exact .ret (by simp [SV.bnd, SV.bndL])
/-- Not too many. -/
def cut9 (l : List Sea) : List Sea := l.take 9
theorem short_ok (l : List Sea) (hn : l.length < 2 ^ 46) : Con Tryd.prog gl0 (fnv 11) [To l] 0 [] (Ret (To (cut9 l))) := by
  have c1 := copy_ok (cut9 l) (by rw [cut9, List.length_take]; omega)
  refine Con.of Tryd.ok11 (nt := 12) (res := [.cell 2 24]) Tryd.mixed Tryd.func11 rfl rfl rfl rfl fun κ xc hκ => hκ.run 300 ?_
  simp (disch := omega) only [sBuild0, sBuiltin, sMinMax, exec_succ, runR_next, runR_need, runR_call, stepS, runOp, toSR, sop, rOf, rNew, sAlloc, sAlloc0, sBox, isArr, sLoadIn, sLoad, sFieldAddr, sLen, optI, sSlice, cutL, elemT, obind, fillS, evps, sBuild, ev, evs, svs, Env.get, Heap.get, takeN, cut, over, paste, aggOf, cellsS, envOf, OutOK_need, OutOK_call, Bool.false_eq_true, List.size_toArray, List.length_cons, List.length_nil, List.length_map, List.range, List.range.loop, List.getElem?_toArray, List.getElem?_cons_succ, List.getElem?_cons_zero, List.map_cons, List.map_nil, Option.map_some, Option.map_none, Option.getD_some, Option.getD_none, ↓reduceIte, Nat.reduceAdd, Nat.reduceLT, Nat.reduceEqDiff, Nat.zero_add, Nat.add_zero, Nat.add_one_ne_zero, Int.reduceLE, true_and, and_self, gl0, Tryd.underlying22, Tryd.sz22, Tryd.ag22, Tryd.ze24, Tryd.pl24, Tryd.ar24, Tryd.fd24f0, Tryd.sz50]
  (repeat (refine ⟨by first | omega | (refine ⟨?_, ?_⟩ <;> omega) | trivial | (simp; done) | decide +kernel, fun _ => ?_⟩))
  have e : List.take (min (l.length : Int) 9).toNat (List.map eT l) = List.map eT (cut9 l) := by
    rw [cut9, List.map_take, show (min (l.length : Int) 9).toNat = min 9 (List.map eT l).length by rw [List.length_map]; omega, ← List.take_take, List.take_length]
  rw [e]
  refine Does.ret hκ.hP hκ.hgl (c1) ⟨trivial, by simp [SV.bnd, SV.bndL], by first | (simp [SV.bnd, SV.bndL]; done) | assumption⟩ ?_
  refine hκ.run 300 ?_
  simp (disch := omega) only [exec_succ, runR_next, runR_need, runR_stop, stepS, runOp, toSR, sop, sStoreIn, sStore, ev, Env.get, Heap.get, Heap.set, over, paste, cellsS, one, ones, setO, OutOK_need, OutOK_stop, undefS, undef, List.length_cons, List.length_nil, List.getElem?_toArray, List.getElem?_cons_succ, List.getElem?_cons_zero, ↓reduceIte, Nat.reduceEqDiff, Nat.zero_add, true_and, and_self, forall_const, gl0, Tryd.sz24]
  refine hκ.ret _ _ _ _ _ _ trivial rfl ?_
  exact .ret (by simp [SV.bnd, SV.bndL])
end Go.Proofs.YtbgnnmlhpaaebaaDoor

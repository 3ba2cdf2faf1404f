/- Parties, as the document tells of them: which may be; who is full. No condition. -/
import Derived.Test.YtomfpciigaopiaaAi
namespace Go.Proofs.Ytomfpciigaopiaa
open Go Go.Sy
set_option maxRecDepth 100000
set_option linter.unusedSimpArgs false
set_option linter.unusedVariables false

theorem rcpus_ok (n : Int) : Con Try.prog gl0 (fnv 15) [I n] 0 [] (Ret (Bo (inI n 1 8))) := by
  refine Con.of Try.ok15 (nt := 9) (res := [.tmp 2]) Try.mixed Try.func15 rfl rfl rfl rfl fun κ xc hκ => hκ.run 300 ?_
  simp (disch := omega) only [exec_succ, runR_next, stepS, runOp, guardS, toSR, sop, rOf, sInt, sBin, ev, Env.get, envOf, undefS, undef, List.size_toArray, List.length_cons, List.length_nil, List.range, List.range.loop, List.getElem?_toArray, List.getElem?_cons_succ, List.getElem?_cons_zero, Option.bind_some, ↓reduceIte, Nat.reduceAdd, Nat.reduceLT, Nat.zero_add, Nat.add_one_ne_zero, Bool.not_true, and_self, gl0]
  by_cases h1 : 1 ≤ n
  · rw [inI, decide_eq_true h1, Bool.true_and] at hκ
    simp (disch := omega) only [exec_succ, runR_next, runR_guard_tt, runR_stop, stepS, runOp, guardS, toSR, sop, rOf, sPick, sInt, sBin, ev, Env.get, OutOK_stop, undefS, undef, List.getElem?_toArray, List.getElem?_cons_succ, List.getElem?_cons_zero, Option.bind_some, ↓reduceIte, Nat.reduceLT, Nat.reduceEqDiff, Bool.not_true, decide_true, and_self, h1]
    refine hκ.ret _ _ _ _ _ _ trivial rfl ?_
    exact .ret trivial
  · rw [inI, decide_eq_false h1, Bool.false_and] at hκ
    simp (disch := omega) only [exec_succ, runR_next, runR_guard_ft, runR_stop, stepS, runOp, guardS, toSR, sop, rOf, sPick, sBin, ev, Env.get, OutOK_stop, undefS, undef, List.getElem?_toArray, List.getElem?_cons_succ, List.getElem?_cons_zero, Option.bind_some, ↓reduceIte, Nat.reduceLT, Nat.reduceEqDiff, Bool.not_true, decide_false, and_self, h1]
    refine hκ.ret _ _ _ _ _ _ trivial rfl ?_
    exact .ret trivial
theorem rgap_ok (n : Int) : Con Try.prog gl0 (fnv 21) [I n] 0 [] (Ret (Bo (inI n 1 10000000))) := by
  refine Con.of Try.ok21 (nt := 9) (res := [.tmp 2]) Try.mixed Try.func21 rfl rfl rfl rfl fun κ xc hκ => hκ.run 300 ?_
  simp (disch := omega) only [exec_succ, runR_next, stepS, runOp, guardS, toSR, sop, rOf, sInt, sBin, ev, Env.get, envOf, undefS, undef, List.size_toArray, List.length_cons, List.length_nil, List.range, List.range.loop, List.getElem?_toArray, List.getElem?_cons_succ, List.getElem?_cons_zero, Option.bind_some, ↓reduceIte, Nat.reduceAdd, Nat.reduceLT, Nat.zero_add, Nat.add_one_ne_zero, Bool.not_true, and_self, gl0]
  by_cases h1 : 1 ≤ n
  · rw [inI, decide_eq_true h1, Bool.true_and] at hκ
    simp (disch := omega) only [exec_succ, runR_next, runR_guard_tt, runR_stop, stepS, runOp, guardS, toSR, sop, rOf, sPick, sInt, sBin, ev, Env.get, OutOK_stop, undefS, undef, List.getElem?_toArray, List.getElem?_cons_succ, List.getElem?_cons_zero, Option.bind_some, ↓reduceIte, Nat.reduceLT, Nat.reduceEqDiff, Bool.not_true, decide_true, and_self, h1]
    refine hκ.ret _ _ _ _ _ _ trivial rfl ?_
    exact .ret trivial
  · rw [inI, decide_eq_false h1, Bool.false_and] at hκ
    simp (disch := omega) only [exec_succ, runR_next, runR_guard_ft, runR_stop, stepS, runOp, guardS, toSR, sop, rOf, sPick, sBin, ev, Env.get, OutOK_stop, undefS, undef, List.getElem?_toArray, List.getElem?_cons_succ, List.getElem?_cons_zero, Option.bind_some, ↓reduceIte, Nat.reduceLT, Nat.reduceEqDiff, Bool.not_true, decide_false, and_self, h1]
    refine hκ.ret _ _ _ _ _ _ trivial rfl ?_
    exact .ret trivial
theorem right_len {l : List Pt} (h : ¬ (1 ≤ l.length ∧ l.length ≤ 8)) : rightP l = false := by
  rw [← Bool.not_eq_true, rightP_iff]
  rintro ⟨h1, -⟩; exact h h1
theorem okP_no {p : Pt} (h : ¬ ((1 ≤ p.1 ∧ p.1 ≤ 65535) ∧ 1 ≤ p.2 ∧ p.2 ≤ 8)) : okP p = false := by
  rw [← Bool.not_eq_true, okP_iff]; exact h
theorem rright_ok (l : List Pt) (hl : ∀ p ∈ l, inP p) (hn : l.length < 2 ^ 40) : Con Try.prog gl0 (fnv 14) [Ps l] 0 [] (Ret (Bo (rightP l))) := by
  refine Con.of Try.ok14 (nt := 58) (res := [.tmp 2]) Try.mixed Try.func14 rfl rfl rfl rfl fun κ xc hκ => hκ.run 300 ?_
  simp (disch := omega) only [sBuiltin, exec_succ, runR_next, stepS, runOp, guardS, toSR, sop, rOf, sInt, sBin, sLen, ev, Env.get, envOf, undefS, undef, List.size_toArray, List.length_cons, List.length_nil, List.length_map, List.range, List.range.loop, List.getElem?_toArray, List.getElem?_cons_succ, List.getElem?_cons_zero, Option.bind_some, ↓reduceIte, Nat.reduceAdd, Nat.reduceLT, Nat.zero_add, Nat.add_one_ne_zero, Bool.not_false, and_self, gl0, Try.underlying22]
  by_cases q0 : (l.length : Int) < 1
  · rw [right_len (by omega)] at hκ
    simp (disch := omega) only [sBuiltin, exec_succ, runR_next, runR_fork_true, runR_guard_tf, runR_stop, stepS, runOp, guardS, condS, toSR, sop, rOf, sPick, sBin, sLen, ev, Env.get, OutOK_stop, undefS, undef, List.size_toArray, List.length_cons, List.length_nil, List.range, List.range.loop, List.getElem?_toArray, List.getElem?_cons_succ, List.getElem?_cons_zero, Option.bind_some, ↓reduceIte, Nat.reduceLT, Nat.reduceEqDiff, Nat.zero_add, Bool.not_false, decide_true, and_self, q0]
    refine hκ.ret _ _ _ _ _ _ trivial rfl ?_
    exact .ret trivial
  by_cases q1 : (8 : Int) < l.length
  · rw [right_len (by omega)] at hκ
    simp (disch := omega) only [sBuiltin, exec_succ, runR_next, runR_fork_true, runR_guard_ff, runR_stop, stepS, runOp, guardS, condS, toSR, sop, rOf, sPick, sInt, sBin, sLen, ev, Env.get, OutOK_stop, undefS, undef, List.size_toArray, List.length_cons, List.length_nil, List.length_map, List.range, List.range.loop, List.getElem?_toArray, List.getElem?_cons_succ, List.getElem?_cons_zero, Option.bind_some, ↓reduceIte, Nat.reduceLT, Nat.reduceEqDiff, Nat.zero_add, Bool.not_false, decide_true, decide_false, and_self, Try.underlying22, q0, q1]
    refine hκ.ret _ _ _ _ _ _ trivial rfl ?_
    exact .ret trivial
  simp (disch := omega) only [sBuiltin, exec_succ, runR_next, runR_fork_false, runR_guard_ff, runR_stop, stepS, runOp, guardS, condS, toSR, sop, rOf, sPick, sInt, sBin, sLen, ev, Env.get, OutOK_stop, undefS, undef, List.size_toArray, List.length_cons, List.length_nil, List.length_map, List.range, List.range.loop, List.getElem?_toArray, List.getElem?_cons_succ, List.getElem?_cons_zero, Option.bind_some, ↓reduceIte, Nat.reduceLT, Nat.reduceEqDiff, Nat.zero_add, Bool.not_false, decide_false, and_self, Try.underlying22, q0, q1]
  refine Sat.less (Sat.loop (γ := Nat) (fun k => ([(4, I k), (3, I (sumOf wC (l.take k))), (0, Ps l)], [], 0)) (fun k => l.length - k) (fun k => k ≤ l.length ∧ ∀ j, j < k → okP (l.getD j default) = true) ?round 0 ⟨Nat.zero_le _, fun j hj => by omega⟩) (by repeat' (first | exact EnvSub.nil _ | exact HeapSub.nil _ | refine EnvSub.cons rfl ?_ | refine HeapSub.cons rfl ?_ | (refine EnvSub.cons (by simp [Env.get]; done) ?_) | (refine HeapSub.cons (by simp [Heap.get]; done) ?_))) (by repeat' (first | exact EnvSub.nil _ | exact HeapSub.nil _ | refine EnvSub.cons rfl ?_ | refine HeapSub.cons rfl ?_ | (refine EnvSub.cons (by simp [Env.get]; done) ?_) | (refine HeapSub.cons (by simp [Heap.get]; done) ?_)))
  case round =>
    rintro k ⟨hk, hj⟩ ih
    dsimp only at ih ⊢
    refine hκ.run 300 ?_
    simp (disch := omega) only [sBuiltin, exec_succ, runR_next, stepS, runOp, condS, toSR, sop, rOf, sInt, sBin, sLen, ev, Env.get, List.size_toArray, List.length_cons, List.length_nil, List.length_map, List.range, List.range.loop, List.getElem?_toArray, List.getElem?_cons_succ, List.getElem?_cons_zero, ↓reduceIte, Nat.reduceAdd, Nat.reduceLT, Nat.reduceEqDiff, Nat.zero_add, Nat.add_one_ne_zero, gl0, Try.underlying22]
    refine OutOK_fork (fun h => ?_) (fun h => ?_) <;> try simp only [Bool.not_true, Bool.not_false, decide_eq_true_eq, decide_eq_false_iff_not, Bool.not_eq_true', Bool.not_eq_false', Bool.and_eq_true, Bool.or_eq_false_iff, Bool.or_eq_true, Bool.and_eq_false_iff] at h
    · have hz := fun h => ih (k + 1) ⟨by omega, h⟩ (by omega)
      have g1 : (List.map eP l).getD k [] = eP (l.getD k default) := getD_map _ _ _ (by omega)
      have hno := fun h => right_no (show k < l.length by omega) (okP_no h)
      rw [sumOf_take (by omega)] at hz
      have hz := fun h => hz fun j hj2 => by
        by_cases e : j = k
        · rw [e]; exact (okP_iff _).2 h
        · exact hj j (by omega)
      have hb := sumOf_bd (g := wC) (B := 8) (l := l.take k) fun p hp => by
        obtain ⟨j, hj2, rfl⟩ := List.getElem_of_mem hp
        rw [List.length_take] at hj2
        have := hj j (by omega)
        rw [List.getD, List.getElem?_eq_getElem (by omega), Option.getD_some] at this
        rw [List.getElem_take]
        have := (okP_iff _).1 this
        rw [wC]; omega
      rw [List.length_take] at hb
      generalize l.getD k default = p at *
      generalize sumOf wC (l.take k) = n at *
      rw [wC] at hz
      simp (disch := omega) only [exec_succ, runR_next, runR_need, stepS, runOp, guardS, toSR, sop, rOf, sLoad, sInt, sBin, sFieldAddr, sIndexAddr, elemT, obind, ev, Env.get, takeN, cut, aggOf, OutOK_need, undefS, undef, List.size_toArray, List.length_cons, List.length_nil, List.length_map, List.range, List.range.loop, List.getElem?_toArray, List.getElem?_cons_succ, List.getElem?_cons_zero, Option.bind_some, ↓reduceIte, Nat.reduceAdd, Nat.reduceLT, Nat.reduceEqDiff, Nat.zero_add, Nat.add_zero, Nat.add_one_ne_zero, Int.toNat_natCast, Bool.not_false, and_self, Try.sz3, Try.ag3, Try.underlying22, Try.sz54, Try.fd54f0, g1, eP]
      (repeat (refine ⟨by first | omega | (refine ⟨?_, ?_⟩ <;> omega) | trivial | (simp; done) | decide +kernel, fun _ => ?_⟩))
      by_cases w1 : p.1 < 1
      · rw [hno (by omega)] at hκ
        simp (disch := omega) only [exec_succ, runR_next, runR_fork_true, runR_guard_tf, runR_stop, stepS, runOp, guardS, condS, toSR, sop, rOf, sPick, sLoad, sBin, sFieldAddr, sIndexAddr, ev, Env.get, OutOK_stop, undefS, undef, List.size_toArray, List.length_cons, List.length_nil, List.range, List.range.loop, List.getElem?_toArray, List.getElem?_cons_succ, List.getElem?_cons_zero, Option.bind_some, ↓reduceIte, Nat.reduceLT, Nat.reduceEqDiff, Nat.zero_add, Nat.add_one_ne_zero, Bool.not_false, decide_true, and_self, w1]
        (repeat (refine ⟨by first | omega | (refine ⟨?_, ?_⟩ <;> omega) | trivial | (simp; done) | decide +kernel, fun _ => ?_⟩))
        refine hκ.ret _ _ _ _ _ _ trivial rfl ?_
        exact .ret trivial
      by_cases w2 : 65535 < p.1
      · rw [hno (by omega)] at hκ
        simp (disch := omega) only [exec_succ, runR_next, runR_need, runR_fork_true, runR_guard_ff, runR_guard_tf, runR_stop, stepS, runOp, guardS, condS, toSR, sop, rOf, sPick, sLoad, sInt, sBin, sFieldAddr, sIndexAddr, elemT, obind, ev, Env.get, takeN, cut, aggOf, OutOK_need, OutOK_stop, undefS, undef, List.size_toArray, List.length_cons, List.length_nil, List.length_map, List.range, List.range.loop, List.getElem?_toArray, List.getElem?_cons_succ, List.getElem?_cons_zero, Option.bind_some, ↓reduceIte, Nat.reduceLT, Nat.reduceEqDiff, Nat.zero_add, Nat.add_zero, Nat.add_one_ne_zero, Int.toNat_natCast, Bool.not_false, decide_true, decide_false, and_self, Try.sz3, Try.ag3, Try.underlying22, Try.sz54, Try.fd54f0, w1, w2, g1, eP]
        (repeat (refine ⟨by first | omega | (refine ⟨?_, ?_⟩ <;> omega) | trivial | (simp; done) | decide +kernel, fun _ => ?_⟩))
        refine hκ.ret _ _ _ _ _ _ trivial rfl ?_
        exact .ret trivial
      by_cases c1 : p.2 < 1
      · rw [hno (by omega)] at hκ
        simp (disch := omega) only [exec_succ, runR_next, runR_need, runR_fork_true, runR_guard_ff, runR_guard_tf, runR_stop, stepS, runOp, guardS, condS, toSR, sop, rOf, sPick, sLoad, sInt, sBin, sFieldAddr, sIndexAddr, elemT, obind, ev, Env.get, takeN, cut, aggOf, OutOK_need, OutOK_stop, undefS, undef, List.size_toArray, List.length_cons, List.length_nil, List.length_map, List.range, List.range.loop, List.getElem?_toArray, List.getElem?_cons_succ, List.getElem?_cons_zero, Option.bind_some, ↓reduceIte, Nat.reduceLT, Nat.reduceEqDiff, Nat.zero_add, Nat.add_zero, Nat.add_one_ne_zero, Int.toNat_natCast, Bool.not_false, decide_true, decide_false, and_self, Try.sz3, Try.ag3, Try.underlying22, Try.sz54, Try.fd54f0, Try.fd54f1, w1, w2, c1, g1, eP]
        (repeat (refine ⟨by first | omega | (refine ⟨?_, ?_⟩ <;> omega) | trivial | (simp; done) | decide +kernel, fun _ => ?_⟩))
        refine hκ.ret _ _ _ _ _ _ trivial rfl ?_
        exact .ret trivial
      by_cases c2 : 8 < p.2
      · rw [hno (by omega)] at hκ
        simp (disch := omega) only [exec_succ, runR_next, runR_need, runR_fork_true, runR_guard_ff, runR_stop, stepS, runOp, guardS, condS, toSR, sop, rOf, sPick, sLoad, sInt, sBin, sFieldAddr, sIndexAddr, elemT, obind, ev, Env.get, takeN, cut, aggOf, OutOK_need, OutOK_stop, undefS, undef, List.size_toArray, List.length_cons, List.length_nil, List.length_map, List.range, List.range.loop, List.getElem?_toArray, List.getElem?_cons_succ, List.getElem?_cons_zero, Option.bind_some, ↓reduceIte, Nat.reduceLT, Nat.reduceEqDiff, Nat.zero_add, Nat.add_zero, Nat.add_one_ne_zero, Int.toNat_natCast, Bool.not_false, decide_true, decide_false, and_self, Try.sz3, Try.ag3, Try.underlying22, Try.sz54, Try.fd54f0, Try.fd54f1, w1, w2, c1, c2, g1, eP]
        (repeat (refine ⟨by first | omega | (refine ⟨?_, ?_⟩ <;> omega) | trivial | (simp; done) | decide +kernel, fun _ => ?_⟩))
        refine hκ.ret _ _ _ _ _ _ trivial rfl ?_
        exact .ret trivial
      have hz := hz (by omega)
      simp (disch := omega) only [exec_succ, runR_next, runR_need, runR_fork_false, runR_guard_ff, runR_stop, stepS, runOp, guardS, condS, toSR, sop, rOf, sPick, sLoad, sInt, sBin, sFieldAddr, sIndexAddr, elemT, obind, ev, Env.get, takeN, cut, aggOf, OutOK_need, OutOK_stop, undefS, undef, List.size_toArray, List.length_cons, List.length_nil, List.length_map, List.range, List.range.loop, List.getElem?_toArray, List.getElem?_cons_succ, List.getElem?_cons_zero, Option.bind_some, ↓reduceIte, Nat.reduceAdd, Nat.reduceLT, Nat.reduceEqDiff, Nat.zero_add, Nat.add_zero, Nat.add_one_ne_zero, Int.toNat_natCast, Bool.not_false, decide_false, and_self, wrap_i64, Try.sz3, Try.ag3, Try.underlying22, Try.sz54, Try.fd54f0, Try.fd54f1, w1, w2, c1, c2, g1, eP]
      (repeat (refine ⟨by first | omega | (refine ⟨?_, ?_⟩ <;> omega) | trivial | (simp; done) | decide +kernel, fun _ => ?_⟩))
      refine Sat.via (fun i => i) (hz) (by intro i j; (repeat (first | omega | split))) (by repeat' (first | exact EnvVia.nil | refine EnvVia.cons (by first | trivial | decide | (simp [SV.bnd, SV.bndL]; done)) rfl ?_)) (by repeat' (first | exact HeapVia.nil | refine HeapVia.cons (by decide) (by first | trivial | (simp [Blk.bnd, SV.bnd, SV.bndL]; done) | exact bndL_mapV _ _ _ | exact LR.bnd (by rw [l2]; simp [bndE, SV.bnd, SV.bndL]) (by rw [l6]; decide)) (by first | rfl | (simp only [Blk.ren, renL_mapV]; rfl) | (rw [LR.ren (by rw [l2] <;> rfl) (by rw [l6] <;> rfl)]; rfl)) ?_)) ⟨by have := hκ.hm; (try dsimp only at this); (first | done | omega), fun i hi => by have := hκ.hm; (try dsimp only at this); (first | omega | (dsimp only; omega) | (rw [if_neg (by omega)]))⟩ ⟨by simp, rfl⟩
    · simp (disch := omega) only [exec_succ, runR_next, runR_stop, stepS, runOp, goS, toSR, sop, rOf, sInt, sBin, ev, Env.get, exitTo, OutOK_stop, List.size_toArray, List.length_cons, List.length_nil, List.range, List.range.loop, List.getElem?_toArray, List.getElem?_cons_succ, List.getElem?_cons_zero, ↓reduceIte, Nat.reduceAdd, Nat.reduceLT, Nat.reduceEqDiff, Nat.zero_add, beq_self_eq_true]
      obtain rfl : k = l.length := by omega
      rw [List.take_length]
      have hall : ∀ p ∈ l, okP p = true := fun p hp => by
        obtain ⟨j, hj2, rfl⟩ := List.getElem_of_mem hp
        have := hj j hj2
        rwa [List.getD, List.getElem?_eq_getElem hj2] at this
      have e : rightP l = decide (sumOf wC l ≤ 16) := by
        rw [Bool.eq_iff_iff, rightP_iff, decide_eq_true_eq]
        exact ⟨fun h => h.2.2, fun h => ⟨by omega, hall, h⟩⟩
      rw [e] at hκ
      refine hκ.run 300 ?_
      simp (disch := omega) only [exec_succ, runR_stop, stepS, OutOK_stop, gl0]
      refine hκ.ret _ _ _ _ _ _ trivial rfl ?_
      exact .ret trivial
/-- Who is full, as bools. -/
abbrev Bs (b : List Bool) : List (List SV) := b.map fun x => [Bo x]
theorem Bs_get {b : List Bool} {k : Nat} (h : k < b.length) : (Bs b).getD k [] = [Bo (b.getD k default)] := getD_map _ _ _ h
def sumZ (g : Pt × Bool → Int) (l : List Pt) (b : List Bool) : Int := ((l.zip b).map g).sum
theorem sumZ_take {g : Pt × Bool → Int} {l : List Pt} {b : List Bool} {k : Nat} (h : k < l.length) (hb : b.length = l.length) : sumZ g (l.take (k + 1)) (b.take (k + 1)) = sumZ g (l.take k) (b.take k) + g (l.getD k default, b.getD k default) := by
  rw [take_getD h, take_getD (by omega), sumZ, sumZ, List.zip_append (by simp; omega), List.map_append, List.sum_append]; simp
theorem sumZ_bd {g : Pt × Bool → Int} {B : Int} : ∀ {l : List Pt} {b : List Bool}, (∀ p ∈ l, ∀ x, 0 ≤ g (p, x) ∧ g (p, x) ≤ B) → 0 ≤ B → 0 ≤ sumZ g l b ∧ sumZ g l b ≤ B * l.length
  | [], _, _, _ => by simp [sumZ]
  | p :: l, [], h, hB => by
    rw [sumZ, List.zip_nil_right]
    exact ⟨by simp, by simpa using Int.mul_nonneg hB (by omega)⟩
  | p :: l, x :: b, h, hB => by
    have h1 := sumZ_bd (l := l) (b := b) (fun q hq => h q (List.mem_cons_of_mem _ hq)) hB
    have h2 := h p List.mem_cons_self x
    rw [sumZ] at h1 ⊢
    rw [List.zip_cons_cons, List.map_cons, List.sum_cons, List.length_cons, Int.natCast_add, Int.mul_add]
    generalize B * (l.length : Int) = y at *
    omega
def zC (x : Pt × Bool) : Int := if x.2 = true then x.1.2 else 0
def zW (x : Pt × Bool) : Int := if x.2 = true then 0 else x.1.1
/-- What is left by those that are full; the others' weights. -/
def leftF (l : List Pt) (b : List Bool) (m : Int) : Int := m - sumZ zC l b
def wtF (l : List Pt) (b : List Bool) : Int := sumZ zW l b
theorem zC_bd {l : List Pt} (h : ∀ p ∈ l, okP p = true) : ∀ p ∈ l, ∀ x, 0 ≤ zC (p, x) ∧ zC (p, x) ≤ 8 := fun p hp x => by
  have := (okP_iff p).1 (h p hp)
  cases x
  · show 0 ≤ (0 : Int) ∧ (0 : Int) ≤ 8; omega
  · show 0 ≤ p.2 ∧ p.2 ≤ 8; omega
theorem zW_bd {l : List Pt} (h : ∀ p ∈ l, okP p = true) : ∀ p ∈ l, ∀ x, 0 ≤ zW (p, x) ∧ zW (p, x) ≤ 65535 := fun p hp x => by
  have := (okP_iff p).1 (h p hp)
  cases x
  · show 0 ≤ p.1 ∧ p.1 ≤ 65535; omega
  · show 0 ≤ (0 : Int) ∧ (0 : Int) ≤ 65535; omega
theorem take_all {l : List Pt} (h : ∀ p ∈ l, okP p = true) (k : Nat) : ∀ p ∈ l.take k, okP p = true := fun p hp => h p (List.mem_of_mem_take hp)
theorem left_ok (l : List Pt) (b : List Bool) (m : Int) (h : rightP l = true) (hb : b.length = l.length) (hm : -100 ≤ m ∧ m ≤ 100) : Con Try.prog gl0 (fnv 36) [Ps l, .rd 1 (Bs b), I m] 0 [] (Ret (I (leftF l b m))) := by
  obtain ⟨hn, hall, -⟩ := (rightP_iff l).1 h
  refine Con.of Try.ok36 (nt := 26) (res := [.tmp 6]) Try.mixed Try.func36 rfl rfl rfl rfl fun κ xc hκ => hκ.run 300 ?_
  simp (disch := omega) only [exec_succ, runR_next, runR_stop, stepS, runOp, toSR, sop, rOf, ev, envOf, OutOK_stop, List.size_toArray, List.length_cons, List.length_nil, List.range, List.range.loop, List.getElem?_toArray, List.getElem?_cons_zero, ↓reduceIte, Nat.reduceAdd, Nat.reduceLT, Nat.zero_add, gl0]
  refine Sat.less (Sat.loop (γ := Nat) (fun k => ([(7, I k), (2, I (m - sumZ zC (l.take k) (b.take k))), (1, .rd 1 (Bs b)), (0, Ps l)], [], 0)) (fun k => l.length - k) (fun k => k ≤ l.length) ?round 0 (Nat.zero_le _)) (by simp only [List.take_zero, sumZ, List.zip_nil_left, List.map_nil, List.sum_nil, Int.sub_zero]; exact (by repeat' (first | exact EnvSub.nil _ | exact HeapSub.nil _ | refine EnvSub.cons rfl ?_ | refine HeapSub.cons rfl ?_ | (refine EnvSub.cons (by simp [Env.get]; done) ?_) | (refine HeapSub.cons (by simp [Heap.get]; done) ?_)))) (by repeat' (first | exact EnvSub.nil _ | exact HeapSub.nil _ | refine EnvSub.cons rfl ?_ | refine HeapSub.cons rfl ?_ | (refine EnvSub.cons (by simp [Env.get]; done) ?_) | (refine HeapSub.cons (by simp [Heap.get]; done) ?_)))
  case round =>
    intro k hk ih
    dsimp only at ih ⊢
    refine hκ.run 300 ?_
    simp (disch := omega) only [sBuiltin, exec_succ, runR_next, stepS, runOp, condS, toSR, sop, rOf, sInt, sBin, sLen, ev, Env.get, List.size_toArray, List.length_cons, List.length_nil, List.length_map, List.range, List.range.loop, List.getElem?_toArray, List.getElem?_cons_succ, List.getElem?_cons_zero, ↓reduceIte, Nat.reduceAdd, Nat.reduceLT, Nat.reduceEqDiff, Nat.zero_add, Nat.add_one_ne_zero, gl0, Try.underlying22]
    refine OutOK_fork (fun h => ?_) (fun h => ?_) <;> try simp only [Bool.not_true, Bool.not_false, decide_eq_true_eq, decide_eq_false_iff_not, Bool.not_eq_true', Bool.not_eq_false', Bool.and_eq_true, Bool.or_eq_false_iff, Bool.or_eq_true, Bool.and_eq_false_iff] at h
    · have hz := ih (k + 1) (by omega) (by omega)
      rw [sumZ_take (by omega) hb] at hz
      have hp := (okP_iff _).1 (hall _ (getD_mem (show k < l.length by omega)))
      have hs := sumZ_bd (b := b.take k) (zC_bd (take_all hall k)) (by decide)
      rw [List.length_take] at hs
      have g1 : (List.map eP l).getD k [] = eP (l.getD k default) := getD_map _ _ _ (by omega)
      have g2 := Bs_get (b := b) (show k < b.length by omega)
      generalize l.getD k default = p at *
      generalize b.getD k default = x at *
      generalize sumZ zC (l.take k) (b.take k) = n at *
      cases x
      · rw [show zC (p, false) = 0 from rfl, Int.add_zero] at hz
        simp (disch := omega) only [exec_succ, runR_next, runR_need, runR_fork_false, runR_stop, stepS, runOp, condS, toSR, sop, rOf, sLoad, sInt, sBin, sIndexAddr, elemT, obind, ev, Env.get, takeN, cut, aggOf, OutOK_need, OutOK_stop, List.size_toArray, List.length_cons, List.length_nil, List.length_map, List.range, List.range.loop, List.getElem?_toArray, List.getElem?_cons_succ, List.getElem?_cons_zero, ↓reduceIte, Nat.reduceAdd, Nat.reduceLT, Nat.reduceEqDiff, Nat.zero_add, Int.toNat_natCast, wrap_i64, Try.sz4, Try.ag4, Try.underlying28, g2, hb]
        (repeat (refine ⟨by first | omega | (refine ⟨?_, ?_⟩ <;> omega) | trivial | (simp; done) | decide +kernel, fun _ => ?_⟩))
        refine Sat.via (fun i => i) (hz) (by intro i j; (repeat (first | omega | split))) (by repeat' (first | exact EnvVia.nil | refine EnvVia.cons (by first | trivial | decide | (simp [SV.bnd, SV.bndL]; done)) rfl ?_)) (by repeat' (first | exact HeapVia.nil | refine HeapVia.cons (by decide) (by first | trivial | (simp [Blk.bnd, SV.bnd, SV.bndL]; done) | exact bndL_mapV _ _ _ | exact LR.bnd (by rw [l2]; simp [bndE, SV.bnd, SV.bndL]) (by rw [l6]; decide)) (by first | rfl | (simp only [Blk.ren, renL_mapV]; rfl) | (rw [LR.ren (by rw [l2] <;> rfl) (by rw [l6] <;> rfl)]; rfl)) ?_)) ⟨by have := hκ.hm; (try dsimp only at this); (first | done | omega), fun i hi => by have := hκ.hm; (try dsimp only at this); (first | omega | (dsimp only; omega) | (rw [if_neg (by omega)]))⟩ ⟨by simp, rfl⟩
      · rw [show zC (p, true) = p.2 from rfl, ← Int.sub_sub] at hz
        simp (disch := omega) only [exec_succ, runR_next, runR_need, runR_fork_true, runR_stop, stepS, runOp, condS, toSR, sop, rOf, sLoad, sInt, sBin, sFieldAddr, sIndexAddr, elemT, obind, ev, Env.get, takeN, cut, aggOf, OutOK_need, OutOK_stop, List.size_toArray, List.length_cons, List.length_nil, List.length_map, List.range, List.range.loop, List.getElem?_toArray, List.getElem?_cons_succ, List.getElem?_cons_zero, ↓reduceIte, Nat.reduceAdd, Nat.reduceLT, Nat.reduceEqDiff, Nat.zero_add, Nat.add_one_ne_zero, Int.toNat_natCast, wrap_i64, Try.sz3, Try.ag3, Try.sz4, Try.ag4, Try.underlying22, Try.underlying28, Try.sz54, Try.fd54f1, g1, g2, eP, hb]
        (repeat (refine ⟨by first | omega | (refine ⟨?_, ?_⟩ <;> omega) | trivial | (simp; done) | decide +kernel, fun _ => ?_⟩))
        refine Sat.via (fun i => i) (hz) (by intro i j; (repeat (first | omega | split))) (by repeat' (first | exact EnvVia.nil | refine EnvVia.cons (by first | trivial | decide | (simp [SV.bnd, SV.bndL]; done)) rfl ?_)) (by repeat' (first | exact HeapVia.nil | refine HeapVia.cons (by decide) (by first | trivial | (simp [Blk.bnd, SV.bnd, SV.bndL]; done) | exact bndL_mapV _ _ _ | exact LR.bnd (by rw [l2]; simp [bndE, SV.bnd, SV.bndL]) (by rw [l6]; decide)) (by first | rfl | (simp only [Blk.ren, renL_mapV]; rfl) | (rw [LR.ren (by rw [l2] <;> rfl) (by rw [l6] <;> rfl)]; rfl)) ?_)) ⟨by have := hκ.hm; (try dsimp only at this); (first | done | omega), fun i hi => by have := hκ.hm; (try dsimp only at this); (first | omega | (dsimp only; omega) | (rw [if_neg (by omega)]))⟩ ⟨by simp, rfl⟩
    · simp (disch := omega) only [exec_succ, runR_next, runR_stop, stepS, runOp, goS, toSR, sop, rOf, ev, Env.get, exitTo, OutOK_stop, List.size_toArray, List.length_cons, List.length_nil, List.range, List.range.loop, List.getElem?_toArray, List.getElem?_cons_succ, List.getElem?_cons_zero, ↓reduceIte, Nat.reduceAdd, Nat.reduceLT, Nat.reduceEqDiff, Nat.zero_add, beq_self_eq_true]
      obtain rfl : k = l.length := by omega
      rw [List.take_length, List.take_of_length_le (by omega)]
      refine hκ.ret _ _ _ _ _ _ trivial rfl ?_
      exact .ret trivial
theorem weights_ok (l : List Pt) (b : List Bool) (h : rightP l = true) (hb : b.length = l.length) : Con Try.prog gl0 (fnv 37) [Ps l, .rd 1 (Bs b)] 0 [] (Ret (I (wtF l b))) := by
  obtain ⟨hn, hall, -⟩ := (rightP_iff l).1 h
  refine Con.of Try.ok37 (nt := 26) (res := [.tmp 4]) Try.mixed Try.func37 rfl rfl rfl rfl fun κ xc hκ => hκ.run 300 ?_
  simp (disch := omega) only [exec_succ, runR_next, runR_stop, stepS, runOp, toSR, sop, rOf, ev, envOf, OutOK_stop, List.size_toArray, List.length_cons, List.length_nil, List.range, List.range.loop, List.getElem?_toArray, List.getElem?_cons_zero, ↓reduceIte, Nat.reduceLT, Nat.zero_add, gl0]
  refine Sat.less (Sat.loop (γ := Nat) (fun k => ([(6, I k), (5, I (sumZ zW (l.take k) (b.take k))), (1, .rd 1 (Bs b)), (0, Ps l)], [], 0)) (fun k => l.length - k) (fun k => k ≤ l.length) ?round 0 (Nat.zero_le _)) (by repeat' (first | exact EnvSub.nil _ | exact HeapSub.nil _ | refine EnvSub.cons rfl ?_ | refine HeapSub.cons rfl ?_ | (refine EnvSub.cons (by simp [Env.get]; done) ?_) | (refine HeapSub.cons (by simp [Heap.get]; done) ?_))) (by repeat' (first | exact EnvSub.nil _ | exact HeapSub.nil _ | refine EnvSub.cons rfl ?_ | refine HeapSub.cons rfl ?_ | (refine EnvSub.cons (by simp [Env.get]; done) ?_) | (refine HeapSub.cons (by simp [Heap.get]; done) ?_)))
  case round =>
    intro k hk ih
    dsimp only at ih ⊢
    refine hκ.run 300 ?_
    simp (disch := omega) only [sBuiltin, exec_succ, runR_next, stepS, runOp, condS, toSR, sop, rOf, sInt, sBin, sLen, ev, Env.get, List.size_toArray, List.length_cons, List.length_nil, List.length_map, List.range, List.range.loop, List.getElem?_toArray, List.getElem?_cons_succ, List.getElem?_cons_zero, ↓reduceIte, Nat.reduceAdd, Nat.reduceLT, Nat.reduceEqDiff, Nat.zero_add, Nat.add_one_ne_zero, gl0, Try.underlying22]
    refine OutOK_fork (fun h => ?_) (fun h => ?_) <;> try simp only [Bool.not_true, Bool.not_false, decide_eq_true_eq, decide_eq_false_iff_not, Bool.not_eq_true', Bool.not_eq_false', Bool.and_eq_true, Bool.or_eq_false_iff, Bool.or_eq_true, Bool.and_eq_false_iff] at h
    · have hz := ih (k + 1) (by omega) (by omega)
      rw [sumZ_take (by omega) hb] at hz
      have hp := (okP_iff _).1 (hall _ (getD_mem (show k < l.length by omega)))
      have hs := sumZ_bd (b := b.take k) (zW_bd (take_all hall k)) (by decide)
      rw [List.length_take] at hs
      have g1 : (List.map eP l).getD k [] = eP (l.getD k default) := getD_map _ _ _ (by omega)
      have g2 := Bs_get (b := b) (show k < b.length by omega)
      generalize l.getD k default = p at *
      generalize b.getD k default = x at *
      generalize sumZ zW (l.take k) (b.take k) = n at *
      cases x
      · rw [show zW (p, false) = p.1 from rfl] at hz
        simp (disch := omega) only [exec_succ, runR_next, runR_need, runR_fork_true, runR_stop, stepS, runOp, condS, toSR, sop, rOf, sLoad, sInt, sBin, sUn, sFieldAddr, sIndexAddr, elemT, obind, ev, Env.get, takeN, cut, aggOf, OutOK_need, OutOK_stop, List.size_toArray, List.length_cons, List.length_nil, List.length_map, List.range, List.range.loop, List.getElem?_toArray, List.getElem?_cons_succ, List.getElem?_cons_zero, ↓reduceIte, Nat.reduceAdd, Nat.reduceLT, Nat.reduceEqDiff, Nat.zero_add, Nat.add_zero, Nat.add_one_ne_zero, Int.toNat_natCast, Bool.not_false, wrap_i64, Try.sz3, Try.ag3, Try.sz4, Try.ag4, Try.underlying22, Try.underlying28, Try.sz54, Try.fd54f0, g1, g2, eP, hb]
        (repeat (refine ⟨by first | omega | (refine ⟨?_, ?_⟩ <;> omega) | trivial | (simp; done) | decide +kernel, fun _ => ?_⟩))
        refine Sat.via (fun i => i) (hz) (by intro i j; (repeat (first | omega | split))) (by repeat' (first | exact EnvVia.nil | refine EnvVia.cons (by first | trivial | decide | (simp [SV.bnd, SV.bndL]; done)) rfl ?_)) (by repeat' (first | exact HeapVia.nil | refine HeapVia.cons (by decide) (by first | trivial | (simp [Blk.bnd, SV.bnd, SV.bndL]; done) | exact bndL_mapV _ _ _ | exact LR.bnd (by rw [l2]; simp [bndE, SV.bnd, SV.bndL]) (by rw [l6]; decide)) (by first | rfl | (simp only [Blk.ren, renL_mapV]; rfl) | (rw [LR.ren (by rw [l2] <;> rfl) (by rw [l6] <;> rfl)]; rfl)) ?_)) ⟨by have := hκ.hm; (try dsimp only at this); (first | done | omega), fun i hi => by have := hκ.hm; (try dsimp only at this); (first | omega | (dsimp only; omega) | (rw [if_neg (by omega)]))⟩ ⟨by simp, rfl⟩
      · rw [show zW (p, true) = 0 from rfl, Int.add_zero] at hz
        simp (disch := omega) only [exec_succ, runR_next, runR_need, runR_fork_false, runR_stop, stepS, runOp, condS, toSR, sop, rOf, sLoad, sInt, sBin, sUn, sIndexAddr, elemT, obind, ev, Env.get, takeN, cut, aggOf, OutOK_need, OutOK_stop, List.size_toArray, List.length_cons, List.length_nil, List.length_map, List.range, List.range.loop, List.getElem?_toArray, List.getElem?_cons_succ, List.getElem?_cons_zero, ↓reduceIte, Nat.reduceAdd, Nat.reduceLT, Nat.reduceEqDiff, Nat.zero_add, Int.toNat_natCast, Bool.not_true, wrap_i64, Try.sz4, Try.ag4, Try.underlying28, g2, hb]
        (repeat (refine ⟨by first | omega | (refine ⟨?_, ?_⟩ <;> omega) | trivial | (simp; done) | decide +kernel, fun _ => ?_⟩))
        refine Sat.via (fun i => i) (hz) (by intro i j; (repeat (first | omega | split))) (by repeat' (first | exact EnvVia.nil | refine EnvVia.cons (by first | trivial | decide | (simp [SV.bnd, SV.bndL]; done)) rfl ?_)) (by repeat' (first | exact HeapVia.nil | refine HeapVia.cons (by decide) (by first | trivial | (simp [Blk.bnd, SV.bnd, SV.bndL]; done) | exact bndL_mapV _ _ _ | exact LR.bnd (by rw [l2]; simp [bndE, SV.bnd, SV.bndL]) (by rw [l6]; decide)) (by first | rfl | (simp only [Blk.ren, renL_mapV]; rfl) | (rw [LR.ren (by rw [l2] <;> rfl) (by rw [l6] <;> rfl)]; rfl)) ?_)) ⟨by have := hκ.hm; (try dsimp only at this); (first | done | omega), fun i hi => by have := hκ.hm; (try dsimp only at this); (first | omega | (dsimp only; omega) | (rw [if_neg (by omega)]))⟩ ⟨by simp, rfl⟩
    · simp (disch := omega) only [exec_succ, runR_next, runR_stop, stepS, runOp, goS, toSR, sop, rOf, ev, Env.get, exitTo, OutOK_stop, List.size_toArray, List.length_cons, List.length_nil, List.range, List.range.loop, List.getElem?_toArray, List.getElem?_cons_succ, List.getElem?_cons_zero, ↓reduceIte, Nat.reduceAdd, Nat.reduceLT, Nat.reduceEqDiff, Nat.zero_add, beq_self_eq_true]
      obtain rfl : k = l.length := by omega
      rw [List.take_length, List.take_of_length_le (by omega)]
      refine hκ.ret _ _ _ _ _ _ trivial rfl ?_
      exact .ret trivial
/-- Nobody. -/
def no0 (l : List Pt) : List Bool := List.replicate l.length false
theorem no0_len (l : List Pt) : (no0 l).length = l.length := by rw [no0, List.length_replicate]
theorem none_ok (l : List Pt) (hn : l.length < 2 ^ 40) : Con Try.prog gl0 (fnv 35) [Ps l] 0 [] (RetRow 4 1 (Bs (no0 l))) := by
  refine Con.of Try.ok35 (nt := 15) (res := [.tmp 2]) Try.mixed Try.func35 rfl rfl rfl rfl fun κ xc hκ => hκ.run 300 ?_
  simp (disch := omega) only [exec_succ, runR_next, runR_stop, stepS, runOp, toSR, sop, rOf, ev, envOf, OutOK_stop, List.size_toArray, List.length_cons, List.length_nil, List.range, List.range.loop, List.getElem?_toArray, List.getElem?_cons_zero, ↓reduceIte, Nat.reduceLT, Nat.zero_add, gl0]
  refine Sat.nilRow 3 1 4 rfl ?_
  refine Sat.less (Sat.loop (γ := Nat × Nat) (fun k => ([(4, I k.1), (3, .sl 0 1 0 k.1 k.2), (0, Ps l)], [(0, .row 1 k.2 4 (List.replicate k.1 [Bo false]))], 1)) (fun k => l.length - k.1) (fun k => k.1 ≤ l.length) ?round (0, 0) (Nat.zero_le _)) (by repeat' (first | exact EnvSub.nil _ | exact HeapSub.nil _ | refine EnvSub.cons rfl ?_ | refine HeapSub.cons rfl ?_ | (refine EnvSub.cons (by simp [Env.get]; done) ?_) | (refine HeapSub.cons (by simp [Heap.get]; done) ?_))) (by repeat' (first | exact EnvSub.nil _ | exact HeapSub.nil _ | refine EnvSub.cons rfl ?_ | refine HeapSub.cons rfl ?_ | (refine EnvSub.cons (by simp [Env.get]; done) ?_) | (refine HeapSub.cons (by simp [Heap.get]; done) ?_)))
  case round =>
    rintro ⟨k, c⟩ hk ih
    dsimp only at hk ih ⊢
    refine Sat.room 0 rfl fun hroom => ?_
    rw [List.length_replicate] at hroom
    refine hκ.run 300 ?_
    simp (disch := omega) only [sBuiltin, exec_succ, runR_next, stepS, runOp, condS, toSR, sop, rOf, sInt, sBin, sLen, ev, Env.get, List.size_toArray, List.length_cons, List.length_nil, List.length_map, List.range, List.range.loop, List.getElem?_toArray, List.getElem?_cons_succ, List.getElem?_cons_zero, ↓reduceIte, Nat.reduceAdd, Nat.reduceLT, Nat.reduceEqDiff, Nat.zero_add, Nat.add_one_ne_zero, gl0, Try.underlying22]
    refine OutOK_fork (fun h => ?_) (fun h => ?_) <;> try simp only [Bool.not_true, Bool.not_false, decide_eq_true_eq, decide_eq_false_iff_not, Bool.not_eq_true', Bool.not_eq_false', Bool.and_eq_true, Bool.or_eq_false_iff, Bool.or_eq_true, Bool.and_eq_false_iff] at h
    · have hz := fun c => ih (k + 1, c) (by dsimp only; omega) (by dsimp only; omega)
      dsimp only at hz
      rw [List.replicate_succ'] at hz
      have et : List.take k (List.replicate k [Bo false]) = List.replicate k [Bo false] := List.take_of_length_le (by simp)
      simp (disch := omega) only [sBuiltin, srcS, appArgS, sAppendTo, sAppend, exec_succ, runR_next, runR_need, runR_all, runR_stop, stepS, runOp, toSR, sop, rOf, rNew, isArr, sInt, sBin, sliceT, obind, fillS, evps, repeatL, sBuildSlice, chunk, ev, svs, Env.get, Heap.get, Heap.drop, over, paste, cellsS, one, ones, idFree, idFrees, Value.cells, Value.oneCell', OutOK_need, OutOK_all, OutOK_stop, Bool.and_true, List.drop_zero, List.take_succ_cons, List.take_nil, List.size_toArray, List.length_cons, List.length_nil, List.length_replicate, List.range, List.range.loop, List.getElem?_toArray, List.getElem?_cons_succ, List.getElem?_cons_zero, List.map_cons, List.map_nil, List.append_nil, List.toList_toArray, ↓reduceIte, Nat.reduceAdd, Nat.reduceLT, Nat.reduceLeDiff, Nat.reduceEqDiff, Nat.zero_add, Nat.mul_one, Nat.add_one_ne_zero, ne_eq, not_false_eq_true, true_and, and_self, forall_const, wrap_i64, Try.sz4, Try.ze4, Try.by4, Try.underlying28]
      (repeat (refine ⟨by first | omega | (refine ⟨?_, ?_⟩ <;> omega) | trivial | (simp; done) | decide +kernel, fun _ => ?_⟩))
      intro c2
      have hy := hz (k + 1 + c2)
      simp only [List.length_append, List.length_cons, List.length_nil, List.length_singleton, List.length_map, List.length_set, List.length_replicate, Nat.zero_add, Nat.add_zero, Int.natCast_add, Int.natCast_one, Int.ofNat_eq_natCast, List.map_append, List.map_cons, List.map_nil, List.take_length, eI, eB] at hy ⊢
      rw [et]
      refine Sat.via (fun i => if i = 0 then 2 else i) (hy) (by intro i j; (repeat (first | omega | split))) (by repeat' (first | exact EnvVia.nil | refine EnvVia.cons (by first | trivial | decide | (simp [SV.bnd, SV.bndL]; done)) rfl ?_)) (by repeat' (first | exact HeapVia.nil | refine HeapVia.cons (by decide) (by first | trivial | (simp [Blk.bnd, SV.bnd, SV.bndL]; done) | exact bndL_mapV _ _ _ | exact LR.bnd (by rw [l2]; simp [bndE, SV.bnd, SV.bndL]) (by rw [l6]; decide)) (by first | rfl | (simp only [Blk.ren, renL_mapV]; rfl) | (rw [LR.ren (by rw [l2] <;> rfl) (by rw [l6] <;> rfl)]; rfl)) ?_)) ⟨by have := hκ.hm; (try dsimp only at this); (first | done | omega), fun i hi => by have := hκ.hm; (try dsimp only at this); (first | omega | (dsimp only; omega) | (rw [if_neg (by omega)]))⟩ ⟨by simp, rfl⟩
    · simp (disch := omega) only [exec_succ, runR_next, runR_stop, stepS, runOp, goS, toSR, sop, rOf, ev, Env.get, exitTo, OutOK_stop, List.size_toArray, List.length_cons, List.length_nil, List.range, List.range.loop, List.getElem?_toArray, List.getElem?_cons_succ, List.getElem?_cons_zero, ↓reduceIte, Nat.reduceAdd, Nat.reduceLT, Nat.reduceEqDiff, Nat.zero_add, beq_self_eq_true]
      obtain rfl : k = l.length := by omega
      refine hκ.ret _ _ _ _ _ _ trivial rfl ?_
      exact Post.row (by simp only [Heap.get, dropL, no0, Bs, List.map_replicate]; rfl) (by simp [no0])
theorem zeroZ (l : List Pt) : wtF l (no0 l) = sumOf wW l := by
  have : ∀ l : List Pt, sumZ zW l (List.replicate l.length false) = sumOf wW l := by
    intro l
    induction l with
    | nil => rfl
    | cons p l ih =>
      rw [sumZ, sumOf] at ih ⊢
      rw [List.length_cons, List.replicate_succ, List.zip_cons_cons, List.map_cons, List.map_cons, List.sum_cons, List.sum_cons, ih]; rfl
  exact this l
theorem rfeas_ok (l : List Pt) (m : Int) (hr : rightP l = true) (hm : 1 ≤ m ∧ m ≤ 8) : Con Try.prog gl0 (fnv 17) [Ps l, I m] 0 [] (Ret (Bo (feasB l m))) := by
  obtain ⟨hn, hall, -⟩ := (rightP_iff l).1 hr
  have hW := sumW_bd hr
  have hno := fun k hk h => feas_no (l := l) (m := m) (k := k) hk h
  have hyes := feas_yes (l := l) (m := m)
  have c0 := weights_ok l (no0 l) hr (no0_len l)
  rw [zeroZ] at c0
  generalize sumOf wW l = w at *
  generalize feasB l m = r at *
  refine Con.of Try.ok17 (nt := 30) (res := [.tmp 4]) Try.mixed Try.func17 rfl rfl rfl rfl fun κ xc hκ => hκ.run 300 ?_
  simp (disch := omega) only [exec_succ, runR_next, runR_stop, stepS, runOp, toSR, sop, rOf, ev, envOf, OutOK_stop, List.size_toArray, List.length_cons, List.length_nil, List.range, List.range.loop, List.getElem?_toArray, List.getElem?_cons_zero, ↓reduceIte, Nat.reduceLT, Nat.zero_add, gl0]
  refine Sat.less (Sat.loop (γ := Nat) (fun k => ([(5, I k), (1, I m), (0, Ps l)], [], 0)) (fun k => l.length - k) (fun k => k ≤ l.length ∧ ∀ j, j < k → (l.getD j default).1 * m ≤ (l.getD j default).2 * w) ?round 0 ⟨Nat.zero_le _, fun j hj => by omega⟩) (by repeat' (first | exact EnvSub.nil _ | exact HeapSub.nil _ | refine EnvSub.cons rfl ?_ | refine HeapSub.cons rfl ?_ | (refine EnvSub.cons (by simp [Env.get]; done) ?_) | (refine HeapSub.cons (by simp [Heap.get]; done) ?_))) (by repeat' (first | exact EnvSub.nil _ | exact HeapSub.nil _ | refine EnvSub.cons rfl ?_ | refine HeapSub.cons rfl ?_ | (refine EnvSub.cons (by simp [Env.get]; done) ?_) | (refine HeapSub.cons (by simp [Heap.get]; done) ?_)))
  case round =>
    rintro k ⟨hk, hj⟩ ih
    dsimp only at ih ⊢
    refine hκ.run 300 ?_
    simp (disch := omega) only [sBuiltin, exec_succ, runR_next, stepS, runOp, condS, toSR, sop, rOf, sInt, sBin, sLen, ev, Env.get, List.size_toArray, List.length_cons, List.length_nil, List.length_map, List.range, List.range.loop, List.getElem?_toArray, List.getElem?_cons_succ, List.getElem?_cons_zero, ↓reduceIte, Nat.reduceAdd, Nat.reduceLT, Nat.reduceEqDiff, Nat.zero_add, Nat.add_one_ne_zero, gl0, Try.underlying22]
    refine OutOK_fork (fun h => ?_) (fun h => ?_) <;> try simp only [Bool.not_true, Bool.not_false, decide_eq_true_eq, decide_eq_false_iff_not, Bool.not_eq_true', Bool.not_eq_false', Bool.and_eq_true, Bool.or_eq_false_iff, Bool.or_eq_true, Bool.and_eq_false_iff] at h
    · have hp := (okP_iff _).1 (hall _ (getD_mem (show k < l.length by omega)))
      have hz := fun h => ih (k + 1) ⟨by omega, h⟩ (by omega)
      have g1 : (List.map eP l).getD k [] = eP (l.getD k default) := getD_map _ _ _ (by omega)
      have hno := hno k (by omega)
      have hz := fun h => hz fun j hj2 => by
        by_cases e : j = k
        · rw [e]; exact h
        · exact hj j (by omega)
      generalize l.getD k default = p at *
      have b1 := mul_bd (by omega) hp.1.2 (show 0 ≤ m by omega) hm.2
      have b2 := mul_bd (by omega) hp.2.2 hW.1 hW.2
      by_cases h : p.1 * m ≤ p.2 * w
      · have hz := hz h
        have e1 : (p.2 * w < p.1 * m) = False := by first | (simp only [eq_iff_iff, iff_false]; first | assumption | omega) | (simp; omega)
        simp (disch := omega) only [allQuiet, quietOp, drawS, exec_succ, runR_next, runR_stop, stepS, OutOK_stop, Option.isNone_none, Bool.and_true, Bool.and_false]
        refine hκ.draw (.q 0 (.q 1 (.q 2 (.q 3 (.q 4 (.q 5 (.q 6 (.q 7 (.q 8 (.q 9 (.q 10 (.q 11 (.q 12 (.q 13 (.l 14 [4, 11] (.l 15 [4, 11] (.q 16 (.q 17 (.fin))))))))))))))))))) [0, 1, 2, 3, 4, 5, 6, 7, 8, 9, 10, 11, 12, 13, 16, 17] (by kernel_rfl) (by kernel_rfl) rfl ?_
        simp (disch := omega) only [sop, rOf, sLoad, sInt, sBin, sFieldAddr, sIndexAddr, elemT, obind, ev, evs, Env.get, takeN, cut, aggOf, setO, drawP_q, drawP_l, dq, dqn, dl, guardP, R1Q, dstOK, loudP, List.length_map, List.getElem?_toArray, List.getElem?_cons_succ, List.getElem?_cons_zero, ↓reduceIte, Nat.reduceLT, Nat.reduceEqDiff, Nat.zero_add, Nat.add_zero, Nat.add_one_ne_zero, Int.toNat_natCast, true_and, wrap_i64, gl0, Try.sz3, Try.ag3, Try.underlying22, Try.sz54, Try.fd54f0, Try.fd54f1, g1, eP]
        (repeat (refine ⟨by first | omega | (refine ⟨?_, ?_⟩ <;> omega) | trivial | (simp; done) | decide +kernel, fun _ => ?_⟩))
        refine DCall.of (Does.ret hκ.hP hκ.hgl (Con.toRd (none_ok l (by omega))) ⟨trivial, by simp [SV.bnd, SV.bndL], by first | (simp [SV.bnd, SV.bndL]; done) | assumption⟩ ?_)
        simp (disch := omega) only [sop, rOf, sLoad, ev, evs, Env.get, takeN, cut, aggOf, setO, drawP_l, dnext, dl, slotR, ag, guardP, dstOK, loudP, again, again1, slotIs, R1OK, List.getElem?_toArray, List.getElem?_cons_succ, List.getElem?_cons_zero, ↓reduceIte, Nat.reduceLT, Nat.reduceEqDiff, true_and, and_self, Try.sz3, Try.ag3]
        refine DCall.of (Does.ret hκ.hP hκ.hgl (c0) ⟨trivial, by simp [SV.bnd, SV.bndL], by first | (simp [SV.bnd, SV.bndL]; done) | assumption⟩ ?_)
        simp (disch := omega) only [sop, rOf, sLoad, sInt, sBin, ev, Env.get, takeN, cut, aggOf, setO, drawP_fin, drawP_q, dnext, dq, dqn, slotR, ag, guardP, R1Q, dstOK, again, again1, slotIs, R1OK, List.getElem?_toArray, List.getElem?_cons_succ, List.getElem?_cons_zero, ↓reduceIte, Nat.reduceLT, Nat.reduceEqDiff, decide_false, true_and, and_self, wrap_i64, Try.sz3, Try.ag3, e1]
        (repeat (refine ⟨by first | omega | (refine ⟨?_, ?_⟩ <;> omega) | trivial | (simp; done) | decide +kernel, fun _ => ?_⟩))
        refine hκ.run 300 ?_
        simp (disch := omega) only [exec_succ, runR_next, runR_fork_false, runR_stop, stepS, runOp, condS, toSR, sop, rOf, sInt, sBin, ev, Env.get, OutOK_stop, List.size_toArray, List.length_cons, List.length_nil, List.range, List.range.loop, List.getElem?_toArray, List.getElem?_cons_succ, List.getElem?_cons_zero, ↓reduceIte, Nat.reduceAdd, Nat.reduceLT, Nat.reduceEqDiff, Nat.zero_add, wrap_i64, gl0]
        refine Sat.via (fun i => i) (hz) (by intro i j; (repeat (first | omega | split))) (by repeat' (first | exact EnvVia.nil | refine EnvVia.cons (by first | trivial | decide | (simp [SV.bnd, SV.bndL]; done)) rfl ?_)) (by repeat' (first | exact HeapVia.nil | refine HeapVia.cons (by decide) (by first | trivial | (simp [Blk.bnd, SV.bnd, SV.bndL]; done) | exact bndL_mapV _ _ _ | exact LR.bnd (by rw [l2]; simp [bndE, SV.bnd, SV.bndL]) (by rw [l6]; decide)) (by first | rfl | (simp only [Blk.ren, renL_mapV]; rfl) | (rw [LR.ren (by rw [l2] <;> rfl) (by rw [l6] <;> rfl)]; rfl)) ?_)) ⟨by have := hκ.hm; (try dsimp only at this); (first | done | omega), fun i hi => by have := hκ.hm; (try dsimp only at this); (first | omega | (dsimp only; omega) | (rw [if_neg (by omega)]))⟩ ⟨by simp, rfl⟩
      · rw [hno h] at hκ
        have e1 : (p.2 * w < p.1 * m) = True := by first | (simp only [eq_iff_iff, iff_true]; first | assumption | omega) | (simp; omega)
        simp (disch := omega) only [allQuiet, quietOp, drawS, exec_succ, runR_next, runR_stop, stepS, OutOK_stop, Option.isNone_none, Bool.and_true, Bool.and_false]
        refine hκ.draw (.q 0 (.q 1 (.q 2 (.q 3 (.q 4 (.q 5 (.q 6 (.q 7 (.q 8 (.q 9 (.q 10 (.q 11 (.q 12 (.q 13 (.l 14 [4, 11] (.l 15 [4, 11] (.q 16 (.q 17 (.fin))))))))))))))))))) [0, 1, 2, 3, 4, 5, 6, 7, 8, 9, 10, 11, 12, 13, 16, 17] (by kernel_rfl) (by kernel_rfl) rfl ?_
        simp (disch := omega) only [sop, rOf, sLoad, sInt, sBin, sFieldAddr, sIndexAddr, elemT, obind, ev, evs, Env.get, takeN, cut, aggOf, setO, drawP_q, drawP_l, dq, dqn, dl, guardP, R1Q, dstOK, loudP, List.length_map, List.getElem?_toArray, List.getElem?_cons_succ, List.getElem?_cons_zero, ↓reduceIte, Nat.reduceLT, Nat.reduceEqDiff, Nat.zero_add, Nat.add_zero, Nat.add_one_ne_zero, Int.toNat_natCast, true_and, wrap_i64, gl0, Try.sz3, Try.ag3, Try.underlying22, Try.sz54, Try.fd54f0, Try.fd54f1, g1, eP]
        (repeat (refine ⟨by first | omega | (refine ⟨?_, ?_⟩ <;> omega) | trivial | (simp; done) | decide +kernel, fun _ => ?_⟩))
        refine DCall.of (Does.ret hκ.hP hκ.hgl (Con.toRd (none_ok l (by omega))) ⟨trivial, by simp [SV.bnd, SV.bndL], by first | (simp [SV.bnd, SV.bndL]; done) | assumption⟩ ?_)
        simp (disch := omega) only [sop, rOf, sLoad, ev, evs, Env.get, takeN, cut, aggOf, setO, drawP_l, dnext, dl, slotR, ag, guardP, dstOK, loudP, again, again1, slotIs, R1OK, List.getElem?_toArray, List.getElem?_cons_succ, List.getElem?_cons_zero, ↓reduceIte, Nat.reduceLT, Nat.reduceEqDiff, true_and, and_self, Try.sz3, Try.ag3]
        refine DCall.of (Does.ret hκ.hP hκ.hgl (c0) ⟨trivial, by simp [SV.bnd, SV.bndL], by first | (simp [SV.bnd, SV.bndL]; done) | assumption⟩ ?_)
        simp (disch := omega) only [sop, rOf, sLoad, sInt, sBin, ev, Env.get, takeN, cut, aggOf, setO, drawP_fin, drawP_q, dnext, dq, dqn, slotR, ag, guardP, R1Q, dstOK, again, again1, slotIs, R1OK, List.getElem?_toArray, List.getElem?_cons_succ, List.getElem?_cons_zero, ↓reduceIte, Nat.reduceLT, Nat.reduceEqDiff, decide_true, true_and, and_self, wrap_i64, Try.sz3, Try.ag3, e1]
        (repeat (refine ⟨by first | omega | (refine ⟨?_, ?_⟩ <;> omega) | trivial | (simp; done) | decide +kernel, fun _ => ?_⟩))
        refine hκ.run 300 ?_
        simp (disch := omega) only [exec_succ, runR_next, runR_fork_true, runR_stop, stepS, runOp, condS, toSR, sop, rOf, ev, Env.get, OutOK_stop, List.size_toArray, List.length_cons, List.length_nil, List.range, List.range.loop, List.getElem?_toArray, List.getElem?_cons_zero, ↓reduceIte, Nat.reduceLT, Nat.zero_add, gl0]
        refine hκ.ret _ _ _ _ _ _ trivial rfl ?_
        exact .ret trivial
    · simp (disch := omega) only [exec_succ, runR_next, runR_stop, stepS, runOp, goS, toSR, sop, rOf, ev, exitTo, OutOK_stop, List.size_toArray, List.length_cons, List.length_nil, List.range, List.range.loop, List.getElem?_toArray, List.getElem?_cons_zero, ↓reduceIte, Nat.reduceLT, Nat.zero_add, beq_self_eq_true]
      obtain rfl : k = l.length := by omega
      rw [hyes hj] at hκ
      refine hκ.ret _ _ _ _ _ _ trivial rfl ?_
      exact .ret trivial
end Go.Proofs.Ytomfpciigaopiaa

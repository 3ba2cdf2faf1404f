/- Whole numbers bit by bit: of a number; twice; a sum. No condition. -/
import Derived.Test.YtomfpciigaopiaaAb
namespace Go.Proofs.Ytomfpciigaopiaa
open Go Go.Sy
set_option maxRecDepth 100000
set_option linter.unusedSimpArgs false
set_option linter.unusedVariables false

def Bt (f : Nat → Bool) : List (List SV) := (List.range 256).map fun j => [Bo (f j)]
theorem Bt_len (f : Nat → Bool) : (Bt f).length = 256 := by simp [Bt]
theorem Bt_get {f : Nat → Bool} {k : Nat} (h : k < 256) : (Bt f).getD k [] = [Bo (f k)] := by
  rw [Bt, List.getD, List.getElem?_map, List.getElem?_range h]; rfl
theorem Bt_set {f : Nat → Bool} {k : Nat} (b : Bool) : (Bt f).set k [Bo b] = Bt (fun j => if j = k then b else f j) := by
  apply List.ext_getElem (by simp [Bt])
  intro j h1 h2
  rw [List.getElem_set]
  simp only [Bt, List.getElem_map, List.getElem_range]
  by_cases e : k = j
  · subst e; simp
  · rw [if_neg e, if_neg (fun h => e h.symm)]
theorem Bt_congr {f g : Nat → Bool} (h : ∀ j, j < 256 → f j = g j) : Bt f = Bt g := by
  rw [Bt, Bt]
  refine List.map_congr_left fun j hj => ?_
  rw [h j (List.mem_range.1 hj)]
/-- A number's bits. -/
def Nb (n : Nat) : List (List SV) := Bt n.testBit
theorem Nb_len (n : Nat) : (Nb n).length = 256 := Bt_len _
theorem Nb_get {n k : Nat} (h : k < 256) : (Nb n).getD k [] = [Bo (n.testBit k)] := Bt_get h
theorem Nb_zero : Nb 0 = List.replicate 256 [SV.v (.bool false)] := by
  have : Nb 0 = Bt fun _ => false := Bt_congr fun j _ => Nat.zero_testBit j
  rw [this]; rfl
theorem Nb_mod (n : Nat) : Nb (n % 2 ^ 256) = Nb n := Bt_congr fun j hj => by rw [Nat.testBit_mod_two_pow, decide_eq_true hj, Bool.true_and]
theorem Nb_inj {a b : Nat} (ha : a < 2 ^ 256) (hb : b < 2 ^ 256) (h : Nb a = Nb b) : a = b := by
  apply Nat.eq_of_testBit_eq
  intro j
  by_cases hj : j < 256
  · have := Nb_get (n := a) hj
    rw [h, Nb_get hj] at this
    simpa using this.symm
  · have hp : 2 ^ 256 ≤ 2 ^ j := Nat.pow_le_pow_right (by decide) (by omega)
    rw [Nat.testBit_lt_two_pow (Nat.lt_of_lt_of_le ha hp), Nat.testBit_lt_two_pow (Nat.lt_of_lt_of_le hb hp)]
/-- Its lowest bits alone. -/
def Ub (n k : Nat) : List (List SV) := Bt fun j => decide (j < k) && n.testBit j
theorem Ub_len (n k : Nat) : (Ub n k).length = 256 := Bt_len _
theorem Ub_zero (n : Nat) : List.replicate 256 [SV.v (.bool false)] = Ub n 0 := by
  rw [← Nb_zero]
  exact Bt_congr fun j _ => by rw [Nat.zero_testBit, decide_eq_false (by omega)]; rfl
theorem Ub_full (n : Nat) {k : Nat} (h : 256 ≤ k) : Ub n k = Nb n := Bt_congr fun j hj => by rw [decide_eq_true (by omega)]; rfl
theorem Ub_get {n k : Nat} (h : k < 256) : (Ub n k).getD k [] = [Bo false] := by rw [Ub, Bt_get h, decide_eq_false (by omega)]; rfl
theorem Ub_set {n k : Nat} {b : Bool} (h : n.testBit k = b) : (Ub n k).set k [Bo b] = Ub n (k + 1) := by
  rw [Ub, Bt_set]
  refine Bt_congr fun j _ => ?_
  by_cases e : j = k
  · subst e; rw [if_pos rfl, decide_eq_true (by omega), h]; rfl
  · rw [if_neg e, show decide (j < k + 1) = decide (j < k) by rw [decide_eq_decide]; omega]
theorem bitI (x k : Nat) : decide (((x : Int).fdiv (2 ^ k)).tmod 2 = 1) = x.testBit k := by
  rw [Nat.testBit_eq_decide_div_mod_eq, decide_eq_decide, Int.fdiv_eq_ediv_of_nonneg _ (Int.pow_nonneg (by decide))]
  have h1 : ((x : Int) / 2 ^ k) = ((x / 2 ^ k : Nat) : Int) := by simp
  rw [h1]
  generalize x / 2 ^ k = y
  rw [Int.tmod_eq_emod_of_nonneg (by omega)]
  omega
/-- The lowest bits of both halves. -/
def Hb (n k : Nat) : List (List SV) := Bt fun j => (decide (j < k) || (decide (64 ≤ j) && decide (j < 64 + k))) && n.testBit j
theorem Hb_len (n k : Nat) : (Hb n k).length = 256 := Bt_len _
theorem Hb_zero (n : Nat) : List.replicate 256 [SV.v (.bool false)] = Hb n 0 := by
  rw [← Nb_zero]
  refine Bt_congr fun j _ => ?_
  rw [Nat.zero_testBit, decide_eq_false (show ¬ j < 0 by omega)]
  by_cases e : 64 ≤ j
  · rw [decide_eq_false (show ¬ j < 64 + 0 by omega)]; simp
  · rw [decide_eq_false e]; simp
theorem Hb_full {n : Nat} (h : n < 2 ^ 128) : Hb n 64 = Nb n := by
  refine Bt_congr fun j _ => ?_
  by_cases e : j < 128
  · rw [show (decide (j < 64) || decide (64 ≤ j) && decide (j < 64 + 64)) = true by simp; omega]; rfl
  · rw [Nat.testBit_lt_two_pow (Nat.lt_of_lt_of_le h (Nat.pow_le_pow_right (by decide) (by omega))), Bool.and_false]
theorem half_bit {n k : Nat} (h : k < 64) : (n % 18446744073709551616).testBit k = n.testBit k ∧ (n / 18446744073709551616).testBit k = n.testBit (64 + k) := by
  constructor
  · rw [show 18446744073709551616 = 2 ^ 64 by decide, Nat.testBit_mod_two_pow, decide_eq_true h, Bool.true_and]
  · rw [show 18446744073709551616 = 2 ^ 64 by decide, Nat.testBit_div_two_pow, Nat.add_comm]
theorem Hb_step {n k : Nat} (h : k < 64) : ∃ a b, (Hb n k).getD k [] = [Bo a] ∧ ((Hb n k).set k [Bo ((n % 18446744073709551616).testBit k)]).getD (64 + k) [] = [Bo b] ∧
    ((Hb n k).set k [Bo ((n % 18446744073709551616).testBit k)]).set (64 + k) [Bo ((n / 18446744073709551616).testBit k)] = Hb n (k + 1) := by
  obtain ⟨h1, h2⟩ := half_bit (n := n) h
  rw [h1, h2, Hb, Bt_set]
  refine ⟨_, _, Bt_get (by omega), Bt_get (by omega), ?_⟩
  rw [Bt_set]
  refine Bt_congr fun j _ => ?_
  by_cases e : j = 64 + k
  · subst e
    rw [if_pos rfl, show (decide (64 + k < k + 1) || decide (64 ≤ 64 + k) && decide (64 + k < 64 + (k + 1))) = true by simp]; rfl
  · rw [if_neg e]
    by_cases e2 : j = k
    · subst e2
      rw [if_pos rfl, show (decide (j < j + 1) || decide (64 ≤ j) && decide (j < 64 + (j + 1))) = true by simp]; rfl
    · rw [if_neg e2, show decide (j < k + 1) = decide (j < k) by rw [decide_eq_decide]; omega, show decide (j < 64 + (k + 1)) = decide (j < 64 + k) by rw [decide_eq_decide]; omega]
theorem bof_ok (n : Nat) (hn : n < 2 ^ 128) : Con Try.prog gl0 (fnv 43) [W n] 0 [] (Ret (.arr 1 (Nb n))) := by
  refine Con.of Try.ok43 (nt := 29) (res := [.cell 2 76]) Try.mixed Try.func43 rfl rfl rfl rfl fun κ xc hκ => hκ.run 300 ?_
  simp (disch := omega) only [exec_succ, runR_next, runR_stop, stepS, runOp, toSR, sop, rOf, rNew, sAlloc, sBox, isArr, ev, svs, Env.get, cellsS, envOf, OutOK_stop, Bool.false_eq_true, List.size_toArray, List.length_cons, List.length_nil, List.range, List.range.loop, List.getElem?_toArray, List.getElem?_cons_succ, List.getElem?_cons_zero, List.map_cons, List.map_nil, ↓reduceIte, Nat.reduceAdd, Nat.reduceLT, Nat.zero_add, gl0, Try.ar76]
  rw [Hb_zero n]
  refine Sat.less (Sat.loop (γ := Nat) (fun k => ([(4, I k), (3, .ptr 2 0 0 0), (2, .ptr 1 0 0 0), (1, .ptr 0 0 0 0)], [(2, .row 1 256 76 (Hb n k)), (1, .row 1 256 76 (Hb n 0)), (0, .own [U (n / 18446744073709551616), U (n % 18446744073709551616)] 44)], 3)) (fun k => 64 - k) (fun k => k ≤ 64) ?round 0 (Nat.zero_le _)) (by repeat' (first | exact EnvSub.nil _ | exact HeapSub.nil _ | refine EnvSub.cons rfl ?_ | refine HeapSub.cons rfl ?_ | (refine EnvSub.cons (by simp [Env.get]; done) ?_) | (refine HeapSub.cons (by simp [Heap.get]; done) ?_))) (by repeat' (first | exact EnvSub.nil _ | exact HeapSub.nil _ | refine EnvSub.cons rfl ?_ | refine HeapSub.cons rfl ?_ | (refine EnvSub.cons (by simp [Env.get]; done) ?_) | (refine HeapSub.cons (by simp [Heap.get]; done) ?_)))
  case round =>
    intro k hk ih
    dsimp only at ih ⊢
    refine hκ.run 300 ?_
    simp (disch := omega) only [exec_succ, runR_next, stepS, runOp, condS, toSR, sop, rOf, sInt, sBin, ev, Env.get, List.size_toArray, List.length_cons, List.length_nil, List.range, List.range.loop, List.getElem?_toArray, List.getElem?_cons_succ, List.getElem?_cons_zero, ↓reduceIte, Nat.reduceAdd, Nat.reduceLT, Nat.zero_add, gl0]
    refine OutOK_fork (fun h => ?_) (fun h => ?_) <;> try simp only [Bool.not_true, Bool.not_false, decide_eq_true_eq, decide_eq_false_iff_not, Bool.not_eq_true', Bool.not_eq_false', Bool.and_eq_true, Bool.or_eq_false_iff, Bool.or_eq_true, Bool.and_eq_false_iff] at h
    · have hz := ih (k + 1) (by omega) (by omega)
      obtain ⟨a, b, g1, g2, g3⟩ := Hb_step (n := n) (show k < 64 by omega)
      have e1 : (64 + (k : Int)).toNat = 64 + k := by omega
      simp (disch := omega) only [exec_succ, runR_next, runR_need, runR_stop, stepS, runOp, toSR, sop, rOf, sLoadIn, sLoad, sStoreIn, sStore, sInt, sBin, sConv, sFieldAddr, sIndexAddr, elemT, obind, ev, svs, Env.get, Heap.get, Heap.set, takeN, cut, over, paste, aggOf, cellsS, one, ones, idFree, idFrees, Value.cells, Value.oneCell', OutOK_need, OutOK_stop, undefS, undef, Int.cast_ofNat_Int, Bool.and_true, List.size_toArray, List.length_cons, List.length_nil, List.length_set, List.range, List.range.loop, List.getElem?_toArray, List.getElem?_cons_succ, List.getElem?_cons_zero, List.map_cons, List.map_nil, List.toList_toArray, ↓reduceIte, Nat.reduceAdd, Nat.reduceLT, Nat.reduceEqDiff, Nat.zero_add, Nat.add_zero, Nat.add_one_ne_zero, Int.reduceEq, Int.toNat_natCast, ne_eq, not_false_eq_true, and_true, true_and, and_self, forall_const, shAmt_of, IntKind.bits, wrap_i64, wrap_u64, Try.underlying3, Try.sz4, Try.sz31, Try.ag31, Try.fd44f0, Try.fd44f1, Try.underlying76, Try.underlying97, Hb_len, bitI, g1, g2, g3, e1]
      (repeat (refine ⟨by first | omega | (refine ⟨?_, ?_⟩ <;> omega) | trivial | (simp; done) | decide +kernel, fun _ => ?_⟩))
      refine Sat.via (fun i => i) (hz) (by intro i j; (repeat (first | omega | split))) (by repeat' (first | exact EnvVia.nil | refine EnvVia.cons (by first | trivial | decide | (simp [SV.bnd, SV.bndL]; done)) rfl ?_)) (by repeat' (first | exact HeapVia.nil | refine HeapVia.cons (by decide) (by first | trivial | (simp [Blk.bnd, SV.bnd, SV.bndL]; done) | exact bndL_mapV _ _ _ | exact LR.bnd (by rw [l2]; simp [bndE, SV.bnd, SV.bndL]) (by rw [l6]; decide)) (by first | rfl | (simp only [Blk.ren, renL_mapV]; rfl) | (rw [LR.ren (by rw [l2] <;> rfl) (by rw [l6] <;> rfl)]; rfl)) ?_)) ⟨by have := hκ.hm; (try dsimp only at this); (first | done | omega), fun i hi => by have := hκ.hm; (try dsimp only at this); (first | omega | (dsimp only; omega) | (rw [if_neg (by omega)]))⟩ ⟨by simp, rfl⟩
    · simp (disch := omega) only [exec_succ, runR_next, runR_need, runR_stop, stepS, runOp, goS, toSR, sop, sLoadIn, sLoad, sStoreArr, sStore, ev, Env.get, Heap.get, Heap.set, exitTo, OutOK_need, OutOK_stop, undefS, undef, List.size_toArray, List.length_cons, List.length_nil, List.range, List.range.loop, List.getElem?_toArray, List.getElem?_cons_succ, List.getElem?_cons_zero, ↓reduceIte, Nat.reduceAdd, Nat.reduceLT, Nat.reduceEqDiff, Nat.zero_add, Nat.mul_one, Nat.add_one_ne_zero, beq_self_eq_true, ne_eq, not_false_eq_true, true_and, and_self, forall_const, Try.sz76, Try.ag76, Hb_len]
      obtain rfl : k = 64 := by omega
      rw [Hb_full hn]
      refine hκ.run 300 ?_
      simp (disch := omega) only [exec_succ, runR_stop, stepS, OutOK_stop, Int.cast_ofNat_Int, Int.reduceLT, decide_false, gl0]
      (repeat (refine ⟨by first | omega | (refine ⟨?_, ?_⟩ <;> omega) | trivial | (simp; done) | decide +kernel, fun _ => ?_⟩))
      refine hκ.ret _ _ _ _ _ _ trivial rfl ?_
      exact .ret trivial
/-- What is carried. -/
def cy (A B k : Nat) : Bool := decide (2 ^ k ≤ A % 2 ^ k + B % 2 ^ k)
theorem cy_zero (A B : Nat) : cy A B 0 = false := by simp [cy, Nat.mod_one]
theorem mod_bit (A k : Nat) : A % 2 ^ (k + 1) = A % 2 ^ k + 2 ^ k * (A.testBit k).toNat := by
  rw [Nat.pow_succ, Nat.mod_mul, Nat.testBit_eq_decide_div_mod_eq]
  have : A / 2 ^ k % 2 < 2 := Nat.mod_lt _ (by decide)
  congr 2
  by_cases e : A / 2 ^ k % 2 = 1
  · rw [e]; rfl
  · rw [decide_eq_false e]; simp; omega
theorem add_bit (A B k : Nat) : (A + B).testBit k = ((A.testBit k ^^ B.testBit k) ^^ cy A B k) ∧ cy A B (k + 1) = ((A.testBit k && B.testBit k) || (A.testBit k && cy A B k) || (B.testBit k && cy A B k)) := by
  have hp := Nat.two_pow_pos k
  have hA := Nat.mod_lt A hp
  have hB := Nat.mod_lt B hp
  constructor
  · rw [Nat.testBit_eq_decide_div_mod_eq, Nat.testBit_eq_decide_div_mod_eq, Nat.testBit_eq_decide_div_mod_eq, Nat.add_div hp, cy]
    generalize A / 2 ^ k = a
    generalize B / 2 ^ k = b
    have ha : a % 2 = 0 ∨ a % 2 = 1 := by omega
    have hb : b % 2 = 0 ∨ b % 2 = 1 := by omega
    by_cases h : 2 ^ k ≤ A % 2 ^ k + B % 2 ^ k
    · rw [if_pos h, decide_eq_true h]
      rcases ha with ha | ha <;> rcases hb with hb | hb <;> rw [ha, hb] <;> simp <;> omega
    · rw [if_neg h, decide_eq_false h]
      rcases ha with ha | ha <;> rcases hb with hb | hb <;> rw [ha, hb] <;> simp <;> omega
  · rw [cy, cy, mod_bit, mod_bit, Nat.pow_succ]
    generalize A % 2 ^ k = x at hA ⊢
    generalize B % 2 ^ k = y at hB ⊢
    generalize 2 ^ k = p at hp hA hB ⊢
    cases A.testBit k <;> cases B.testBit k <;> simp only [Bool.toNat_false, Bool.toNat_true, Nat.mul_zero, Nat.mul_one, Nat.add_zero, Bool.and_true, Bool.and_false, Bool.true_and, Bool.false_and, Bool.or_false, Bool.false_or, Bool.or_true, Bool.true_or] <;> by_cases h : p ≤ x + y <;> simp [h] <;> omega
theorem bsum_ok (A B : Nat) : Con Try.prog gl0 (fnv 45) [.arr 1 (Nb A), .arr 1 (Nb B)] 0 [] (Ret (.arr 1 (Nb (A + B)))) := by
  refine Con.of Try.ok45 (nt := 34) (res := [.cell 4 76]) Try.mixed Try.func45 rfl rfl rfl rfl fun κ xc hκ => hκ.run 300 ?_
  simp (disch := omega) only [sBoxA, exec_succ, runR_next, runR_need, runR_stop, stepS, runOp, toSR, sop, rOf, rNew, sAlloc, sBox, isArr, ev, svs, Env.get, envOf, OutOK_need, OutOK_stop, List.size_toArray, List.length_cons, List.length_nil, List.range, List.range.loop, List.getElem?_toArray, List.getElem?_cons_succ, List.getElem?_cons_zero, List.map_cons, List.map_nil, ↓reduceIte, Nat.reduceAdd, Nat.reduceLT, Nat.reduceEqDiff, Nat.zero_add, true_and, forall_const, reduceCtorEq, gl0, Try.ar76, Nb_len]
  rw [Ub_zero (A + B)]
  refine Sat.less (Sat.loop (γ := Nat × Bool) (fun k => ([(7, I k.1), (6, Bo k.2), (5, .ptr 3 0 0 0), (4, .ptr 2 0 0 0), (3, .ptr 1 0 0 0), (2, .ptr 0 0 0 0)], [(3, .row 1 256 76 (Ub (A + B) k.1)), (2, .row 1 256 76 (Ub (A + B) 0)), (1, .row 1 256 76 (Nb B)), (0, .row 1 256 76 (Nb A))], 4)) (fun k => 256 - k.1) (fun k => k.1 ≤ 256 ∧ k.2 = cy A B k.1) ?round (0, false) ⟨Nat.zero_le _, (cy_zero A B).symm⟩) (by repeat' (first | exact EnvSub.nil _ | exact HeapSub.nil _ | refine EnvSub.cons rfl ?_ | refine HeapSub.cons rfl ?_ | (refine EnvSub.cons (by simp [Env.get]; done) ?_) | (refine HeapSub.cons (by simp [Heap.get]; done) ?_))) (by repeat' (first | exact EnvSub.nil _ | exact HeapSub.nil _ | refine EnvSub.cons rfl ?_ | refine HeapSub.cons rfl ?_ | (refine EnvSub.cons (by simp [Env.get]; done) ?_) | (refine HeapSub.cons (by simp [Heap.get]; done) ?_)))
  case round =>
    rintro ⟨k, c⟩ ⟨hk, hc⟩ ih
    dsimp only at hk hc ih ⊢
    refine hκ.run 300 ?_
    simp (disch := omega) only [exec_succ, runR_next, stepS, runOp, condS, toSR, sop, rOf, sInt, sBin, ev, Env.get, List.size_toArray, List.length_cons, List.length_nil, List.range, List.range.loop, List.getElem?_toArray, List.getElem?_cons_succ, List.getElem?_cons_zero, ↓reduceIte, Nat.reduceAdd, Nat.reduceLT, Nat.zero_add, gl0]
    refine OutOK_fork (fun h => ?_) (fun h => ?_) <;> try simp only [Bool.not_true, Bool.not_false, decide_eq_true_eq, decide_eq_false_iff_not, Bool.not_eq_true', Bool.not_eq_false', Bool.and_eq_true, Bool.or_eq_false_iff, Bool.or_eq_true, Bool.and_eq_false_iff] at h
    · have hz := fun c h => ih (k + 1, c) ⟨by dsimp only; omega, h⟩ (by dsimp only; omega)
      obtain ⟨h1, h2⟩ := add_bit A B k
      rw [← hc] at h1 h2
      dsimp only at hz
      have hz := hz _ h2.symm
      have g1 : (Nb A).getD k [] = [Bo (A.testBit k)] := Nb_get (by omega)
      have g2 : (Nb B).getD k [] = [Bo (B.testBit k)] := Nb_get (by omega)
      have g3 := Ub_get (n := A + B) (show k < 256 by omega)
      have g4 := Ub_set h1
      clear hc h1 h2
      generalize A.testBit k = a at hz g1 g4
      generalize B.testBit k = b at hz g2 g4
      cases a <;> cases b <;> cases c
      all_goals
        simp only [Bool.xor_false, Bool.xor_true, Bool.false_xor, Bool.true_xor, Bool.not_true, Bool.not_false, Bool.and_self, Bool.and_false, Bool.and_true, Bool.or_self, Bool.or_true, Bool.or_false] at hz g4
        simp (disch := omega) only [exec_succ, runR_next, runR_need, runR_fork_true, runR_fork_false, runR_stop, stepS, runOp, condS, toSR, sop, rOf, sLoadIn, sLoad, sStoreIn, sStore, sInt, sBin, sIndexAddr, elemT, obind, ev, svs, Env.get, Heap.get, Heap.set, takeN, cut, over, paste, aggOf, cellsS, one, ones, idFree, idFrees, Value.cells, Value.oneCell', OutOK_need, OutOK_stop, undefS, undef, Int.zero_add, Int.cast_ofNat_Int, Bool.and_true, List.size_toArray, List.length_cons, List.length_nil, List.range, List.range.loop, List.getElem?_toArray, List.getElem?_cons_succ, List.getElem?_cons_zero, List.map_cons, List.map_nil, List.toList_toArray, ↓reduceIte, Nat.reduceAdd, Nat.reduceLT, Nat.reduceEqDiff, Nat.zero_add, Nat.add_one_ne_zero, Int.reduceAdd, Int.reduceLE, Int.reduceEq, Int.toNat_natCast, decide_true, decide_false, ne_eq, not_false_eq_true, and_true, true_and, and_self, forall_const, Int.tmod_eq_emod_of_nonneg, wrap_i64, Try.sz4, Try.ag4, Try.underlying76, Nb_len, Ub_len, g1, g2, g3, g4, Int.reduceMod]
        (repeat (refine ⟨by first | omega | (refine ⟨?_, ?_⟩ <;> omega) | trivial | (simp; done) | decide +kernel, fun _ => ?_⟩))
        refine Sat.via (fun i => i) (hz) (by intro i j; (repeat (first | omega | split))) (by repeat' (first | exact EnvVia.nil | refine EnvVia.cons (by first | trivial | decide | (simp [SV.bnd, SV.bndL]; done)) rfl ?_)) (by repeat' (first | exact HeapVia.nil | refine HeapVia.cons (by decide) (by first | trivial | (simp [Blk.bnd, SV.bnd, SV.bndL]; done) | exact bndL_mapV _ _ _ | exact LR.bnd (by rw [l2]; simp [bndE, SV.bnd, SV.bndL]) (by rw [l6]; decide)) (by first | rfl | (simp only [Blk.ren, renL_mapV]; rfl) | (rw [LR.ren (by rw [l2] <;> rfl) (by rw [l6] <;> rfl)]; rfl)) ?_)) ⟨by have := hκ.hm; (try dsimp only at this); (first | done | omega), fun i hi => by have := hκ.hm; (try dsimp only at this); (first | omega | (dsimp only; omega) | (rw [if_neg (by omega)]))⟩ ⟨by simp, rfl⟩
    · simp (disch := omega) only [exec_succ, runR_next, runR_need, runR_stop, stepS, runOp, goS, toSR, sop, sLoadIn, sLoad, sStoreArr, sStore, ev, Env.get, Heap.get, Heap.set, exitTo, OutOK_need, OutOK_stop, undefS, undef, List.size_toArray, List.length_cons, List.length_nil, List.range, List.range.loop, List.getElem?_toArray, List.getElem?_cons_succ, List.getElem?_cons_zero, ↓reduceIte, Nat.reduceAdd, Nat.reduceLT, Nat.reduceEqDiff, Nat.zero_add, Nat.mul_one, Nat.add_one_ne_zero, beq_self_eq_true, ne_eq, not_false_eq_true, true_and, and_self, forall_const, Try.sz76, Try.ag76, Ub_len]
      obtain rfl : k = 256 := by omega
      rw [Ub_full _ (Nat.le_refl _)]
      refine hκ.run 300 ?_
      simp (disch := omega) only [exec_succ, runR_stop, stepS, OutOK_stop, Int.cast_ofNat_Int, Int.reduceLT, decide_false, gl0]
      (repeat (refine ⟨by first | omega | (refine ⟨?_, ?_⟩ <;> omega) | trivial | (simp; done) | decide +kernel, fun _ => ?_⟩))
      refine hκ.ret _ _ _ _ _ _ trivial rfl ?_
      exact .ret trivial
end Go.Proofs.Ytomfpciigaopiaa

/- Whole numbers of 128 bits: a quotient and the rest. No condition. -/
import Derived.Test.YtbjhphjpdeblnaaSc
namespace Go.Proofs.Ytbjhphjpdeblnaa.Sh
open Go Go.Sy
set_option maxRecDepth 100000
set_option linter.unusedSimpArgs false
set_option linter.unusedVariables false

theorem dig_zero (j : Nat) : dig 0 j = 0 := by rw [dig, Nat.zero_div, Nat.zero_mod]
theorem Mx0_bot {Q c : Nat} (h : c < 7) : (Mx 0 Q (c + 1)).set c [U (dig Q c)] = Mx 0 Q c := by
  apply List.ext_getElem (by simp [Mx])
  intro j h1 h2
  rw [List.getElem_set]
  simp only [Mx, List.getElem_map, List.getElem_range]
  by_cases e : c = j
  · subst e; rw [if_pos rfl, if_neg (by omega)]
  · rw [if_neg e]
    by_cases e2 : j < c
    · rw [if_pos e2, if_pos (by omega)]
    · rw [if_neg e2, if_neg (by omega)]
theorem Mx0_top {Q c : Nat} (h : c < 7) : (Mx 0 Q (c + 1)).set c [U 0] = Mx 0 Q (c + 1) := by
  apply List.ext_getElem (by simp [Mx])
  intro j h1 h2
  rw [List.getElem_set]
  simp only [Mx, List.getElem_map, List.getElem_range]
  by_cases e : c = j
  · subst e; rw [if_pos rfl, if_pos (by omega), dig_zero]
  · rw [if_neg e]
/-- A quotient's digits, the last one in the making. -/
def Ro (Q i b : Nat) : List (List SV) := (Mx 0 Q (i + 1)).set i [U (dig Q i / 2 ^ b * 2 ^ b)]
theorem Ro_len (Q i b : Nat) : (Ro Q i b).length = 7 := by rw [Ro, List.length_set, Mx_len]
theorem Ro_top {Q i : Nat} (h : i < 7) : Ro Q i 32 = Mx 0 Q (i + 1) := by
  rw [Ro, show dig Q i / 2 ^ 32 * 2 ^ 32 = 0 by have := dig_lt Q i; omega, Mx0_top h]
theorem Ro_bot {Q i : Nat} (h : i < 7) : Ro Q i 0 = Mx 0 Q i := by
  rw [Ro, Nat.pow_zero, Nat.div_one, Nat.mul_one, Mx0_bot h]
theorem Ro_get {Q i b : Nat} (h : i < 7) : (Ro Q i b).getD i [] = [U (dig Q i / 2 ^ b * 2 ^ b)] := by
  rw [Ro, List.getD, List.getElem?_set_self (by rw [Mx_len]; omega)]; rfl
theorem Ro_set (Q i b : Nat) : (Ro Q i (b + 1)).set i [U (dig Q i / 2 ^ b * 2 ^ b)] = Ro Q i b := by rw [Ro, List.set_set, Ro]
theorem dig_bit {N i b : Nat} (h : b < 32) : dig N i / 2 ^ b % 2 = N / 2 ^ (32 * i + b) % 2 := by
  rw [dig, show 4294967296 = 2 ^ b * 2 ^ (32 - b) by rw [← Nat.pow_add, show b + (32 - b) = 32 by omega], Nat.mod_mul_right_div_self, Nat.mod_mod_of_dvd _ ⟨2 ^ (32 - b - 1), by rw [← Nat.pow_succ']; congr 1; omega⟩, Nat.div_div_eq_div_mul, ← Nat.pow_add]
theorem div_bit (N k : Nat) : N / 2 ^ k = 2 * (N / 2 ^ (k + 1)) + N / 2 ^ k % 2 := by
  rw [Nat.pow_succ, ← Nat.div_div_eq_div_mul]; omega
/-- A bit more: the rest, the quotient's bit. -/
theorem over_rest {N d k : Nat} (h0 : 0 < d) : N / 2 ^ k % d = (if d ≤ 2 * (N / 2 ^ (k + 1) % d) + N / 2 ^ k % 2 then 2 * (N / 2 ^ (k + 1) % d) + N / 2 ^ k % 2 - d else 2 * (N / 2 ^ (k + 1) % d) + N / 2 ^ k % 2) ∧
    N / d / 2 ^ k = 2 * (N / d / 2 ^ (k + 1)) + (if d ≤ 2 * (N / 2 ^ (k + 1) % d) + N / 2 ^ k % 2 then 1 else 0) := by
  have e1 := div_bit N k
  have e2 : N / d / 2 ^ k = N / 2 ^ k / d := by rw [Nat.div_div_eq_div_mul, Nat.mul_comm, ← Nat.div_div_eq_div_mul]
  have e3 : N / d / 2 ^ (k + 1) = N / 2 ^ (k + 1) / d := by rw [Nat.div_div_eq_div_mul, Nat.mul_comm, ← Nat.div_div_eq_div_mul]
  rw [e2, e3]
  have hb : N / 2 ^ k % 2 < 2 := Nat.mod_lt _ (by decide)
  generalize N / 2 ^ k % 2 = β at e1 hb ⊢
  rw [e1]
  generalize N / 2 ^ (k + 1) = M
  have hr := Nat.mod_lt M h0
  have hM := Nat.div_add_mod M d
  generalize M % d = r at hr hM ⊢
  generalize M / d = q at hM ⊢
  subst hM
  have e4 : 2 * (d * q + r) + β = d * (2 * q) + (2 * r + β) := by grind
  rw [e4, Nat.mul_add_mod, Nat.mul_add_div h0]
  split
  · rename_i h
    rw [Nat.mod_eq_sub_mod h, Nat.mod_eq_of_lt (by omega), Nat.div_eq_sub_div h0 h, Nat.div_eq_of_lt (by omega)]
    exact ⟨rfl, by omega⟩
  · rename_i h
    rw [Nat.mod_eq_of_lt (by omega), Nat.div_eq_of_lt (by omega)]
    exact ⟨rfl, rfl⟩
theorem or_pow {y b : Nat} (h : y % 2 = 1) : y / 2 * 2 ^ (b + 1) ||| 2 ^ b = y * 2 ^ b := by
  have e := Nat.two_pow_add_eq_or_of_lt (i := b + 1) (b := 2 ^ b) (Nat.pow_lt_pow_right (by decide) (by omega)) (y / 2)
  rw [Nat.mul_comm (y / 2), ← e, Nat.pow_succ, Nat.mul_right_comm, Nat.mul_assoc]
  have : y = 2 * (y / 2) + 1 := by omega
  conv => rhs; rw [this]
  generalize y / 2 = z
  generalize 2 ^ b = p
  grind
theorem or_bit {a β : Nat} (h : β < 2) : a * 2 ||| β = a * 2 + β := by
  have e := Nat.two_pow_add_eq_or_of_lt (i := 1) (b := β) (by omega) a
  rw [Nat.pow_one] at e; rw [Nat.mul_comm a]; exact e.symm
/-- A round of the loop that divides. -/
theorem over_step {N d i b r : Nat} (hi : i < 7) (hb : b < 32) (h0 : 0 < d) (hd : d < 2 ^ 64) (hr : r = N / 2 ^ (32 * i + (b + 1)) % d) :
    ∃ x y β s v r' : Nat, (Qd N).getD i [] = [U x] ∧ (x : Int).fdiv (2 ^ b) = (y : Int) ∧ ibits .and .u64 (y : Int) 1 = (β : Int) ∧ IntKind.u64.wrap ((r : Int) * 2) = (s : Int) ∧ ibits .or .u64 (s : Int) (β : Int) = (v : Int) ∧
      r' = N / 2 ^ (32 * i + b) % d ∧
      (((r : Int) / 9223372036854775808 = 1 ∨ (d : Int) ≤ v) ∧ IntKind.u64.wrap ((v : Int) - (d : Int)) = (r' : Int) ∧ ibits .or .u64 ((dig (N / d) i / 2 ^ (b + 1) * 2 ^ (b + 1) : Nat) : Int) ((2 ^ b : Nat) : Int) = ((dig (N / d) i / 2 ^ b * 2 ^ b : Nat) : Int) ∨
        ¬ (r : Int) / 9223372036854775808 = 1 ∧ ¬ (d : Int) ≤ v ∧ v = r' ∧ Ro (N / d) i (b + 1) = Ro (N / d) i b) := by
  have hx := dig_lt N i
  have hy : dig N i / 2 ^ b ≤ dig N i := Nat.div_le_self _ _
  have hβ : dig N i / 2 ^ b % 2 < 2 := Nat.mod_lt _ (by decide)
  have hrd : r < d := by rw [hr]; exact Nat.mod_lt _ h0
  obtain ⟨e1, e2⟩ := over_rest (N := N) (k := 32 * i + b) h0
  rw [← dig_bit hb, show 32 * i + b + 1 = 32 * i + (b + 1) by omega, ← hr] at e1 e2
  have e3 := dig_bit (N := N / d) (i := i) hb
  refine ⟨dig N i, dig N i / 2 ^ b, dig N i / 2 ^ b % 2, 2 * r % 18446744073709551616, 2 * r % 18446744073709551616 + dig N i / 2 ^ b % 2, N / 2 ^ (32 * i + b) % d, Qd_get hi, by rw [Int.fdiv_eq_ediv_of_nonneg _ (Int.pow_nonneg (by decide))]; norm_cast, ?_, ?_, ?_, rfl, ?_⟩
  · have := and64 (a := dig N i / 2 ^ b) (b := 1) (by omega) (by decide)
    rw [Nat.and_one_is_mod] at this
    exact this
  · rw [wrap_u64_mod]; omega
  · rw [or64 (by omega) (by omega), show 2 * r % 18446744073709551616 = (r % 9223372036854775808) * 2 by omega, or_bit hβ]
  generalize dig N i / 2 ^ b % 2 = β at *
  by_cases hc : d ≤ 2 * r + β
  · rw [if_pos hc] at e1 e2
    refine .inl ⟨by omega, ?_, ?_⟩
    · rw [wrap_u64_mod, e1]; omega
    · have hq : dig (N / d) i / 2 ^ b % 2 = 1 := by rw [e3, e2]; omega
      have hl := dig_lt (N / d) i
      have h1 : dig (N / d) i / 2 ^ (b + 1) * 2 ^ (b + 1) ≤ dig (N / d) i := Nat.div_mul_le_self _ _
      have h2 : 2 ^ b < 2 ^ 32 := Nat.pow_lt_pow_right (by decide) hb
      rw [or64 (by omega) (by omega), Nat.pow_succ 2 b, ← Nat.div_div_eq_div_mul, ← Nat.pow_succ, or_pow hq]
  · rw [if_neg hc] at e1 e2
    refine .inr ⟨by omega, by omega, by omega, ?_⟩
    have hq : dig (N / d) i / 2 ^ b % 2 = 0 := by rw [e3, e2]; omega
    rw [Ro, Ro, show dig (N / d) i / 2 ^ (b + 1) * 2 ^ (b + 1) = dig (N / d) i / 2 ^ b * 2 ^ b by
      rw [Nat.pow_succ, ← Nat.div_div_eq_div_mul, Nat.mul_comm (2 ^ b) 2, ← Nat.mul_assoc, Nat.div_mul_cancel (Nat.dvd_of_mod_eq_zero hq)]]
set_option maxHeartbeats 4000000 in
theorem over_ok (N d : Nat) (hN : N < 2 ^ 224) (h0 : 0 < d) (hd : d < 2 ^ 64) : Con Try.prog gl0 (fnv 91) [.arr 1 (Qd N), U d] 0 [] (Ret (.tup [.arr 1 (Qd (N / d)), U (N % d)])) := by
  refine Con.of Try.ok91 (nt := 49) (res := [.cell 4 127, .tmp 5]) Try.mixed Try.func91 rfl rfl rfl rfl fun κ xc hκ => hκ.run 300 ?_
  simp (disch := omega) only [sBoxA, exec_succ, runR_next, runR_need, runR_stop, stepS, runOp, toSR, sop, rOf, rNew, sAlloc, sBox, isArr, ev, svs, Env.get, envOf, OutOK_need, OutOK_stop, List.size_toArray, List.length_cons, List.length_nil, List.range, List.range.loop, List.getElem?_toArray, List.getElem?_cons_succ, List.getElem?_cons_zero, List.map_cons, List.map_nil, ↓reduceIte, Nat.reduceAdd, Nat.reduceLT, Nat.zero_add, true_and, forall_const, gl0, Try.ar127, Qd_len]
  have ez : List.replicate 7 [SV.v (.int .u64 0)] = Mx 0 (N / d) 7 := by
    exact ((Mx_full 0 (N / d) (Nat.le_refl 7)).trans Qd_zero).symm
  rw [ez]
  refine Sat.less (Sat.loop (γ := Int × Nat) (fun k => ([(8, I k.1), (7, U k.2), (6, .ptr 2 0 0 0), (4, .ptr 1 0 0 0), (2, .ptr 0 0 0 0), (1, U d)], [(2, .row 1 7 127 (Mx 0 (N / d) (k.1 + 1).toNat)), (1, .row 1 7 127 (Mx 0 (N / d) 7)), (0, .row 1 7 127 (Qd N))], 3)) (fun k => (k.1 + 1).toNat) (fun k => -1 ≤ k.1 ∧ k.1 ≤ 6 ∧ k.2 = N / 2 ^ (32 * (k.1 + 1).toNat) % d) ?rnd1 (6, 0) ⟨by decide, by decide, ?start⟩) (by repeat' (first | exact EnvSub.nil _ | exact HeapSub.nil _ | refine EnvSub.cons rfl ?_ | refine HeapSub.cons rfl ?_ | (refine EnvSub.cons (by simp [Env.get]; done) ?_) | (refine HeapSub.cons (by simp [Heap.get]; done) ?_))) (by repeat' (first | exact EnvSub.nil _ | exact HeapSub.nil _ | refine EnvSub.cons rfl ?_ | refine HeapSub.cons rfl ?_ | (refine EnvSub.cons (by simp [Env.get]; done) ?_) | (refine HeapSub.cons (by simp [Heap.get]; done) ?_)))
  case start =>
    rw [show (32 * ((6 : Int) + 1).toNat) = 224 by decide, Nat.div_eq_of_lt hN, Nat.zero_mod]
  case rnd1 =>
    rintro ⟨i, r⟩ ⟨i1, i2, hr⟩ ih
    dsimp only at i1 i2 hr ih ⊢
    refine hκ.run 300 ?_
    simp (disch := omega) only [exec_succ, runR_next, stepS, runOp, condS, toSR, sop, rOf, sInt, sBin, ev, Env.get, List.size_toArray, List.length_cons, List.length_nil, List.range, List.range.loop, List.getElem?_toArray, List.getElem?_cons_succ, List.getElem?_cons_zero, ↓reduceIte, Nat.reduceAdd, Nat.reduceLT, Nat.zero_add, gl0]
    refine OutOK_fork (fun h => ?_) (fun h => ?_) <;> try simp only [Bool.not_true, Bool.not_false, decide_eq_true_eq, decide_eq_false_iff_not, Bool.not_eq_true', Bool.not_eq_false', Bool.and_eq_true, Bool.or_eq_false_iff, Bool.or_eq_true, Bool.and_eq_false_iff] at h
    · obtain ⟨i, rfl⟩ : ∃ j : Nat, i = j := ⟨i.toNat, by omega⟩
      simp (disch := omega) only [exec_succ, runR_next, runR_stop, stepS, runOp, toSR, sop, rOf, ev, OutOK_stop, List.size_toArray, List.length_cons, List.length_nil, List.range, List.range.loop, List.getElem?_toArray, List.getElem?_cons_zero, ↓reduceIte, Nat.reduceLT, Nat.zero_add]
      have hi : i < 7 := by omega
      have et : ((i : Int) + 1).toNat = i + 1 := by omega
      rw [et, ← Ro_top hi]
      rw [et] at hr
      refine Sat.less (Sat.loop (γ := Int × Nat) (fun k => ([(9, I k.1), (7, U k.2), (8, I i), (6, .ptr 2 0 0 0), (4, .ptr 1 0 0 0), (2, .ptr 0 0 0 0), (1, U d)], [(2, .row 1 7 127 (Ro (N / d) i (k.1 + 1).toNat)), (1, .row 1 7 127 (Mx 0 (N / d) 7)), (0, .row 1 7 127 (Qd N))], 3)) (fun k => (k.1 + 1).toNat) (fun k => -1 ≤ k.1 ∧ k.1 ≤ 31 ∧ k.2 = N / 2 ^ (32 * i + (k.1 + 1).toNat) % d) ?rnd2 (31, r) ⟨by dsimp only; omega, by dsimp only; omega, ?start2⟩) (by repeat' (first | exact EnvSub.nil _ | exact HeapSub.nil _ | refine EnvSub.cons rfl ?_ | refine HeapSub.cons rfl ?_ | (refine EnvSub.cons (by simp [Env.get]; done) ?_) | (refine HeapSub.cons (by simp [Heap.get]; done) ?_))) (by repeat' (first | exact EnvSub.nil _ | exact HeapSub.nil _ | refine EnvSub.cons rfl ?_ | refine HeapSub.cons rfl ?_ | (refine EnvSub.cons (by simp [Env.get]; done) ?_) | (refine HeapSub.cons (by simp [Heap.get]; done) ?_)))
      case start2 =>
        rw [hr, show 32 * (i + 1) = 32 * i + ((31 : Int) + 1).toNat by omega]
      case rnd2 =>
        rintro ⟨b, r⟩ ⟨b1, b2, hr⟩ ih2
        dsimp only at b1 b2 hr ih2 ⊢
        refine hκ.run 300 ?_
        simp (disch := omega) only [exec_succ, runR_next, stepS, runOp, condS, toSR, sop, rOf, sInt, sBin, ev, Env.get, List.size_toArray, List.length_cons, List.length_nil, List.range, List.range.loop, List.getElem?_toArray, List.getElem?_cons_succ, List.getElem?_cons_zero, ↓reduceIte, Nat.reduceAdd, Nat.reduceLT, Nat.zero_add, gl0]
        refine OutOK_fork (fun h => ?_) (fun h => ?_) <;> try simp only [Bool.not_true, Bool.not_false, decide_eq_true_eq, decide_eq_false_iff_not, Bool.not_eq_true', Bool.not_eq_false', Bool.and_eq_true, Bool.or_eq_false_iff, Bool.or_eq_true, Bool.and_eq_false_iff] at h
        · obtain ⟨b, rfl⟩ : ∃ j : Nat, b = j := ⟨b.toNat, by omega⟩
          have eb : ((b : Int) + 1).toNat = b + 1 := by omega
          rw [eb] at hr ⊢
          simp (disch := omega) only [exec_succ, runR_next, runR_need, stepS, runOp, toSR, sop, rOf, sLoadIn, sLoad, sInt, sBin, sIndexAddr, elemT, obind, ev, Env.get, Heap.get, cut, aggOf, OutOK_need, Int.cast_ofNat_Int, List.size_toArray, List.length_cons, List.length_nil, List.range, List.range.loop, List.getElem?_toArray, List.getElem?_cons_succ, List.getElem?_cons_zero, ↓reduceIte, Nat.reduceAdd, Nat.reduceLT, Nat.reduceEqDiff, Nat.zero_add, Nat.add_one_ne_zero, Int.reduceToNat, Int.reduceLE, Int.toNat_natCast, true_and, forall_const, shAmt_of, IntKind.bits, Int.reducePow, Int.fdiv_eq_ediv_of_nonneg, Try.sz81, Try.ag81, Try.underlying127, Qd_len]
          obtain ⟨x, y, β, s, v, r', c1, c2, c3, c4, c5, c6, c7⟩ := over_step hi (show b < 32 by omega) h0 hd hr
          have hz := ih2 ((b : Int) - 1, r') ⟨by dsimp only; omega, by dsimp only; omega, by dsimp only; rw [c6, show ((b : Int) - 1 + 1).toNat = b by omega]⟩ (by dsimp only; omega)
          dsimp only at hz
          rw [show ((b : Int) - 1 + 1).toNat = b by omega] at hz
          rcases c7 with ⟨c7, c8, c9⟩ | ⟨c7, c8, c9, c10⟩
          · have g1 := Ro_get (Q := N / d) (b := b + 1) hi
            have g2 := Ro_set (N / d) i b
            have g3 : IntKind.u64.wrap ((2 : Int) ^ b) = ((2 ^ b : Nat) : Int) := by
              have h2 : 2 ^ b < 2 ^ 32 := Nat.pow_lt_pow_right (by decide) (show b < 32 by omega)
              have : ((2 : Int) ^ b) = ((2 ^ b : Nat) : Int) := by norm_cast
              rw [this]
              generalize 2 ^ b = p at h2 ⊢
              exact wrap_u64 (by omega) (by omega)
            by_cases ht : (r : Int) / 9223372036854775808 = 1
            · skip
              simp (disch := omega) only [allQuiet, quietOp, drawS, exec_succ, runR_next, runR_need, runR_fork_true, runR_guard_tf, runR_stop, stepS, runOp, guardS, condS, toSR, sop, rOf, sPick, sInt, sBin, ev, Env.get, takeN, OutOK_need, OutOK_stop, Option.isNone_none, undefS, undef, Bool.and_true, Bool.and_false, List.size_toArray, List.length_cons, List.length_nil, List.range, List.range.loop, List.getElem?_toArray, List.getElem?_cons_succ, List.getElem?_cons_zero, Option.bind_some, ↓reduceIte, Nat.reduceAdd, Nat.reduceLT, Nat.reduceEqDiff, Nat.zero_add, Int.toNat_natCast, Bool.not_false, decide_true, and_self, shAmt_of, IntKind.bits, c1, c2, c3, c4, c5, ht, c8]
              (repeat (refine ⟨by first | omega | (refine ⟨?_, ?_⟩ <;> omega) | trivial | (simp; done) | decide +kernel, fun _ => ?_⟩))
              refine hκ.draw (.q 0 (.q 1 (.q 2 (.q 3 (.q 4 (.q 5 (.q 6 (.l 7 [] (.fin))))))))) [0, 1, 2, 3, 4, 5, 6] (by kernel_rfl) (by kernel_rfl) rfl ?_
              simp (disch := omega) only [sop, rOf, sLoadIn, sLoad, sStoreIn, sStore, sInt, sBin, sIndexAddr, elemT, obind, ev, svs, Env.get, Heap.get, Heap.set, takeN, cut, over, paste, aggOf, cellsS, one, ones, idFree, idFrees, setO, Value.cells, Value.oneCell', drawP_fin, drawP_q, drawP_l, dnext, dq, dqn, dl, guardP, R1Q, dstOK, loudP, again, R1OK, undefS, undef, Int.cast_ofNat_Int, Bool.and_true, List.length_cons, List.length_nil, List.getElem?_toArray, List.getElem?_cons_succ, List.getElem?_cons_zero, List.map_cons, List.map_nil, List.toList_toArray, ↓reduceIte, Nat.reduceLT, Nat.reduceEqDiff, Nat.zero_add, Int.toNat_natCast, and_true, true_and, and_self, shAmt_of, IntKind.bits, gl0, Try.sz81, Try.ag81, Try.underlying127, Ro_len, c9, g1, g2, g3, Int.one_mul]
              (repeat (refine ⟨by first | omega | (refine ⟨?_, ?_⟩ <;> omega) | trivial | (simp; done) | decide +kernel, fun _ => ?_⟩))
              refine hκ.run 300 ?_
              simp (disch := omega) only [exec_succ, runR_next, runR_stop, stepS, runOp, toSR, sop, rOf, sInt, sBin, ev, Env.get, OutOK_stop, List.size_toArray, List.length_cons, List.length_nil, List.range, List.range.loop, List.getElem?_toArray, List.getElem?_cons_succ, List.getElem?_cons_zero, ↓reduceIte, Nat.reduceAdd, Nat.reduceLT, Nat.reduceEqDiff, Nat.zero_add, wrap_i64, gl0]
              refine Sat.via (fun i => i) (hz) (by intro i j; (repeat (first | omega | split))) (by repeat' (first | exact EnvVia.nil | refine EnvVia.cons (by first | trivial | decide | (simp [SV.bnd, SV.bndL]; done)) rfl ?_)) (by repeat' (first | exact HeapVia.nil | refine HeapVia.cons (by decide) (by first | trivial | (simp [Blk.bnd, SV.bnd, SV.bndL]; done) | exact bndL_mapV _ _ _ | exact LR.bnd (by rw [l2]; simp [bndE, SV.bnd, SV.bndL]) (by rw [l6]; decide)) (by first | rfl | (simp only [Blk.ren, renL_mapV]; rfl) | (rw [LR.ren (by rw [l2] <;> rfl) (by rw [l6] <;> rfl)]; rfl)) ?_)) ⟨by have := hκ.hm; (try dsimp only at this); (first | done | omega), fun i hi => by have := hκ.hm; (try dsimp only at this); (first | omega | (dsimp only; omega) | (rw [if_neg (by omega)]))⟩ ⟨by simp, rfl⟩
            · have c7 := c7.resolve_left ht
              simp (disch := omega) only [allQuiet, quietOp, drawS, exec_succ, runR_next, runR_need, runR_fork_true, runR_guard_ff, runR_stop, stepS, runOp, guardS, condS, toSR, sop, rOf, sPick, sInt, sBin, ev, Env.get, takeN, OutOK_need, OutOK_stop, Option.isNone_none, undefS, undef, Bool.and_true, Bool.and_false, List.size_toArray, List.length_cons, List.length_nil, List.range, List.range.loop, List.getElem?_toArray, List.getElem?_cons_succ, List.getElem?_cons_zero, Option.bind_some, ↓reduceIte, Nat.reduceAdd, Nat.reduceLT, Nat.reduceEqDiff, Nat.zero_add, Int.toNat_natCast, Bool.not_false, decide_true, decide_false, and_self, shAmt_of, IntKind.bits, c1, c2, c3, c4, c5, ht, c7, c8]
              (repeat (refine ⟨by first | omega | (refine ⟨?_, ?_⟩ <;> omega) | trivial | (simp; done) | decide +kernel, fun _ => ?_⟩))
              refine hκ.draw (.q 0 (.q 1 (.q 2 (.q 3 (.q 4 (.q 5 (.q 6 (.l 7 [] (.fin))))))))) [0, 1, 2, 3, 4, 5, 6] (by kernel_rfl) (by kernel_rfl) rfl ?_
              simp (disch := omega) only [sop, rOf, sLoadIn, sLoad, sStoreIn, sStore, sInt, sBin, sIndexAddr, elemT, obind, ev, svs, Env.get, Heap.get, Heap.set, takeN, cut, over, paste, aggOf, cellsS, one, ones, idFree, idFrees, setO, Value.cells, Value.oneCell', drawP_fin, drawP_q, drawP_l, dnext, dq, dqn, dl, guardP, R1Q, dstOK, loudP, again, R1OK, undefS, undef, Int.cast_ofNat_Int, Bool.and_true, List.length_cons, List.length_nil, List.getElem?_toArray, List.getElem?_cons_succ, List.getElem?_cons_zero, List.map_cons, List.map_nil, List.toList_toArray, ↓reduceIte, Nat.reduceLT, Nat.reduceEqDiff, Nat.zero_add, Int.toNat_natCast, and_true, true_and, and_self, shAmt_of, IntKind.bits, gl0, Try.sz81, Try.ag81, Try.underlying127, Ro_len, c9, g1, g2, g3, Int.one_mul]
              (repeat (refine ⟨by first | omega | (refine ⟨?_, ?_⟩ <;> omega) | trivial | (simp; done) | decide +kernel, fun _ => ?_⟩))
              refine hκ.run 300 ?_
              simp (disch := omega) only [exec_succ, runR_next, runR_stop, stepS, runOp, toSR, sop, rOf, sInt, sBin, ev, Env.get, OutOK_stop, List.size_toArray, List.length_cons, List.length_nil, List.range, List.range.loop, List.getElem?_toArray, List.getElem?_cons_succ, List.getElem?_cons_zero, ↓reduceIte, Nat.reduceAdd, Nat.reduceLT, Nat.reduceEqDiff, Nat.zero_add, wrap_i64, gl0]
              refine Sat.via (fun i => i) (hz) (by intro i j; (repeat (first | omega | split))) (by repeat' (first | exact EnvVia.nil | refine EnvVia.cons (by first | trivial | decide | (simp [SV.bnd, SV.bndL]; done)) rfl ?_)) (by repeat' (first | exact HeapVia.nil | refine HeapVia.cons (by decide) (by first | trivial | (simp [Blk.bnd, SV.bnd, SV.bndL]; done) | exact bndL_mapV _ _ _ | exact LR.bnd (by rw [l2]; simp [bndE, SV.bnd, SV.bndL]) (by rw [l6]; decide)) (by first | rfl | (simp only [Blk.ren, renL_mapV]; rfl) | (rw [LR.ren (by rw [l2] <;> rfl) (by rw [l6] <;> rfl)]; rfl)) ?_)) ⟨by have := hκ.hm; (try dsimp only at this); (first | done | omega), fun i hi => by have := hκ.hm; (try dsimp only at this); (first | omega | (dsimp only; omega) | (rw [if_neg (by omega)]))⟩ ⟨by simp, rfl⟩
          · subst c9
            rw [← c10] at hz
            simp (disch := omega) only [exec_succ, runR_next, runR_need, runR_fork_false, runR_guard_ff, runR_stop, stepS, runOp, guardS, condS, toSR, sop, rOf, sPick, sInt, sBin, ev, Env.get, takeN, OutOK_need, OutOK_stop, undefS, undef, List.size_toArray, List.length_cons, List.length_nil, List.range, List.range.loop, List.getElem?_toArray, List.getElem?_cons_succ, List.getElem?_cons_zero, Option.bind_some, ↓reduceIte, Nat.reduceAdd, Nat.reduceLT, Nat.reduceEqDiff, Nat.zero_add, Int.toNat_natCast, Bool.not_false, decide_false, and_self, shAmt_of, IntKind.bits, wrap_i64, c1, c2, c3, c4, c5, c7, c8]
            (repeat (refine ⟨by first | omega | (refine ⟨?_, ?_⟩ <;> omega) | trivial | (simp; done) | decide +kernel, fun _ => ?_⟩))
            refine Sat.via (fun i => i) (hz) (by intro i j; (repeat (first | omega | split))) (by repeat' (first | exact EnvVia.nil | refine EnvVia.cons (by first | trivial | decide | (simp [SV.bnd, SV.bndL]; done)) rfl ?_)) (by repeat' (first | exact HeapVia.nil | refine HeapVia.cons (by decide) (by first | trivial | (simp [Blk.bnd, SV.bnd, SV.bndL]; done) | exact bndL_mapV _ _ _ | exact LR.bnd (by rw [l2]; simp [bndE, SV.bnd, SV.bndL]) (by rw [l6]; decide)) (by first | rfl | (simp only [Blk.ren, renL_mapV]; rfl) | (rw [LR.ren (by rw [l2] <;> rfl) (by rw [l6] <;> rfl)]; rfl)) ?_)) ⟨by have := hκ.hm; (try dsimp only at this); (first | done | omega), fun i hi => by have := hκ.hm; (try dsimp only at this); (first | omega | (dsimp only; omega) | (rw [if_neg (by omega)]))⟩ ⟨by simp, rfl⟩
        · simp (disch := omega) only [exec_succ, runR_next, runR_stop, stepS, runOp, goS, toSR, sop, rOf, sInt, sBin, ev, Env.get, exitTo, OutOK_stop, List.size_toArray, List.length_cons, List.length_nil, List.range, List.range.loop, List.getElem?_toArray, List.getElem?_cons_succ, List.getElem?_cons_zero, ↓reduceIte, Nat.reduceAdd, Nat.reduceLT, Nat.reduceEqDiff, Nat.zero_add, beq_self_eq_true, wrap_i64]
          obtain rfl : b = -1 := by omega
          have hz := ih ((i : Int) - 1, r) ⟨by dsimp only; omega, by dsimp only; omega, by dsimp only; rw [hr, show ((i : Int) - 1 + 1).toNat = i by omega]; rfl⟩ (by dsimp only; omega)
          dsimp only at hz
          rw [show ((i : Int) - 1 + 1).toNat = i by omega, ← Ro_bot hi] at hz
          (repeat (refine ⟨by first | omega | (refine ⟨?_, ?_⟩ <;> omega) | trivial | (simp; done) | decide +kernel, fun _ => ?_⟩))
          refine Sat.via (fun i => i) (hz) (by intro i j; (repeat (first | omega | split))) (by repeat' (first | exact EnvVia.nil | refine EnvVia.cons (by first | trivial | decide | (simp [SV.bnd, SV.bndL]; done)) rfl ?_)) (by repeat' (first | exact HeapVia.nil | refine HeapVia.cons (by decide) (by first | trivial | (simp [Blk.bnd, SV.bnd, SV.bndL]; done) | exact bndL_mapV _ _ _ | exact LR.bnd (by rw [l2]; simp [bndE, SV.bnd, SV.bndL]) (by rw [l6]; decide)) (by first | rfl | (simp only [Blk.ren, renL_mapV]; rfl) | (rw [LR.ren (by rw [l2] <;> rfl) (by rw [l6] <;> rfl)]; rfl)) ?_)) ⟨by have := hκ.hm; (try dsimp only at this); (first | done | omega), fun i hi => by have := hκ.hm; (try dsimp only at this); (first | omega | (dsimp only; omega) | (rw [if_neg (by omega)]))⟩ ⟨by simp, rfl⟩
    · simp (disch := omega) only [exec_succ, runR_next, runR_need, runR_stop, stepS, runOp, goS, toSR, sop, rOf, sLoadIn, sLoad, sStoreArr, sStore, ev, Env.get, Heap.get, Heap.set, exitTo, OutOK_need, OutOK_stop, undefS, undef, List.size_toArray, List.length_cons, List.length_nil, List.range, List.range.loop, List.getElem?_toArray, List.getElem?_cons_succ, List.getElem?_cons_zero, ↓reduceIte, Nat.reduceAdd, Nat.reduceLT, Nat.reduceEqDiff, Nat.zero_add, Nat.mul_one, Nat.add_one_ne_zero, beq_self_eq_true, ne_eq, not_false_eq_true, true_and, and_self, forall_const, Try.sz127, Try.ag127, Mx_len]
      obtain rfl : i = -1 := by omega
      rw [show ((-1 : Int) + 1).toNat = 0 by decide, Nat.mul_zero, Nat.pow_zero, Nat.div_one] at hr
      subst hr
      rw [show Mx 0 (N / d) ((-1 : Int) + 1).toNat = Qd (N / d) from Mx_zero 0 (N / d)]
      refine hκ.run 300 ?_
      simp (disch := omega) only [exec_succ, runR_stop, stepS, OutOK_stop, Int.reduceLE, Int.reduceNeg, decide_false, gl0]
      refine hκ.ret _ _ _ _ _ _ trivial rfl ?_
      exact .ret (by simp [SV.bnd, SV.bndL])
end Go.Proofs.Ytbjhphjpdeblnaa.Sh

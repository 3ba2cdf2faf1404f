/- Rows of numbers that are the same. No condition. -/
import Derived.Test.YtmieikflcolbaaaEa
namespace Go.Proofs.Ytmieikflcolbaaa
open Go Go.Sy
set_option maxRecDepth 100000
set_option linter.unusedSimpArgs false
set_option linter.unusedVariables false
abbrev Ev (a : Evt) : SV := .agg (ec a)
def flatB (a b : Evt) : Bool := (((((((((((decide (a.1 0 = b.1 0) && decide (a.1 28 = b.1 28)) && decide (a.1 1 = b.1 1)) && decide (a.1 2 = b.1 2)) && decide (a.1 3 = b.1 3)) && decide (a.1 4 = b.1 4)) && (decide (a.1 5 = 1) == decide (b.1 5 = 1))) && decide (a.1 7 = b.1 7)) && decide (a.1 8 = b.1 8)) && (decide (a.1 9 = b.1 9) && (decide (a.1 10 = b.1 10) && (decide (a.1 11 = b.1 11) && decide (a.1 12 = b.1 12))))) && (decide (a.1 13 = b.1 13) && decide (a.1 14 = b.1 14))) && decide (a.2.1 = b.2.1))
def liveB (a b : Evt) : Bool := ((((((((((decide (a.1 15 = b.1 15) && decide (a.1 16 = b.1 16)) && decide (a.1 17 = b.1 17)) && decide (a.1 18 = b.1 18)) && decide (a.1 19 = b.1 19)) && decide (a.1 20 = b.1 20)) && decide (a.1 21 = b.1 21)) && decide (a.1 22 = b.1 22)) && decide (a.1 23 = b.1 23)) && (decide (a.1 24 = b.1 24) && decide (a.1 25 = b.1 25))) && decide (a.1 26 = b.1 26))
def sameE (a b : Evt) : Bool := flatB a b && liveB a b && decide (a.2.2 = b.2.2)
def cE (a : Evt) : List SV := [I (a.1 1), I (a.1 2), I (a.1 3), I (a.1 4), Bo (decide (a.1 5 = 1)), Is a.2.1, I (a.1 7), I (a.1 8), I (a.1 9), I (a.1 10), I (a.1 11), I (a.1 12), U (a.1 13), U (a.1 14)]
def hE (a : Evt) : List SV := [I (a.1 15), I (a.1 16), I (a.1 17), I (a.1 18), I (a.1 19), I (a.1 20), I (a.1 21), I (a.1 22), I (a.1 23), U (a.1 24), U (a.1 25), U (a.1 26), Is a.2.2]
theorem take_eq_succ' {α : Type} [Inhabited α] {us bs : List α} {k : Nat} (ha : k < us.length) (hb : k < bs.length) (h : us.take k = bs.take k) (e : us.getD k default = bs.getD k default) : us.take (k + 1) = bs.take (k + 1) := by
  rw [List.take_succ_eq_append_getElem ha, List.take_succ_eq_append_getElem hb, h]
  simp only [List.getD, List.getElem?_eq_getElem ha, List.getElem?_eq_getElem hb, Option.getD_some] at e
  rw [e]
theorem sameInts_ok (us bs : List Int) (hn : us.length < 2 ^ 62) : Con Try.prog gl0 (fnv 33) [Is us, Is bs] 0 [] (Ret (Bo (decide (us = bs)))) := by
  refine Con.of Try.ok33 (nt := 26) (res := [.tmp 4]) Try.mixed Try.func33 rfl rfl rfl rfl fun κ xc hκ => hκ.run 300 ?_
  simp (disch := omega) only [push_cast, simprocAttr]
  refine OutOK_fork (fun h => ?_) (fun h => ?_) <;> try simp only [Bool.not_true, Bool.not_false, decide_eq_true_eq, decide_eq_false_iff_not, Bool.not_eq_true', Bool.not_eq_false', Bool.and_eq_true, Bool.or_eq_false_iff, Bool.or_eq_true, Bool.and_eq_false_iff] at h
  · simp (disch := omega) only [push_cast, simprocAttr]
    refine hκ.ret _ _ _ _ _ _ trivial rfl ?_
    have : ¬ us = bs := by rintro rfl; exact h rfl
    simp only [this, decide_false]
    exact .ret trivial
  · simp (disch := omega) only [push_cast, simprocAttr]
    have hlen : us.length = bs.length := by omega
    refine Sat.less (Sat.loop (γ := Nat) (fun k => ([(13, I k), (12, I us.length), (11, Is us), (0, Is us), (1, Is bs)], [], 0)) (fun k => us.length - k)
      (fun k => k ≤ us.length ∧ us.take k = bs.take k) ?round 0 ⟨by omega, by simp⟩) (by repeat' (first | exact EnvSub.nil _ | exact HeapSub.nil _ | refine EnvSub.cons rfl ?_ | refine HeapSub.cons rfl ?_ | (refine EnvSub.cons (by simp [Env.get]; done) ?_) | (refine HeapSub.cons (by simp [Heap.get]; done) ?_))) (by repeat' (first | exact EnvSub.nil _ | exact HeapSub.nil _ | refine EnvSub.cons rfl ?_ | refine HeapSub.cons rfl ?_ | (refine EnvSub.cons (by simp [Env.get]; done) ?_) | (refine HeapSub.cons (by simp [Heap.get]; done) ?_)))
    case round =>
      rintro k ⟨hk, hl⟩ ih
      refine hκ.run 300 ?_
      simp (disch := omega) only [push_cast, simprocAttr]
      refine OutOK_fork (fun h => ?_) (fun h => ?_) <;> try simp only [Bool.not_true, Bool.not_false, decide_eq_true_eq, decide_eq_false_iff_not, Bool.not_eq_true', Bool.not_eq_false', Bool.and_eq_true, Bool.or_eq_false_iff, Bool.or_eq_true, Bool.and_eq_false_iff] at h
      · simp (disch := omega) only [push_cast, simprocAttr]
        (repeat (refine ⟨by first | omega | (refine ⟨?_, ?_⟩ <;> omega) | trivial | (simp; done) | decide +kernel, fun _ => ?_⟩))
        refine OutOK_fork (fun h => ?_) (fun h => ?_) <;> try simp only [Bool.not_true, Bool.not_false, decide_eq_true_eq, decide_eq_false_iff_not, Bool.not_eq_true', Bool.not_eq_false', Bool.and_eq_true, Bool.or_eq_false_iff, Bool.or_eq_true, Bool.and_eq_false_iff] at h
        · simp (disch := omega) only [push_cast, simprocAttr]
          refine hκ.ret _ _ _ _ _ _ trivial rfl ?_
          have : ¬ us = bs := by rintro rfl; exact h rfl
          simp only [this, decide_false]
          exact .ret trivial
        · simp (disch := omega) only [push_cast, simprocAttr]
          exact (ih (k + 1) ⟨by omega, take_eq_succ' (by omega) (by omega) hl h⟩ (by omega)).less (by repeat' (first | exact EnvSub.nil _ | exact HeapSub.nil _ | refine EnvSub.cons rfl ?_ | refine HeapSub.cons rfl ?_ | (refine EnvSub.cons (by simp [Env.get]; done) ?_) | (refine HeapSub.cons (by simp [Heap.get]; done) ?_))) (by repeat' (first | exact EnvSub.nil _ | exact HeapSub.nil _ | refine EnvSub.cons rfl ?_ | refine HeapSub.cons rfl ?_ | (refine EnvSub.cons (by simp [Env.get]; done) ?_) | (refine HeapSub.cons (by simp [Heap.get]; done) ?_)))
      · simp (disch := omega) only [push_cast, simprocAttr]
        obtain rfl : k = us.length := by omega
        refine hκ.ret _ _ _ _ _ _ trivial rfl ?_
        have : us = bs := by
          rw [List.take_length] at hl
          rw [hl, List.take_of_length_le (by omega)]
        simp only [this, decide_true]
        exact .ret trivial
theorem equal_ok (us bs : List Int) (hn : us.length < 2 ^ 62) : Con Try.prog gl0 (fnv 35) [Is us, Is bs] 0 [] (Ret (Bo (decide (us = bs)))) := by
  refine Con.of Try.ok35 (nt := 26) (res := [.tmp 4]) Try.mixed Try.func35 rfl rfl rfl rfl fun κ xc hκ => hκ.run 300 ?_
  simp (disch := omega) only [push_cast, simprocAttr]
  refine OutOK_fork (fun h => ?_) (fun h => ?_) <;> try simp only [Bool.not_true, Bool.not_false, decide_eq_true_eq, decide_eq_false_iff_not, Bool.not_eq_true', Bool.not_eq_false', Bool.and_eq_true, Bool.or_eq_false_iff, Bool.or_eq_true, Bool.and_eq_false_iff] at h
  · simp (disch := omega) only [push_cast, simprocAttr]
    refine hκ.ret _ _ _ _ _ _ trivial rfl ?_
    have : ¬ us = bs := by rintro rfl; exact h rfl
    simp only [this, decide_false]
    exact .ret trivial
  · simp (disch := omega) only [push_cast, simprocAttr]
    have hlen : us.length = bs.length := by omega
    refine Sat.less (Sat.loop (γ := Nat) (fun k => ([(13, I k), (12, I us.length), (0, Is us), (1, Is bs)], [], 0)) (fun k => us.length - k)
      (fun k => k ≤ us.length ∧ us.take k = bs.take k) ?round 0 ⟨by omega, by simp⟩) (by repeat' (first | exact EnvSub.nil _ | exact HeapSub.nil _ | refine EnvSub.cons rfl ?_ | refine HeapSub.cons rfl ?_ | (refine EnvSub.cons (by simp [Env.get]; done) ?_) | (refine HeapSub.cons (by simp [Heap.get]; done) ?_))) (by repeat' (first | exact EnvSub.nil _ | exact HeapSub.nil _ | refine EnvSub.cons rfl ?_ | refine HeapSub.cons rfl ?_ | (refine EnvSub.cons (by simp [Env.get]; done) ?_) | (refine HeapSub.cons (by simp [Heap.get]; done) ?_)))
    case round =>
      rintro k ⟨hk, hl⟩ ih
      refine hκ.run 300 ?_
      simp (disch := omega) only [push_cast, simprocAttr]
      refine OutOK_fork (fun h => ?_) (fun h => ?_) <;> try simp only [Bool.not_true, Bool.not_false, decide_eq_true_eq, decide_eq_false_iff_not, Bool.not_eq_true', Bool.not_eq_false', Bool.and_eq_true, Bool.or_eq_false_iff, Bool.or_eq_true, Bool.and_eq_false_iff] at h
      · simp (disch := omega) only [push_cast, simprocAttr]
        (repeat (refine ⟨by first | omega | (refine ⟨?_, ?_⟩ <;> omega) | trivial | (simp; done) | decide +kernel, fun _ => ?_⟩))
        refine OutOK_fork (fun h => ?_) (fun h => ?_) <;> try simp only [Bool.not_true, Bool.not_false, decide_eq_true_eq, decide_eq_false_iff_not, Bool.not_eq_true', Bool.not_eq_false', Bool.and_eq_true, Bool.or_eq_false_iff, Bool.or_eq_true, Bool.and_eq_false_iff] at h
        · simp (disch := omega) only [push_cast, simprocAttr]
          refine hκ.ret _ _ _ _ _ _ trivial rfl ?_
          have : ¬ us = bs := by rintro rfl; exact h rfl
          simp only [this, decide_false]
          exact .ret trivial
        · simp (disch := omega) only [push_cast, simprocAttr]
          exact (ih (k + 1) ⟨by omega, take_eq_succ' (by omega) (by omega) hl h⟩ (by omega)).less (by repeat' (first | exact EnvSub.nil _ | exact HeapSub.nil _ | refine EnvSub.cons rfl ?_ | refine HeapSub.cons rfl ?_ | (refine EnvSub.cons (by simp [Env.get]; done) ?_) | (refine HeapSub.cons (by simp [Heap.get]; done) ?_))) (by repeat' (first | exact EnvSub.nil _ | exact HeapSub.nil _ | refine EnvSub.cons rfl ?_ | refine HeapSub.cons rfl ?_ | (refine EnvSub.cons (by simp [Env.get]; done) ?_) | (refine HeapSub.cons (by simp [Heap.get]; done) ?_)))
      · simp (disch := omega) only [push_cast, simprocAttr]
        obtain rfl : k = us.length := by omega
        refine hκ.ret _ _ _ _ _ _ trivial rfl ?_
        have : us = bs := by
          rw [List.take_length] at hl
          rw [hl, List.take_of_length_le (by omega)]
        simp only [this, decide_true]
        exact .ret trivial
end Go.Proofs.Ytmieikflcolbaaa

/- Walks of the reference's words on sets. No condition. -/
import Derived.Test.YtnjgmjcokcfmkaaDoorCl
namespace Go.Proofs.YtnjgmjcokcfmkaaDoor
open Go Go.Sy
set_option maxRecDepth 100000
set_option linter.unusedSimpArgs false
set_option linter.unusedVariables false

abbrev Is (l : List Int) : SV := .rd 1 (l.map (eI .i64))
theorem take_eq_succ' {α : Type} [Inhabited α] {us bs : List α} {k : Nat} (ha : k < us.length) (hb : k < bs.length) (h : us.take k = bs.take k) (e : us.getD k default = bs.getD k default) : us.take (k + 1) = bs.take (k + 1) := by
  rw [List.take_succ_eq_append_getElem ha, List.take_succ_eq_append_getElem hb, h]
  simp only [List.getD, List.getElem?_eq_getElem ha, List.getElem?_eq_getElem hb, Option.getD_some] at e
  rw [e]
theorem drop_find {p : Int → Bool} {l : List Int} {k : Nat} (h : k < l.length) : (l.drop k).find? p = if p (l.getD k default) = true then some (l.getD k default) else (l.drop (k + 1)).find? p := by
  rw [List.drop_eq_getElem_cons h, List.find?_cons]
  simp only [List.getD, List.getElem?_eq_getElem h, Option.getD_some]
  cases p l[k] <;> rfl
theorem bit_div (s c : Nat) : decide ((s : Int) / 2 ^ c % 2 = 1) = s.testBit c := by
  rw [Nat.testBit_eq_decide_div_mod_eq]
  apply decide_eq_decide.2
  have : (s : Int) / 2 ^ c % 2 = ((s / 2 ^ c % 2 : Nat) : Int) := by simp
  rw [this]; omega

theorem rcpu_ok (c : Int) : Con Tryd.prog gl0 (fnv 77) [I c] 0 [] (Ret (Bo (decide (0 ≤ c ∧ c < 8)))) := by
  refine Con.of Tryd.ok77 (nt := 9) (res := [.tmp 2]) Tryd.mixed Tryd.func77 rfl rfl rfl rfl fun κ xc hκ => hκ.run 300 ?_
  simp (disch := omega) only [push_cast, simprocAttr]
  (first | refine OutOK_guard (fun h => ?_) (fun h => ?_) | refine GF.of (fun h => ?_) (fun h => ?_)) <;> try simp only [Bool.not_true, Bool.not_false, decide_eq_true_eq, decide_eq_false_iff_not, Bool.not_eq_true', Bool.not_eq_false', Bool.and_eq_true, Bool.or_eq_false_iff, Bool.or_eq_true, Bool.and_eq_false_iff] at h
  · simp (disch := omega) only [push_cast, simprocAttr]
    refine hκ.ret _ _ _ _ _ _ trivial rfl ?_
    rw [show decide (0 ≤ c ∧ c < 8) = decide (c < 8) from decide_eq_decide.2 (by omega)]
    exact .ret trivial
  · simp (disch := omega) only [push_cast, simprocAttr]
    refine hκ.ret _ _ _ _ _ _ trivial rfl ?_
    rw [show decide (0 ≤ c ∧ c < 8) = false from decide_eq_false (by omega)]
    exact .ret trivial
theorem rright_ok (s : Nat) : Con Tryd.prog gl0 (fnv 22) [S s] 0 [] (Ret (Bo (decide (s < 256)))) := by
  refine Con.of Tryd.ok22 (nt := 5) (res := [.tmp 2]) Tryd.mixed Tryd.func22 rfl rfl rfl rfl fun κ xc hκ => hκ.run 300 ?_
  simp (disch := omega) only [push_cast, simprocAttr]
  refine hκ.ret _ _ _ _ _ _ trivial rfl ?_
  rw [show decide (s < 256) = decide ((s : Int) < 256) from decide_eq_decide.2 (by omega)]
  exact .ret trivial
theorem rhas_ok (s : Nat) (c : Int) : Con Tryd.prog gl0 (fnv 52) [S s, I c] 0 [] (Ret (Bo (hasB s c))) := by
  refine Con.of Tryd.ok52 (nt := 14) (res := [.tmp 4]) Tryd.mixed Tryd.func52 rfl rfl rfl rfl fun κ xc hκ => hκ.run 300 ?_
  simp (disch := omega) only [push_cast, simprocAttr]
  refine Does.ret hκ.hP hκ.hgl (rcpu_ok c) ⟨trivial, by first | (simp [SV.bnd, SV.bndL]; done) | (simp [SV.bnd, SV.bndL, ec_bnd]; done), by first | (simp [SV.bnd, SV.bndL]; done) | (simp [SV.bnd, SV.bndL, ec_bnd]; done) | assumption⟩ ?_
  by_cases h : 0 ≤ c ∧ c < 8
  · have hp : (0 : Int) < 2 ^ c.toNat := Int.pow_pos (by decide)
    have hq := Int.ediv_nonneg (show (0 : Int) ≤ s by omega) (show (0 : Int) ≤ 2 ^ c.toNat by omega)
    simp only [h, and_self, decide_true]
    refine hκ.run 300 ?_
    simp (disch := omega) only [push_cast, simprocAttr]
    (repeat (refine ⟨by first | omega | (refine ⟨?_, ?_⟩ <;> omega) | trivial | (simp; done) | decide +kernel, fun _ => ?_⟩))
    rw [bit_div]
    refine hκ.ret _ _ _ _ _ _ trivial rfl ?_
    rw [hasB, decide_eq_true h, Bool.true_and]
    exact .ret trivial
  · rw [decide_eq_false h]
    refine hκ.run 300 ?_
    simp (disch := omega) only [push_cast, simprocAttr]
    refine hκ.ret _ _ _ _ _ _ trivial rfl ?_
    rw [hasB, decide_eq_false h, Bool.false_and]
    exact .ret trivial
def bitsTo (s k : Nat) : List Int := List.map (fun c : Nat => (c : Int)) (List.filter (fun c => s.testBit c) (List.range k))
theorem bitsTo_succ (s k : Nat) : bitsTo s (k + 1) = bitsTo s k ++ if s.testBit k = true then [(k : Int)] else [] := by
  simp only [bitsTo, List.range_succ, List.filter_append, List.map_append]
  congr 1
  simp only [List.filter_cons, List.filter_nil]
  split <;> rfl
theorem bitsTo_len (s k : Nat) : (bitsTo s k).length ≤ k := by
  have h := List.length_filter_le (fun c => s.testBit c) (List.range k)
  simpa [bitsTo] using h
theorem rlist_ok (s : Nat) : Con Tryd.prog gl0 (fnv 108) [S s] 0 [] (RetRow 3 1 ((bits s).map (eI .i64))) := by
  refine Con.of Tryd.ok108 (nt := 17) (res := [.tmp 2]) Tryd.mixed Tryd.func108 rfl rfl rfl rfl fun κ xc hκ => hκ.run 300 ?_
  simp (disch := omega) only [push_cast, simprocAttr]
  refine Sat.nilRow 3 1 3 rfl ?_
  refine Sat.less (Sat.loop (γ := Nat × Nat) (fun g => ([(5, I g.1), (3, .sl 0 1 0 (bitsTo s g.1).length g.2), (0, S s)], [(0, .row 1 g.2 3 ((bitsTo s g.1).map (eI .i64)))], 1)) (fun g => 8 - g.1) (fun g => g.1 ≤ 8) ?round (0, 0) (by decide)) (by repeat' (first | exact EnvSub.nil _ | exact HeapSub.nil _ | refine EnvSub.cons rfl ?_ | refine HeapSub.cons rfl ?_ | (refine EnvSub.cons (by simp [Env.get]; done) ?_) | (refine HeapSub.cons (by simp [Heap.get]; done) ?_))) (by repeat' (first | exact EnvSub.nil _ | exact HeapSub.nil _ | refine EnvSub.cons rfl ?_ | refine HeapSub.cons rfl ?_ | (refine EnvSub.cons (by simp [Env.get]; done) ?_) | (refine HeapSub.cons (by simp [Heap.get]; done) ?_)))
  case round =>
    rintro ⟨k, cap⟩ hk ih
    dsimp only at hk ih ⊢
    have hb := bitsTo_succ s k
    have hl := bitsTo_len s k
    refine hκ.run 300 ?_
    simp (disch := omega) only [push_cast, simprocAttr]
    refine OutOK_fork (fun h => ?_) (fun h => ?_) <;> try simp only [Bool.not_true, Bool.not_false, decide_eq_true_eq, decide_eq_false_iff_not, Bool.not_eq_true', Bool.not_eq_false', Bool.and_eq_true, Bool.or_eq_false_iff, Bool.or_eq_true, Bool.and_eq_false_iff] at h
    · simp (disch := omega) only [push_cast, simprocAttr]
      refine Does.ret hκ.hP hκ.hgl (rhas_ok s k) ⟨trivial, by first | (simp [SV.bnd, SV.bndL]; done) | (simp [SV.bnd, SV.bndL, ec_bnd]; done), by first | (simp [SV.bnd, SV.bndL]; done) | (simp [SV.bnd, SV.bndL, ec_bnd]; done) | assumption⟩ ?_
      rw [hasB_nat (by omega)]
      have hz := fun cap => ih (k + 1, cap) (by dsimp only; omega) (by dsimp only; omega)
      dsimp only at hz
      rw [hb] at hz
      cases ht : s.testBit k
      · simp only [ht, Bool.false_eq_true, if_false, List.append_nil] at hz
        refine hκ.run 300 ?_
        simp (disch := omega) only [push_cast, simprocAttr]
        exact (hz cap).less (by repeat' (first | exact EnvSub.nil _ | exact HeapSub.nil _ | refine EnvSub.cons rfl ?_ | refine HeapSub.cons rfl ?_ | (refine EnvSub.cons (by simp [Env.get]; done) ?_) | (refine HeapSub.cons (by simp [Heap.get]; done) ?_))) (by repeat' (first | exact EnvSub.nil _ | exact HeapSub.nil _ | refine EnvSub.cons rfl ?_ | refine HeapSub.cons rfl ?_ | (refine EnvSub.cons (by simp [Env.get]; done) ?_) | (refine HeapSub.cons (by simp [Heap.get]; done) ?_)))
      · simp only [ht, if_true] at hz
        refine hκ.run 300 ?_
        simp (disch := omega) only [push_cast, simprocAttr]
        (repeat (refine ⟨by first | omega | (refine ⟨?_, ?_⟩ <;> omega) | trivial | (simp; done) | decide +kernel, fun _ => ?_⟩))
        intro c
        have et : List.take (bitsTo s k).length (List.map (eI .i64) (bitsTo s k)) = List.map (eI .i64) (bitsTo s k) := List.take_of_length_le (by simp)
        have hy := hz ((bitsTo s k).length + 1 + c)
        simp only [List.length_append, List.length_cons, List.length_nil, List.length_singleton, List.length_map, List.length_set, List.length_replicate, Nat.zero_add, Nat.add_zero, Int.natCast_add, Int.natCast_one, Int.ofNat_eq_natCast, List.map_append, List.map_cons, List.map_nil, List.take_length, eI, eB] at hy ⊢
        rw [et]
        refine Sat.via (fun _ => 2) (hy) (by intro i j; (repeat (first | omega | split))) (by repeat' (first | exact EnvVia.nil | refine EnvVia.cons (by first | trivial | decide | (simp [SV.bnd, SV.bndL]; done)) rfl ?_)) (by repeat' (first | exact HeapVia.nil | refine HeapVia.cons (by decide) (by first | trivial | exact Blk.bnd_own0 (by assumption) | (simp [Blk.bnd, SV.bnd, SV.bndL]; done) | exact bndL_mapV _ _ _ | exact LR.bnd (by rw [l2]; simp [bndE, SV.bnd, SV.bndL]) (by rw [l6]; decide)) (by first | (rw [Blk.ren_own0 (by assumption)]; rfl) | rfl | (simp only [Blk.ren, renL_mapV]; rfl) | (rw [LR.ren (by rw [l2] <;> rfl) (by rw [l6] <;> rfl)]; rfl)) ?_)) ⟨by have := hκ.hm; (try dsimp only at this); (first | done | omega), fun i hi => by have := hκ.hm; (try dsimp only at this); (first | omega | (dsimp only; omega) | (rw [if_neg (by omega)]))⟩ ⟨by simp, rfl⟩
    · simp (disch := omega) only [push_cast, simprocAttr]
      obtain rfl : k = 8 := by omega
      refine hκ.ret _ _ _ _ _ _ trivial rfl ?_
      exact Post.row rfl (by simp [bits, bitsTo])
theorem rnext_ok (s : Nat) (after : Int) : Con Tryd.prog gl0 (fnv 87) [S s, I after] 0 [] (Ret (.tup [I ((nextB s after).getD 0), Bo (nextB s after).isSome])) := by
  have hlen := bits_len s
  refine Con.of Tryd.ok87 (nt := 20) (res := [.tmp 4, .tmp 5]) Tryd.mixed Tryd.func87 rfl rfl rfl rfl fun κ xc hκ => hκ.run 300 ?_
  simp (disch := omega) only [push_cast, simprocAttr]
  refine Does.ret hκ.hP hκ.hgl ((rlist_ok s).toRd) ⟨trivial, by first | (simp [SV.bnd, SV.bndL]; done) | (simp [SV.bnd, SV.bndL, ec_bnd]; done), by first | (simp [SV.bnd, SV.bndL]; done) | (simp [SV.bnd, SV.bndL, ec_bnd]; done) | assumption⟩ ?_
  refine hκ.run 300 ?_
  simp (disch := omega) only [push_cast, simprocAttr]
  refine Sat.less (Sat.loop (γ := Nat) (fun k => ([(11, I k), (10, I (bits s).length), (9, Is (bits s)), (1, I after)], [], 0)) (fun k => (bits s).length - k)
    (fun k => k ≤ (bits s).length ∧ ((bits s).drop k).find? (fun c => decide (after < c)) = nextB s after) ?round 0 ⟨Nat.zero_le _, rfl⟩) (by repeat' (first | exact EnvSub.nil _ | exact HeapSub.nil _ | refine EnvSub.cons rfl ?_ | refine HeapSub.cons rfl ?_ | (refine EnvSub.cons (by simp [Env.get]; done) ?_) | (refine HeapSub.cons (by simp [Heap.get]; done) ?_))) (by repeat' (first | exact EnvSub.nil _ | exact HeapSub.nil _ | refine EnvSub.cons rfl ?_ | refine HeapSub.cons rfl ?_ | (refine EnvSub.cons (by simp [Env.get]; done) ?_) | (refine HeapSub.cons (by simp [Heap.get]; done) ?_)))
  case round =>
    rintro k ⟨hk, hn⟩ ih
    dsimp only at ih ⊢
    refine hκ.run 300 ?_
    simp (disch := omega) only [push_cast, simprocAttr]
    refine OutOK_fork (fun h => ?_) (fun h => ?_) <;> try simp only [Bool.not_true, Bool.not_false, decide_eq_true_eq, decide_eq_false_iff_not, Bool.not_eq_true', Bool.not_eq_false', Bool.and_eq_true, Bool.or_eq_false_iff, Bool.or_eq_true, Bool.and_eq_false_iff] at h
    · simp (disch := omega) only [push_cast, simprocAttr]
      (repeat (refine ⟨by first | omega | (refine ⟨?_, ?_⟩ <;> omega) | trivial | (simp; done) | decide +kernel, fun _ => ?_⟩))
      rw [drop_find (by omega)] at hn
      refine OutOK_fork (fun h => ?_) (fun h => ?_) <;> try simp only [Bool.not_true, Bool.not_false, decide_eq_true_eq, decide_eq_false_iff_not, Bool.not_eq_true', Bool.not_eq_false', Bool.and_eq_true, Bool.or_eq_false_iff, Bool.or_eq_true, Bool.and_eq_false_iff] at h
      · simp (disch := omega) only [push_cast, simprocAttr]
        refine hκ.ret _ _ _ _ _ _ trivial rfl ?_
        rw [if_pos (by simpa using h)] at hn
        rw [← hn]
        exact .ret (by simp [SV.bnd, SV.bndL])
      · simp (disch := omega) only [push_cast, simprocAttr]
        rw [if_neg (by simpa using h)] at hn
        exact (ih (k + 1) ⟨by omega, hn⟩ (by omega)).less (by repeat' (first | exact EnvSub.nil _ | exact HeapSub.nil _ | refine EnvSub.cons rfl ?_ | refine HeapSub.cons rfl ?_ | (refine EnvSub.cons (by simp [Env.get]; done) ?_) | (refine HeapSub.cons (by simp [Heap.get]; done) ?_))) (by repeat' (first | exact EnvSub.nil _ | exact HeapSub.nil _ | refine EnvSub.cons rfl ?_ | refine HeapSub.cons rfl ?_ | (refine EnvSub.cons (by simp [Env.get]; done) ?_) | (refine HeapSub.cons (by simp [Heap.get]; done) ?_)))
    · simp (disch := omega) only [push_cast, simprocAttr]
      obtain rfl : k = (bits s).length := by omega
      refine hκ.ret _ _ _ _ _ _ trivial rfl ?_
      rw [List.drop_length] at hn
      rw [← hn]
      exact .ret (by simp [SV.bnd, SV.bndL])
theorem sameInts_ok (us bs : List Int) (hn : us.length < 2 ^ 62) : Con Tryd.prog gl0 (fnv 19) [Is us, Is bs] 0 [] (Ret (Bo (decide (us = bs)))) := by
  refine Con.of Tryd.ok19 (nt := 26) (res := [.tmp 4]) Tryd.mixed Tryd.func19 rfl rfl rfl rfl fun κ xc hκ => hκ.run 300 ?_
  simp (disch := omega) only [push_cast, simprocAttr]
  refine OutOK_fork (fun h => ?_) (fun h => ?_) <;> try simp only [Bool.not_true, Bool.not_false, decide_eq_true_eq, decide_eq_false_iff_not, Bool.not_eq_true', Bool.not_eq_false', Bool.and_eq_true, Bool.or_eq_false_iff, Bool.or_eq_true, Bool.and_eq_false_iff] at h
  · simp (disch := omega) only [push_cast, simprocAttr]
    refine hκ.ret _ _ _ _ _ _ trivial rfl ?_
    have : ¬ us = bs := by rintro rfl; exact h rfl
    simp only [this, decide_false]
    exact .ret trivial
  · simp (disch := omega) only [push_cast, simprocAttr]
    have hlen : us.length = bs.length := by omega
    refine Sat.less (Sat.loop (γ := Nat) (fun k => ([(13, I k), (12, I us.length), (11, Is us), (0, Is us), (1, Is bs)], [], 0)) (fun k => us.length - k)
      (fun k => k ≤ us.length ∧ us.take k = bs.take k) ?round 0 ⟨by omega, by simp⟩) (by repeat' (first | exact EnvSub.nil _ | exact HeapSub.nil _ | refine EnvSub.cons rfl ?_ | refine HeapSub.cons rfl ?_ | (refine EnvSub.cons (by simp [Env.get]; done) ?_) | (refine HeapSub.cons (by simp [Heap.get]; done) ?_))) (by repeat' (first | exact EnvSub.nil _ | exact HeapSub.nil _ | refine EnvSub.cons rfl ?_ | refine HeapSub.cons rfl ?_ | (refine EnvSub.cons (by simp [Env.get]; done) ?_) | (refine HeapSub.cons (by simp [Heap.get]; done) ?_)))
    case round =>
      rintro k ⟨hk, hl⟩ ih
      refine hκ.run 300 ?_
      simp (disch := omega) only [push_cast, simprocAttr]
      refine OutOK_fork (fun h => ?_) (fun h => ?_) <;> try simp only [Bool.not_true, Bool.not_false, decide_eq_true_eq, decide_eq_false_iff_not, Bool.not_eq_true', Bool.not_eq_false', Bool.and_eq_true, Bool.or_eq_false_iff, Bool.or_eq_true, Bool.and_eq_false_iff] at h
      · simp (disch := omega) only [push_cast, simprocAttr]
        (repeat (refine ⟨by first | omega | (refine ⟨?_, ?_⟩ <;> omega) | trivial | (simp; done) | decide +kernel, fun _ => ?_⟩))
        refine OutOK_fork (fun h => ?_) (fun h => ?_) <;> try simp only [Bool.not_true, Bool.not_false, decide_eq_true_eq, decide_eq_false_iff_not, Bool.not_eq_true', Bool.not_eq_false', Bool.and_eq_true, Bool.or_eq_false_iff, Bool.or_eq_true, Bool.and_eq_false_iff] at h
        · simp (disch := omega) only [push_cast, simprocAttr]
          refine hκ.ret _ _ _ _ _ _ trivial rfl ?_
          have : ¬ us = bs := by rintro rfl; exact h rfl
          simp only [this, decide_false]
          exact .ret trivial
        · simp (disch := omega) only [push_cast, simprocAttr]
          exact (ih (k + 1) ⟨by omega, take_eq_succ' (by omega) (by omega) hl h⟩ (by omega)).less (by repeat' (first | exact EnvSub.nil _ | exact HeapSub.nil _ | refine EnvSub.cons rfl ?_ | refine HeapSub.cons rfl ?_ | (refine EnvSub.cons (by simp [Env.get]; done) ?_) | (refine HeapSub.cons (by simp [Heap.get]; done) ?_))) (by repeat' (first | exact EnvSub.nil _ | exact HeapSub.nil _ | refine EnvSub.cons rfl ?_ | refine HeapSub.cons rfl ?_ | (refine EnvSub.cons (by simp [Env.get]; done) ?_) | (refine HeapSub.cons (by simp [Heap.get]; done) ?_)))
      · simp (disch := omega) only [push_cast, simprocAttr]
        obtain rfl : k = us.length := by omega
        refine hκ.ret _ _ _ _ _ _ trivial rfl ?_
        have : us = bs := by
          rw [List.take_length] at hl
          rw [hl, List.take_of_length_le (by omega)]
        simp only [this, decide_true]
        exact .ret trivial
end Go.Proofs.YtnjgmjcokcfmkaaDoor

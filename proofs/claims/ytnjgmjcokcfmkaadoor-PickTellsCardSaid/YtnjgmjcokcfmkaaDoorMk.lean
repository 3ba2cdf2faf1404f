/- Walks of mask. No condition. -/
import Derived.Test.YtnjgmjcokcfmkaaDoorCl
namespace Go.Proofs.YtnjgmjcokcfmkaaDoor
open Go Go.Sy
set_option maxRecDepth 100000
set_option linter.unusedSimpArgs false
set_option linter.unusedVariables false

/-- A mask: what is allowed, what is liked. -/
abbrev Msk := Nat × Nat
abbrev Mk (m : Msk) : SV := .agg [S m.1, S m.2]
def eK (m : Msk) : List SV := [S m.1, S m.2]
def okM (m : Msk) : Bool := decide (m.1 < 256) && decide (m.2 < 256) && decide (m.1 ≠ 0)
abbrev u32M (m : Msk) : Prop := m.1 < 4294967296 ∧ m.2 < 4294967296
def alw (m : Msk) (s : Nat) : Nat := if okM m = true ∧ s < 256 then m.1 &&& s else 0
def lik (m : Msk) (s : Nat) : Nat := if alw m s &&& m.2 ≠ 0 then alw m s &&& m.2 else alw m s
def bestB (m : Msk) (s : Nat) (at' : Int) : Option Int := if hasB (alw m s) at' = true then some at' else nextB (lik m s) (-1)
theorem alw_lt (m : Msk) (s : Nat) : alw m s < 256 := by
  unfold alw
  split
  · rename_i h
    exact Nat.lt_of_le_of_lt Nat.and_le_right h.2
  · decide
theorem lik_lt (m : Msk) (s : Nat) : lik m s < 256 := by
  unfold lik
  split
  · exact Nat.lt_of_le_of_lt Nat.and_le_left (alw_lt m s)
  · exact alw_lt m s
theorem okM_iff {m : Msk} : okM m = true ↔ m.1 < 256 ∧ m.2 < 256 ∧ m.1 ≠ 0 := by
  simp [okM, and_assoc]

theorem mright_ok (l : List Msk) (hl : ∀ m ∈ l, u32M m) (hn : l.length < 2 ^ 62) : Con Tryd.prog gl0 (fnv 55) [.rd 2 (l.map eK)] 0 [] (Ret (Bo (l.all okM))) := by
  refine Con.of Tryd.ok55 (nt := 27) (res := [.tmp 2]) Tryd.mixed Tryd.func55 rfl rfl rfl rfl fun κ xc hκ => hκ.run 300 ?_
  simp (disch := omega) only [push_cast, simprocAttr, eK]
  refine Sat.less (Sat.loop (γ := Nat) (fun k => ([(7, I k), (6, I l.length), (5, .rd 2 (l.map eK))], [], 0)) (fun k => l.length - k)
    (fun k => k ≤ l.length ∧ (l.take k).all okM = true) ?round 0 ⟨by omega, rfl⟩) (by repeat' (first | exact EnvSub.nil _ | exact HeapSub.nil _ | refine EnvSub.cons rfl ?_ | refine HeapSub.cons rfl ?_ | (refine EnvSub.cons (by simp [Env.get]; done) ?_) | (refine HeapSub.cons (by simp [Heap.get]; done) ?_))) (by repeat' (first | exact EnvSub.nil _ | exact HeapSub.nil _ | refine EnvSub.cons rfl ?_ | refine HeapSub.cons rfl ?_ | (refine EnvSub.cons (by simp [Env.get]; done) ?_) | (refine HeapSub.cons (by simp [Heap.get]; done) ?_)))
  case round =>
    rintro k ⟨hk, hl1⟩ ih
    dsimp only at ih ⊢
    refine hκ.run 300 ?_
    simp (disch := omega) only [push_cast, simprocAttr, eK]
    refine OutOK_fork (fun h => ?_) (fun h => ?_) <;> try simp only [Bool.not_true, Bool.not_false, decide_eq_true_eq, decide_eq_false_iff_not, Bool.not_eq_true', Bool.not_eq_false', Bool.and_eq_true, Bool.or_eq_false_iff, Bool.or_eq_true, Bool.and_eq_false_iff] at h
    · simp (disch := omega) only [push_cast, simprocAttr, eK]
      (repeat (refine ⟨by first | omega | (refine ⟨?_, ?_⟩ <;> omega) | trivial | (simp; done) | decide +kernel, fun _ => ?_⟩))
      have hm : l[k]'(by omega) ∈ l := List.getElem_mem _
      have hg : l.getD k default = l[k]'(by omega) := by simp [List.getD, show k < l.length by omega]
      have ht : l.take (k + 1) = l.take k ++ [l[k]'(by omega)] := List.take_succ_eq_append_getElem (by omega)
      obtain ⟨b1, b2⟩ := hl _ hm
      have hz := fun h => ih (k + 1) ⟨by omega, h⟩ (by omega)
      rw [ht, List.all_append, hl1] at hz
      rw [← hg] at b1 b2 hz hm
      generalize l.getD k default = m at b1 b2 hz hm ⊢
      have hno : okM m = false → l.all okM = false := fun h => by
        rw [List.all_eq_false]; exact ⟨m, hm, by simp [h]⟩
      refine Does.ret hκ.hP hκ.hgl (check_ok m.1 b1) ⟨trivial, by first | (simp [SV.bnd, SV.bndL]; done) | (simp [SV.bnd, SV.bndL, ec_bnd]; done), by first | (simp [SV.bnd, SV.bndL]; done) | (simp [SV.bnd, SV.bndL, ec_bnd]; done) | assumption⟩ ?_
      by_cases a1 : m.1 < 256
      · rw [if_pos a1]
        refine hκ.run 300 ?_
        simp (disch := omega) only [push_cast, simprocAttr, eK]
        refine Does.ret hκ.hP hκ.hgl (check_ok m.2 b2) ⟨trivial, by first | (simp [SV.bnd, SV.bndL]; done) | (simp [SV.bnd, SV.bndL, ec_bnd]; done), by first | (simp [SV.bnd, SV.bndL]; done) | (simp [SV.bnd, SV.bndL, ec_bnd]; done) | assumption⟩ ?_
        by_cases a2 : m.2 < 256
        · rw [if_pos a2]
          refine hκ.run 300 ?_
          simp (disch := omega) only [push_cast, simprocAttr, eK]
          refine OutOK_fork (fun h => ?_) (fun h => ?_) <;> try simp only [Bool.not_true, Bool.not_false, decide_eq_true_eq, decide_eq_false_iff_not, Bool.not_eq_true', Bool.not_eq_false', Bool.and_eq_true, Bool.or_eq_false_iff, Bool.or_eq_true, Bool.and_eq_false_iff] at h
          · simp (disch := omega) only [push_cast, simprocAttr, eK]
            refine hκ.ret _ _ _ _ _ _ trivial rfl ?_
            rw [hno (by simp [okM, show m.1 = 0 by omega])]
            exact .ret trivial
          · simp (disch := omega) only [push_cast, simprocAttr, eK]
            have hz := hz (by simp [okM, a1, a2, show m.1 ≠ 0 by omega])
            refine Sat.via (fun i => i) (hz) (by intro i j; (repeat (first | omega | split))) (by repeat' (first | exact EnvVia.nil | refine EnvVia.cons (by first | trivial | decide | (simp [SV.bnd, SV.bndL]; done)) rfl ?_)) (by repeat' (first | exact HeapVia.nil | refine HeapVia.cons (by decide) (by first | trivial | exact Blk.bnd_own0 (by assumption) | (simp [Blk.bnd, SV.bnd, SV.bndL]; done) | exact bndL_mapV _ _ _ | exact LR.bnd (by rw [l2]; simp [bndE, SV.bnd, SV.bndL]) (by rw [l6]; decide)) (by first | (rw [Blk.ren_own0 (by assumption)]; rfl) | rfl | (simp only [Blk.ren, renL_mapV]; rfl) | (rw [LR.ren (by rw [l2] <;> rfl) (by rw [l6] <;> rfl)]; rfl)) ?_)) ⟨by have := hκ.hm; (try dsimp only at this); (first | done | omega), fun i hi => by have := hκ.hm; (try dsimp only at this); (first | omega | (dsimp only; omega) | (rw [if_neg (by omega)]))⟩ ⟨by simp, rfl⟩
        · rw [if_neg a2]
          refine hκ.run 300 ?_
          simp (disch := omega) only [push_cast, simprocAttr, eK]
          refine hκ.ret _ _ _ _ _ _ trivial rfl ?_
          rw [hno (by simp [okM, a2])]
          exact .ret trivial
      · rw [if_neg a1]
        refine hκ.run 300 ?_
        simp (disch := omega) only [push_cast, simprocAttr, eK]
        refine hκ.ret _ _ _ _ _ _ trivial rfl ?_
        rw [hno (by simp [okM, a1])]
        exact .ret trivial
    · simp (disch := omega) only [push_cast, simprocAttr, eK]
      obtain rfl : k = l.length := by omega
      refine hκ.ret _ _ _ _ _ _ trivial rfl ?_
      rw [List.take_length] at hl1
      rw [hl1]
      exact .ret trivial
theorem mcheck_ok (m : Msk) (hm : u32M m) : Con Tryd.prog gl0 (fnv 71) [Mk m] 0 [] (Ret (I (if okM m = true then 0 else 170))) := by
  refine Con.of Tryd.ok71 (nt := 7) (res := [.tmp 2]) Tryd.mixed Tryd.func71 rfl rfl rfl rfl fun κ xc hκ => hκ.run 300 ?_
  simp (disch := omega) only [push_cast, simprocAttr]
  (repeat (refine ⟨by first | omega | (refine ⟨?_, ?_⟩ <;> omega) | trivial | (simp; done) | decide +kernel, fun _ => ?_⟩))
  refine Does.frz [1] ⟨trivial, rfl⟩ (by first | (simp [lendPL, lendP, lendSlP, Heap.get]; done) | (simp only [lendPL, lendP, lendSlP, Heap.get, List.mem_singleton, List.mem_cons, List.not_mem_nil, or_false, or_true, true_or, Nat.reduceEqDiff, Nat.one_ne_zero, Nat.zero_ne_one, ↓reduceIte, and_true, true_and, List.length_map, List.length_append, List.length_cons, List.length_nil, List.length_replicate]; omega)) ?_
  simp only [lendL, lendS, lendSl, Heap.get, without, List.mem_singleton, List.mem_cons, List.not_mem_nil, or_false, or_true, true_or, List.drop_zero, List.take_length, List.take_succ_cons, List.take_zero, Nat.reduceAdd, Nat.reduceEqDiff, Nat.one_ne_zero, Nat.zero_ne_one, ↓reduceIte]
  refine Does.ret hκ.hP hκ.hgl (mright_ok [m] (by simpa using hm) (by simp)) ⟨trivial, by first | (simp [SV.bnd, SV.bndL]; done) | (simp [SV.bnd, SV.bndL, ec_bnd]; done), by first | (simp [SV.bnd, SV.bndL]; done) | (simp [SV.bnd, SV.bndL, ec_bnd]; done) | assumption⟩ ?_
  simp only [List.all_cons, List.all_nil, Bool.and_true]
  cases hk : okM m
  · refine hκ.run 300 ?_
    simp (disch := omega) only [push_cast, simprocAttr]
    refine hκ.ret _ _ _ _ _ _ trivial rfl ?_
    simp only [hk, Bool.false_eq_true, if_false]
    exact .ret trivial
  · refine hκ.run 300 ?_
    simp (disch := omega) only [push_cast, simprocAttr]
    refine hκ.ret _ _ _ _ _ _ trivial rfl ?_
    simp only [hk, if_true]
    exact .ret trivial
theorem allows_ok (m : Msk) (s : Nat) (hm : u32M m) (hs : s < 4294967296) : Con Tryd.prog gl0 (fnv 28) [Mk m, S s] 0 [] (Ret (S (alw m s))) := by
  refine Con.of Tryd.ok28 (nt := 18) (res := [.tmp 4]) Tryd.mixed Tryd.func28 rfl rfl rfl rfl fun κ xc hκ => hκ.run 300 ?_
  simp (disch := omega) only [push_cast, simprocAttr]
  (repeat (refine ⟨by first | omega | (refine ⟨?_, ?_⟩ <;> omega) | trivial | (simp; done) | decide +kernel, fun _ => ?_⟩))
  refine Does.frz [1] ⟨trivial, rfl⟩ (by first | (simp [lendPL, lendP, lendSlP, Heap.get]; done) | (simp only [lendPL, lendP, lendSlP, Heap.get, List.mem_singleton, List.mem_cons, List.not_mem_nil, or_false, or_true, true_or, Nat.reduceEqDiff, Nat.one_ne_zero, Nat.zero_ne_one, ↓reduceIte, and_true, true_and, List.length_map, List.length_append, List.length_cons, List.length_nil, List.length_replicate]; omega)) ?_
  simp only [lendL, lendS, lendSl, Heap.get, without, List.mem_singleton, List.mem_cons, List.not_mem_nil, or_false, or_true, true_or, List.drop_zero, List.take_length, List.take_succ_cons, List.take_zero, Nat.reduceAdd, Nat.reduceEqDiff, Nat.one_ne_zero, Nat.zero_ne_one, ↓reduceIte]
  refine Does.ret hκ.hP hκ.hgl (mright_ok [m] (by simpa using hm) (by simp)) ⟨trivial, by first | (simp [SV.bnd, SV.bndL]; done) | (simp [SV.bnd, SV.bndL, ec_bnd]; done), by first | (simp [SV.bnd, SV.bndL]; done) | (simp [SV.bnd, SV.bndL, ec_bnd]; done) | assumption⟩ ?_
  simp only [List.all_cons, List.all_nil, Bool.and_true]
  cases hk : okM m
  · refine hκ.run 300 ?_
    simp (disch := omega) only [push_cast, simprocAttr]
    refine hκ.ret _ _ _ _ _ _ trivial rfl ?_
    simp only [alw, hk, Bool.false_eq_true, false_and, if_false]
    exact .ret trivial
  · refine hκ.run 300 ?_
    simp (disch := omega) only [push_cast, simprocAttr]
    refine Does.ret hκ.hP hκ.hgl (check_ok s hs) ⟨trivial, by first | (simp [SV.bnd, SV.bndL]; done) | (simp [SV.bnd, SV.bndL, ec_bnd]; done), by first | (simp [SV.bnd, SV.bndL]; done) | (simp [SV.bnd, SV.bndL, ec_bnd]; done) | assumption⟩ ?_
    by_cases hs2 : s < 256
    · rw [if_pos hs2]
      refine hκ.run 300 ?_
      simp (disch := omega) only [push_cast, simprocAttr, and32]
      refine hκ.ret _ _ _ _ _ _ trivial rfl ?_
      simp only [alw, hk, hs2, and_self, if_true]
      exact .ret trivial
    · rw [if_neg hs2]
      refine hκ.run 300 ?_
      simp (disch := omega) only [push_cast, simprocAttr]
      refine hκ.ret _ _ _ _ _ _ trivial rfl ?_
      simp only [alw, hs2, and_false, if_false]
      exact .ret trivial
theorem likes_ok (m : Msk) (s : Nat) (hm : u32M m) (hs : s < 4294967296) : Con Tryd.prog gl0 (fnv 48) [Mk m, S s] 0 [] (Ret (S (lik m s))) := by
  have ha := alw_lt m s
  refine Con.of Tryd.ok48 (nt := 18) (res := [.tmp 4]) Tryd.mixed Tryd.func48 rfl rfl rfl rfl fun κ xc hκ => hκ.run 300 ?_
  simp (disch := omega) only [push_cast, simprocAttr]
  refine Does.ret hκ.hP hκ.hgl (allows_ok m s hm hs) ⟨trivial, by first | (simp [SV.bnd, SV.bndL]; done) | (simp [SV.bnd, SV.bndL, ec_bnd]; done), by first | (simp [SV.bnd, SV.bndL]; done) | (simp [SV.bnd, SV.bndL, ec_bnd]; done) | assumption⟩ ?_
  refine hκ.run 300 ?_
  simp (disch := omega) only [push_cast, simprocAttr, and32]
  have e : (((alw m s &&& m.2 : Nat) : Int) = 0) ↔ alw m s &&& m.2 = 0 := by omega
  refine OutOK_fork (fun h => ?_) (fun h => ?_) <;> try simp only [Bool.not_true, Bool.not_false, decide_eq_true_eq, decide_eq_false_iff_not, Bool.not_eq_true', Bool.not_eq_false', Bool.and_eq_true, Bool.or_eq_false_iff, Bool.or_eq_true, Bool.and_eq_false_iff] at h
  · simp (disch := omega) only [push_cast, simprocAttr]
    refine hκ.ret _ _ _ _ _ _ trivial rfl ?_
    rw [lik, if_pos (by rw [ne_eq, ← e]; exact h)]
    exact .ret trivial
  · simp (disch := omega) only [push_cast, simprocAttr]
    refine hκ.ret _ _ _ _ _ _ trivial rfl ?_
    rw [lik, if_neg (by rw [ne_eq, ← e, Decidable.not_not]; exact h)]
    exact .ret trivial
theorem best_ok (m : Msk) (s : Nat) (at' : Int) (hm : u32M m) (hs : s < 4294967296) (ha : -9223372036854775808 ≤ at' ∧ at' ≤ 9223372036854775807) :
    Con Tryd.prog gl0 (fnv 80) [Mk m, S s, I at'] 0 [] (Ret (.tup [I ((bestB m s at').getD 0), Bo (bestB m s at').isSome])) := by
  have h1 := alw_lt m s
  have h2 := lik_lt m s
  refine Con.of Tryd.ok80 (nt := 20) (res := [.tmp 6, .tmp 7]) Tryd.mixed Tryd.func80 rfl rfl rfl rfl fun κ xc hκ => hκ.run 300 ?_
  simp (disch := omega) only [push_cast, simprocAttr]
  refine Does.ret hκ.hP hκ.hgl (allows_ok m s hm hs) ⟨trivial, by first | (simp [SV.bnd, SV.bndL]; done) | (simp [SV.bnd, SV.bndL, ec_bnd]; done), by first | (simp [SV.bnd, SV.bndL]; done) | (simp [SV.bnd, SV.bndL, ec_bnd]; done) | assumption⟩ ?_
  refine hκ.run 300 ?_
  simp (disch := omega) only [push_cast, simprocAttr]
  refine Does.ret hκ.hP hκ.hgl (has_ok _ at' (by omega) ha) ⟨trivial, by first | (simp [SV.bnd, SV.bndL]; done) | (simp [SV.bnd, SV.bndL, ec_bnd]; done), by first | (simp [SV.bnd, SV.bndL]; done) | (simp [SV.bnd, SV.bndL, ec_bnd]; done) | assumption⟩ ?_
  cases hb : hasB (alw m s) at'
  · refine hκ.run 300 ?_
    simp (disch := omega) only [push_cast, simprocAttr]
    refine Does.ret hκ.hP hκ.hgl (likes_ok m s hm hs) ⟨trivial, by first | (simp [SV.bnd, SV.bndL]; done) | (simp [SV.bnd, SV.bndL, ec_bnd]; done), by first | (simp [SV.bnd, SV.bndL]; done) | (simp [SV.bnd, SV.bndL, ec_bnd]; done) | assumption⟩ ?_
    refine hκ.run 300 ?_
    simp (disch := omega) only [push_cast, simprocAttr]
    refine Does.ret hκ.hP hκ.hgl (next_ok _ (-1) (by omega)) ⟨trivial, by first | (simp [SV.bnd, SV.bndL]; done) | (simp [SV.bnd, SV.bndL, ec_bnd]; done), by first | (simp [SV.bnd, SV.bndL]; done) | (simp [SV.bnd, SV.bndL, ec_bnd]; done) | assumption⟩ ?_
    refine hκ.run 300 ?_
    simp (disch := omega) only [push_cast, simprocAttr]
    refine hκ.ret _ _ _ _ _ _ trivial rfl ?_
    simp only [bestB, hb, Bool.false_eq_true, if_false]
    exact .ret (by simp [SV.bnd, SV.bndL])
  · refine hκ.run 300 ?_
    simp (disch := omega) only [push_cast, simprocAttr]
    refine hκ.ret _ _ _ _ _ _ trivial rfl ?_
    simp only [bestB, hb, if_true]
    exact .ret (by simp [SV.bnd, SV.bndL])
end Go.Proofs.YtnjgmjcokcfmkaaDoor

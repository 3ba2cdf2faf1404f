/- Does the layer do anything? What a law takes of an event. No condition. -/
import Derived.Test.YtmieikflcolbaaaHd
namespace Go.Proofs.Ytmieikflcolbaaa
open Go Go.Sy
set_option maxRecDepth 100000
set_option linter.unusedSimpArgs false
set_option linter.unusedVariables false
theorem tec (x : Evt) : takeN (ec x) 29 = some (ec x) := rfl
theorem lec (x : Evt) : (ec x).length = 29 := rfl
theorem oec (x : Evt) : over [I 0, I 0, I 0, I 0, I 0, Bo false, .v (.slice none 0 0), I 0, I 0, I 0, I 0, I 0, I 0, U 0, U 0, I 0, I 0, I 0, I 0, I 0, I 0, I 0, I 0, I 0, U 0, U 0, U 0, .v (.slice none 0 0), I 0] (ec x) = some (ec x) := rfl
theorem intsRow_ok (l : List Int) (hn : l.length < 2 ^ 46) : Con Try.prog gl0 (fnv 34) [Is l] 0 [] (RetRow 3 1 ((l.take 33).map (eI .i64))) := by
  have e0 : (min (l.length : Int) 33).toNat = min 33 l.length := by omega
  have e1 : List.take (min 33 l.length) (List.map (eI .i64) l) = (l.take 33).map (eI .i64) := by
    rw [List.map_take]
    rcases Nat.le_total l.length 33 with h | h
    · rw [Nat.min_eq_right h, List.take_of_length_le (by simp), List.take_of_length_le (by simpa using h)]
    · rw [Nat.min_eq_left h]
  have hl : (l.take 33).length ≤ 33 := by rw [List.length_take]; omega
  refine Con.of Try.ok34 (nt := 10) (res := [.tmp 2]) Try.mixed Try.func34 rfl rfl rfl rfl fun κ xc hκ => hκ.run 300 ?_
  simp (disch := omega) only [push_cast, simprocAttr, e0, e1]
  refine ⟨by omega, fun _ => ⟨by omega, fun _ => ?_⟩⟩
  intro c
  refine hκ.ret _ _ _ _ _ _ trivial rfl ?_
  exact Post.row rfl (by simp)
theorem ints_ok (l : List Int) (hn : l.length < 2 ^ 46) : Con Try.prog gl0 (fnv 34) [Is l] 0 [] (Ret (Is (l.take 33))) := Con.toRd (intsRow_ok l hn)
def few (a : Evt) : Evt := (a.1, a.2.1.take 33, a.2.2.take 33)
theorem few_ok (a : Evt) (hn : a.2.1.length < 2 ^ 46 ∧ a.2.2.length < 2 ^ 46) : Con Try.prog gl0 (fnv 13) [Ev a] 0 [] (Ret (Ev (few a))) := by
  refine Con.of Try.ok13 (nt := 16) (res := [.cell 2 37]) Try.mixed Try.func13 rfl rfl rfl rfl fun κ xc hκ => hκ.runD 300 ?_
  simp (disch := omega) only [push_cast, simprocAttr, ec]
  refine hκ.draw (.q 0 (.q 1 (.q 2 (.q 4 (.q 5 (.q 6 (.l 3 [6] (.q 8 (.q 9 (.l 7 [2] (.l 10 [] (.q 11 (.q 12 (.l 13 [] (.fin))))))))))))))) [0, 1, 2, 4, 5, 6, 8, 9, 11, 12] (by kernel_rfl) (by kernel_rfl) rfl ?_
  simp (disch := omega) only [push_cast, simprocAttr, ec]
  repeat' (refine And.intro ?_ ?_)
  all_goals
    refine DCall.of (Does.ret hκ.hP hκ.hgl (ints_ok a.2.1 hn.1) ⟨trivial, by first | (simp [SV.bnd, SV.bndL]; done) | (simp [SV.bnd, SV.bndL, ec_bnd]; done), by first | (simp [SV.bnd, SV.bndL]; done) | (simp [SV.bnd, SV.bndL, ec_bnd]; done) | assumption⟩ ?_)
    simp (disch := omega) only [push_cast, simprocAttr, ec]
    refine DCall.of (Does.ret hκ.hP hκ.hgl (ints_ok a.2.2 hn.2) ⟨trivial, by first | (simp [SV.bnd, SV.bndL]; done) | (simp [SV.bnd, SV.bndL, ec_bnd]; done), by first | (simp [SV.bnd, SV.bndL]; done) | (simp [SV.bnd, SV.bndL, ec_bnd]; done) | assumption⟩ ?_)
    simp (disch := omega) only [push_cast, simprocAttr, ec]
    refine hκ.run 300 ?_
    simp (disch := omega) only [push_cast, simprocAttr, ec]
    refine hκ.ret _ _ _ _ _ _ trivial rfl ?_
    exact .ret (by simp [SV.bnd, SV.bndL, few, ec])
def upE (n : Int) : Evt := (fun i => if i = 0 then 1 else if i = 1 then 5 else if i = 2 then n else 0, [], [])
theorem up_ok (n : Int) : Con Try.prog gl0 (fnv 26) [I n] 0 [] (Ret (Ev (upE n))) := by
  refine Con.repR (s := .agg [I 1, I 5, I n, I 0, I 0, Bo false, .v (.slice none 0 0), I 0, I 0, I 0, I 0, I 0, I 0, U 0, U 0, I 0, I 0, I 0, I 0, I 0, I 0, I 0, I 0, I 0, U 0, U 0, U 0, .v (.slice none 0 0), I 0]) ?_ ?_
  · intro ν
    refine Rel.aggMap ?_
    show ∀ vs, _ → RelL ν [I 1, I 5, I n, I 0, I 0, Bo false, .rd 1 [], I 0, I 0, I 0, I 0, I 0, I 0, U 0, U 0, I 0, I 0, I 0, I 0, I 0, I 0, I 0, I 0, I 0, U 0, U 0, U 0, .rd 1 [], I 0] vs
    repeat' (first | exact (fun vs h => h) | refine RelL.nilrd ?_ | refine RelL.keep ?_)
  refine Con.of Try.ok26 (nt := 6) (res := [.cell 2 37]) Try.mixed Try.func26 rfl rfl rfl rfl fun κ xc hκ => hκ.run 300 ?_
  simp (disch := omega) only [push_cast, simprocAttr]
  refine hκ.ret _ _ _ _ _ _ trivial rfl ?_
  exact .ret (by simp [SV.bnd, SV.bndL])
theorem wf_up {n : Int} (h : -2 ^ 63 ≤ n ∧ n < 2 ^ 63) : wf (upE n) where
  i i := by
    show -2 ^ 63 ≤ (if i = 0 then (1 : Int) else if i = 1 then 5 else if i = 2 then n else 0) ∧ (if i = 0 then (1 : Int) else if i = 1 then 5 else if i = 2 then n else 0) < 2 ^ 63
    repeat' split
    all_goals omega
  u i hi := by
    show 0 ≤ (if i = 0 then (1 : Int) else if i = 1 then 5 else if i = 2 then n else 0) ∧ (if i = 0 then (1 : Int) else if i = 1 then 5 else if i = 2 then n else 0) < 2 ^ 32
    rw [if_neg (by omega), if_neg (by omega), if_neg (by omega)]; decide
  f := Or.inl rfl
  z i hi := by
    show (if i = 0 then (1 : Int) else if i = 1 then 5 else if i = 2 then n else 0) = 0
    rw [if_neg (by omega), if_neg (by omega), if_neg (by omega)]
  n x hx := by cases hx
  m x hx := by cases hx
  nl := by show ([] : List Int).length < _; decide
  ml := by show ([] : List Int).length < _; decide
theorem up3 : encE (upE 3) = 0 ∧ encB (upE 3) = [1, 5, 3] ∧ encE (upE 256) = 360 ∧ decE [1, 5, 3] = 0 ∧ (decA [1, 5, 3]).1 2 = 3 := by decide +kernel
theorem wakes_ok : Con Try.prog gl0 (fnv 9) [] 0 [] (Ret (Bo true)) := by
  obtain ⟨h1, h2, h3, h4, h5⟩ := up3
  have c1 := encode_ok (upE 3) (wf_up (by decide))
  have c2 := encode_ok (upE 256) (wf_up (by decide))
  have c3 := decode_ok [1, 5, 3] (by decide) (by decide)
  have c4 := bequal_ok [1, 5, 3] [1, 5, 3] (by decide) (by decide)
  rw [h1, h2] at c1
  rw [h3] at c2
  rw [h4] at c3
  refine Con.of Try.ok9 (nt := 43) (res := [.tmp 0]) Try.mixed Try.func9 rfl rfl rfl rfl fun κ xc hκ => hκ.run 300 ?_
  simp (disch := omega) only [push_cast, simprocAttr]
  refine Does.ret hκ.hP hκ.hgl (up_ok 3) ⟨trivial, by first | (simp [SV.bnd, SV.bndL]; done) | (simp [SV.bnd, SV.bndL, ec_bnd]; done), by first | (simp [SV.bnd, SV.bndL]; done) | (simp [SV.bnd, SV.bndL, ec_bnd]; done) | assumption⟩ ?_
  refine hκ.run 300 ?_
  simp (disch := omega) only [push_cast, simprocAttr]
  refine Does.ret hκ.hP hκ.hgl (c1) ⟨trivial, by first | (simp [SV.bnd, SV.bndL]; done) | (simp [SV.bnd, SV.bndL, ec_bnd]; done), by first | (simp [SV.bnd, SV.bndL]; done) | (simp [SV.bnd, SV.bndL, ec_bnd]; done) | assumption⟩ ?_
  refine hκ.run 300 ?_
  simp (disch := omega) only [push_cast, simprocAttr]
  refine Does.frz [0] ⟨trivial, rfl⟩ (by first | (simp [lendPL, lendP, lendSlP, Heap.get]; done) | (simp only [lendPL, lendP, lendSlP, Heap.get, List.mem_singleton, List.mem_cons, List.not_mem_nil, or_false, or_true, true_or, Nat.reduceEqDiff, Nat.one_ne_zero, Nat.zero_ne_one, ↓reduceIte, and_true, true_and, List.length_map, List.length_append, List.length_cons, List.length_nil, List.length_replicate]; omega)) ?_
  simp only [lendL, lendS, lendSl, Heap.get, without, List.mem_singleton, List.mem_cons, List.not_mem_nil, or_false, or_true, true_or, List.drop_zero, List.take_length, List.take_succ_cons, List.take_zero, Nat.reduceAdd, Nat.reduceEqDiff, Nat.one_ne_zero, Nat.zero_ne_one, ↓reduceIte]
  have cec : cut (ec (decA [1, 5, 3])) 2 1 = some [I ((decA [1, 5, 3]).1 2)] := rfl
  rw [h5] at cec
  generalize decA [1, 5, 3] = x at *
  refine Does.ret hκ.hP hκ.hgl (c3) ⟨trivial, by first | (simp [SV.bnd, SV.bndL]; done) | (simp [SV.bnd, SV.bndL, ec_bnd]; done), by first | (simp [SV.bnd, SV.bndL]; done) | (simp [SV.bnd, SV.bndL, ec_bnd]; done) | assumption⟩ ?_
  refine hκ.run 300 ?_
  simp (disch := omega) only [push_cast, simprocAttr, tec, lec, oec, ones_ec, cec]
  refine Does.ret hκ.hP hκ.hgl (up_ok 256) ⟨trivial, by first | (simp [SV.bnd, SV.bndL]; done) | (simp [SV.bnd, SV.bndL, ec_bnd]; done), by first | (simp [SV.bnd, SV.bndL]; done) | (simp [SV.bnd, SV.bndL, ec_bnd]; done) | assumption⟩ ?_
  refine hκ.run 300 ?_
  simp (disch := omega) only [push_cast, simprocAttr, tec, lec, oec, ones_ec, cec]
  refine Does.ret hκ.hP hκ.hgl (c2) ⟨trivial, by first | (simp [SV.bnd, SV.bndL]; done) | (simp [SV.bnd, SV.bndL, ec_bnd]; done), by first | (simp [SV.bnd, SV.bndL]; done) | (simp [SV.bnd, SV.bndL, ec_bnd]; done) | assumption⟩ ?_
  refine hκ.run 300 ?_
  simp (disch := omega) only [push_cast, simprocAttr, tec, lec, oec, ones_ec, cec]
  refine Does.frz [2] ⟨trivial, rfl⟩ (by first | (simp [lendPL, lendP, lendSlP, Heap.get]; done) | (simp only [lendPL, lendP, lendSlP, Heap.get, List.mem_singleton, List.mem_cons, List.not_mem_nil, or_false, or_true, true_or, Nat.reduceEqDiff, Nat.one_ne_zero, Nat.zero_ne_one, ↓reduceIte, and_true, true_and, List.length_map, List.length_append, List.length_cons, List.length_nil, List.length_replicate]; omega)) ?_
  simp only [lendL, lendS, lendSl, Heap.get, without, List.mem_singleton, List.mem_cons, List.not_mem_nil, or_false, or_true, true_or, List.drop_zero, List.take_length, List.take_succ_cons, List.take_zero, Nat.reduceAdd, Nat.reduceEqDiff, Nat.one_ne_zero, Nat.zero_ne_one, ↓reduceIte]
  rw [decide_eq_true rfl] at c4
  refine Does.ret hκ.hP hκ.hgl (c4) ⟨trivial, by first | (simp [SV.bnd, SV.bndL]; done) | (simp [SV.bnd, SV.bndL, ec_bnd]; done), by first | (simp [SV.bnd, SV.bndL]; done) | (simp [SV.bnd, SV.bndL, ec_bnd]; done) | assumption⟩ ?_
  refine hκ.run 300 ?_
  simp (disch := omega) only [push_cast, simprocAttr, tec, lec, oec, ones_ec, cec]
  refine hκ.ret _ _ _ _ _ _ trivial rfl ?_
  exact .ret trivial
end Go.Proofs.Ytmieikflcolbaaa

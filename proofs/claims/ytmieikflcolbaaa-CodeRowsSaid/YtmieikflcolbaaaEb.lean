/- Numbers to bytes. No condition. -/
import Derived.Test.YtmieikflcolbaaaEa
namespace Go.Proofs.Ytmieikflcolbaaa
open Go Go.Sy
set_option maxRecDepth 100000
set_option linter.unusedSimpArgs false
set_option linter.unusedVariables false
theorem oneAE (cs : List SV) (T i : Nat) (hcs : SV.bndL 0 cs) (x : Int) (hi : cut cs i 1 = some [.v (.int .i64 x)]) (s : Out) (cap : Nat) (hs : s.1.length < 2 ^ 45) (hcap : s.1.length ≤ cap) :
    Con Try.prog gl0 (fnv 59) [.ptr 0 0 0 0, I 1, .ptr 1 0 0 i] 3 [(0, CaE 2 cap s), (1, .own cs T), (2, RowB cap s)] (RetE (e1 1 x s) cs T 3 vd) := by
  obtain ⟨out, bad⟩ := s
  have he : e1 1 x (out, bad) = (out ++ dig (uM x) 1, bad || decide (uM x / 256 ≠ 0)) := by simp [e1]
  rw [he]
  clear he
  dsimp only at hs hcap ⊢
  obtain ⟨u0, u1⟩ := uM_bd x
  have hw : IntKind.u64.wrap x = uM x := wrap_u64_mod x
  generalize hu : uM x = u at *
  refine Con.of Try.ok59 (nt := 90) (res := []) Try.mixed Try.func59 rfl rfl rfl rfl fun κ xc hκ => hκ.run 300 ?_
  simp (disch := omega) only [push_cast, simprocAttr, hi, hw]
  apply Sat.join (α := Unit) (nx := 3) (dfs := []) (fun _ => True) (fun _ => ([(7, I (1 - 1)), (6, .v (.int .u64 u)), (0, .ptr 0 0 0 0)], [(0, CaE 2 cap (out, bad || decide (u / 256 ≠ 0))), (1, .own cs T), (2, RowB cap (out, bad || decide (u / 256 ≠ 0)))]))
  · intro hj
    have hj := hj () trivial
    dsimp only at hj
    (first | refine OutOK_guard (fun h => ?_) (fun h => ?_) | refine GF.of (fun h => ?_) (fun h => ?_)) <;> try simp only [Bool.not_true, Bool.not_false, decide_eq_true_eq, decide_eq_false_iff_not, Bool.not_eq_true', Bool.not_eq_false', Bool.and_eq_true, Bool.or_eq_false_iff, Bool.or_eq_true, Bool.and_eq_false_iff] at h
    · simp (disch := omega) only [push_cast, simprocAttr, hi, hw]
      rw [show (bad || decide (u / 256 ≠ 0)) = !decide (u / 256 = 0) by simp [h]] at hj
      exact hj.less (by repeat' (first | exact EnvSub.nil _ | exact HeapSub.nil _ | refine EnvSub.cons rfl ?_ | refine HeapSub.cons rfl ?_ | (refine EnvSub.cons (by simp [Env.get]; done) ?_) | (refine HeapSub.cons (by simp [Heap.get]; done) ?_))) (by repeat' (first | exact EnvSub.nil _ | exact HeapSub.nil _ | refine EnvSub.cons rfl ?_ | refine HeapSub.cons rfl ?_ | (refine EnvSub.cons (by simp [Env.get]; done) ?_) | (refine HeapSub.cons (by simp [Heap.get]; done) ?_)))
    · simp (disch := omega) only [push_cast, simprocAttr, hi, hw]
      rw [show (bad || decide (u / 256 ≠ 0)) = true by simp [h]] at hj
      exact hj.less (by repeat' (first | exact EnvSub.nil _ | exact HeapSub.nil _ | refine EnvSub.cons rfl ?_ | refine HeapSub.cons rfl ?_ | (refine EnvSub.cons (by simp [Env.get]; done) ?_) | (refine HeapSub.cons (by simp [Heap.get]; done) ?_))) (by repeat' (first | exact EnvSub.nil _ | exact HeapSub.nil _ | refine EnvSub.cons rfl ?_ | refine HeapSub.cons rfl ?_ | (refine EnvSub.cons (by simp [Env.get]; done) ?_) | (refine HeapSub.cons (by simp [Heap.get]; done) ?_)))
  intro _ _
  dsimp only
  generalize (bad || decide (u / 256 ≠ 0)) = bad2 at hκ ⊢
  refine Sat.fresh 2 (by omega) (by repeat' (first | exact Once.nil | refine Once.cons (by simp) ?_)) ?_
  simp only [renE, renH, List.map_cons, List.map_nil, SV.ren, SV.renL, Blk.ren, SV.renL_closed hcs, Nat.reduceEqDiff, Nat.reduceAdd, ↓reduceIte]
  refine Sat.less (Sat.loop (γ := Nat × List Int × Nat) (fun g => ([(7, I ((g.1 : Int) - 1)), (6, .v (.int .u64 u)), (0, .ptr 0 0 0 0)], [(0, CaE 3 g.2.2 (out ++ g.2.1, bad2)), (1, .own cs T), (3, RowB g.2.2 (out ++ g.2.1, bad2))], 4)) (fun g => g.1) (fun g => g.1 ≤ 1 ∧ out.length + g.2.1.length ≤ g.2.2 ∧ g.2.1 ++ dig u g.1 = dig u 1) ?round (1, [], cap) ⟨Nat.le_refl _, by simpa using hcap, rfl⟩) (by repeat' (first | exact EnvSub.nil _ | exact HeapSub.nil _ | refine EnvSub.cons rfl ?_ | refine HeapSub.cons rfl ?_ | (refine EnvSub.cons (by simp [Env.get]; done) ?_) | (refine HeapSub.cons (by simp [Heap.get]; done) ?_))) (by simp only [List.append_nil]; exact (by repeat' (first | exact EnvSub.nil _ | exact HeapSub.nil _ | refine EnvSub.cons rfl ?_ | refine HeapSub.cons rfl ?_ | (refine EnvSub.cons (by simp [Env.get]; done) ?_) | (refine HeapSub.cons (by simp [Heap.get]; done) ?_))))
  case round =>
    rintro ⟨k, pre, cp⟩ ⟨hk, hcp, hl⟩ ih
    dsimp only at hk hcp hl ih ⊢
    have hpl : pre.length + k = 1 := by have := congrArg List.length hl; simpa [dig_length] using this
    rcases k with _ | j
    · skip
      refine hκ.run 300 ?_
      simp (disch := omega) only [push_cast, simprocAttr]
      refine hκ.ret _ _ _ _ _ _ trivial rfl ?_
      rw [show dig u 1 = pre by rw [← hl]; simp [dig]]
      exact Post.via 4 id vd _ ⟨cp, by simpa using hcp, rfl, rfl, rfl⟩ rfl trivial (fun _ _ _ _ h => h) (by repeat' (first | exact HeapVia.nil | refine HeapVia.cons (by decide) (by first | trivial | (simp [Blk.bnd, SV.bnd, SV.bndL]; done) | exact SV.bndL_mono (Nat.zero_le _) _ hcs) (by first | rfl | (simp only [Blk.ren, SV.renL_closed hcs]; rfl)) ?_)) ⟨by decide, fun _ _ => rfl⟩
    · have e0 : (j : Int) + 1 - 1 = j := by omega
      refine hκ.run 300 ?_
      simp (disch := omega) only [push_cast, simprocAttr, e0]
      refine OutOK_fork (fun _ => ?_) (fun h => (by first | (have h := of_decide_eq_false h; omega) | (simp only [Bool.not_true, Bool.not_false, decide_eq_true_eq, decide_eq_false_iff_not, Bool.not_eq_true', Bool.not_eq_false', Bool.and_eq_true, Bool.or_eq_false_iff, Bool.or_eq_true, Bool.and_eq_false_iff] at h; omega)))
      simp (disch := omega) only [push_cast, simprocAttr, e0]
      refine hκ.draw (.q 0 (.q 1 (.q 2 (.q 3 (.q 4 (.q 5 (.q 6 (.q 7 (.q 8 (.q 9 (.l 10 [4] (.l 11 [] (.q 12 (.q 13 (.l 14 [] (.fin)))))))))))))))) [0, 1, 2, 3, 4, 5, 6, 7, 8, 9, 12, 13] (by kernel_rfl) (by kernel_rfl) rfl ?_
      simp (disch := omega) only [push_cast, simprocAttr, e0]
      (repeat (refine ⟨by first | omega | (refine ⟨?_, ?_⟩ <;> omega) | trivial | (simp; done) | decide +kernel, fun _ => ?_⟩))
      intro i
      have et : List.take (out.length + pre.length) (List.map (eI .u8) (out ++ pre)) = List.map (eI .u8) (out ++ pre) := List.take_of_length_le (by simp)
      rw [shrB, et]
      have hz := ih (j, pre ++ [u / 256 ^ j % 256], out.length + pre.length + 1 + i) ⟨by dsimp only; omega, by simp; omega, by rw [← hl]; simp [dig]⟩ (by dsimp only; omega)
      dsimp only at hz
      rw [show out ++ (pre ++ [u / 256 ^ j % 256]) = (out ++ pre) ++ [u / 256 ^ j % 256] from (List.append_assoc ..).symm] at hz
      dsimp only [CaE, RowB] at hz
      refine hκ.run 300 ?_
      simp (disch := omega) only [push_cast, simprocAttr, e0]
      simp only [List.length_append, List.length_cons, List.length_nil, List.length_singleton, List.length_map, List.length_set, List.length_replicate, Nat.zero_add, Nat.add_zero, Int.natCast_add, Int.natCast_one, Int.ofNat_eq_natCast, List.map_append, List.map_cons, List.map_nil, List.take_length, eI, eB] at hz ⊢
      refine Sat.via (fun i => if i = 3 then 5 else i) (hz) (by intro i j; (repeat (first | omega | split))) (by repeat' (first | exact EnvVia.nil | refine EnvVia.cons (by first | trivial | decide | (simp [SV.bnd, SV.bndL]; done)) rfl ?_)) (by repeat' (first | exact HeapVia.nil | refine HeapVia.cons (by decide) (by first | trivial | exact Blk.bnd_own0 (by assumption) | (simp [Blk.bnd, SV.bnd, SV.bndL]; done) | exact bndL_mapV _ _ _ | exact LR.bnd (by rw [l2]; simp [bndE, SV.bnd, SV.bndL]) (by rw [l6]; decide)) (by first | (rw [Blk.ren_own0 (by assumption)]; rfl) | rfl | (simp only [Blk.ren, renL_mapV]; rfl) | (rw [LR.ren (by rw [l2] <;> rfl) (by rw [l6] <;> rfl)]; rfl)) ?_)) ⟨by have := hκ.hm; (try dsimp only at this); (first | done | omega), fun i hi => by have := hκ.hm; (try dsimp only at this); (first | omega | (dsimp only; omega) | (rw [if_neg (by omega)]))⟩ ⟨by simp, rfl⟩
theorem oneBE (cs : List SV) (T i : Nat) (hcs : SV.bndL 0 cs) (x : Int) (hi : cut cs i 1 = some [.v (.int .i64 x)]) (s : Out) (cap : Nat) (hs : s.1.length < 2 ^ 45) (hcap : s.1.length ≤ cap) :
    Con Try.prog gl0 (fnv 59) [.ptr 0 0 0 0, I 2, .ptr 1 0 0 i] 3 [(0, CaE 2 cap s), (1, .own cs T), (2, RowB cap s)] (RetE (e1 2 x s) cs T 3 vd) := by
  obtain ⟨out, bad⟩ := s
  have he : e1 2 x (out, bad) = (out ++ dig (uM x) 2, bad || decide (uM x / 65536 ≠ 0)) := by simp [e1]
  rw [he]
  clear he
  dsimp only at hs hcap ⊢
  obtain ⟨u0, u1⟩ := uM_bd x
  have hw : IntKind.u64.wrap x = uM x := wrap_u64_mod x
  generalize hu : uM x = u at *
  refine Con.of Try.ok59 (nt := 90) (res := []) Try.mixed Try.func59 rfl rfl rfl rfl fun κ xc hκ => hκ.run 300 ?_
  simp (disch := omega) only [push_cast, simprocAttr, hi, hw]
  apply Sat.join (α := Unit) (nx := 3) (dfs := []) (fun _ => True) (fun _ => ([(7, I (2 - 1)), (6, .v (.int .u64 u)), (0, .ptr 0 0 0 0)], [(0, CaE 2 cap (out, bad || decide (u / 65536 ≠ 0))), (1, .own cs T), (2, RowB cap (out, bad || decide (u / 65536 ≠ 0)))]))
  · intro hj
    have hj := hj () trivial
    dsimp only at hj
    (first | refine OutOK_guard (fun h => ?_) (fun h => ?_) | refine GF.of (fun h => ?_) (fun h => ?_)) <;> try simp only [Bool.not_true, Bool.not_false, decide_eq_true_eq, decide_eq_false_iff_not, Bool.not_eq_true', Bool.not_eq_false', Bool.and_eq_true, Bool.or_eq_false_iff, Bool.or_eq_true, Bool.and_eq_false_iff] at h
    · simp (disch := omega) only [push_cast, simprocAttr, hi, hw]
      rw [show (bad || decide (u / 65536 ≠ 0)) = !decide (u / 65536 = 0) by simp [h]] at hj
      exact hj.less (by repeat' (first | exact EnvSub.nil _ | exact HeapSub.nil _ | refine EnvSub.cons rfl ?_ | refine HeapSub.cons rfl ?_ | (refine EnvSub.cons (by simp [Env.get]; done) ?_) | (refine HeapSub.cons (by simp [Heap.get]; done) ?_))) (by repeat' (first | exact EnvSub.nil _ | exact HeapSub.nil _ | refine EnvSub.cons rfl ?_ | refine HeapSub.cons rfl ?_ | (refine EnvSub.cons (by simp [Env.get]; done) ?_) | (refine HeapSub.cons (by simp [Heap.get]; done) ?_)))
    · simp (disch := omega) only [push_cast, simprocAttr, hi, hw]
      rw [show (bad || decide (u / 65536 ≠ 0)) = true by simp [h]] at hj
      exact hj.less (by repeat' (first | exact EnvSub.nil _ | exact HeapSub.nil _ | refine EnvSub.cons rfl ?_ | refine HeapSub.cons rfl ?_ | (refine EnvSub.cons (by simp [Env.get]; done) ?_) | (refine HeapSub.cons (by simp [Heap.get]; done) ?_))) (by repeat' (first | exact EnvSub.nil _ | exact HeapSub.nil _ | refine EnvSub.cons rfl ?_ | refine HeapSub.cons rfl ?_ | (refine EnvSub.cons (by simp [Env.get]; done) ?_) | (refine HeapSub.cons (by simp [Heap.get]; done) ?_)))
  intro _ _
  dsimp only
  generalize (bad || decide (u / 65536 ≠ 0)) = bad2 at hκ ⊢
  refine Sat.fresh 2 (by omega) (by repeat' (first | exact Once.nil | refine Once.cons (by simp) ?_)) ?_
  simp only [renE, renH, List.map_cons, List.map_nil, SV.ren, SV.renL, Blk.ren, SV.renL_closed hcs, Nat.reduceEqDiff, Nat.reduceAdd, ↓reduceIte]
  refine Sat.less (Sat.loop (γ := Nat × List Int × Nat) (fun g => ([(7, I ((g.1 : Int) - 1)), (6, .v (.int .u64 u)), (0, .ptr 0 0 0 0)], [(0, CaE 3 g.2.2 (out ++ g.2.1, bad2)), (1, .own cs T), (3, RowB g.2.2 (out ++ g.2.1, bad2))], 4)) (fun g => g.1) (fun g => g.1 ≤ 2 ∧ out.length + g.2.1.length ≤ g.2.2 ∧ g.2.1 ++ dig u g.1 = dig u 2) ?round (2, [], cap) ⟨Nat.le_refl _, by simpa using hcap, rfl⟩) (by repeat' (first | exact EnvSub.nil _ | exact HeapSub.nil _ | refine EnvSub.cons rfl ?_ | refine HeapSub.cons rfl ?_ | (refine EnvSub.cons (by simp [Env.get]; done) ?_) | (refine HeapSub.cons (by simp [Heap.get]; done) ?_))) (by simp only [List.append_nil]; exact (by repeat' (first | exact EnvSub.nil _ | exact HeapSub.nil _ | refine EnvSub.cons rfl ?_ | refine HeapSub.cons rfl ?_ | (refine EnvSub.cons (by simp [Env.get]; done) ?_) | (refine HeapSub.cons (by simp [Heap.get]; done) ?_))))
  case round =>
    rintro ⟨k, pre, cp⟩ ⟨hk, hcp, hl⟩ ih
    dsimp only at hk hcp hl ih ⊢
    have hpl : pre.length + k = 2 := by have := congrArg List.length hl; simpa [dig_length] using this
    rcases k with _ | j
    · skip
      refine hκ.run 300 ?_
      simp (disch := omega) only [push_cast, simprocAttr]
      refine hκ.ret _ _ _ _ _ _ trivial rfl ?_
      rw [show dig u 2 = pre by rw [← hl]; simp [dig]]
      exact Post.via 4 id vd _ ⟨cp, by simpa using hcp, rfl, rfl, rfl⟩ rfl trivial (fun _ _ _ _ h => h) (by repeat' (first | exact HeapVia.nil | refine HeapVia.cons (by decide) (by first | trivial | (simp [Blk.bnd, SV.bnd, SV.bndL]; done) | exact SV.bndL_mono (Nat.zero_le _) _ hcs) (by first | rfl | (simp only [Blk.ren, SV.renL_closed hcs]; rfl)) ?_)) ⟨by decide, fun _ _ => rfl⟩
    · have e0 : (j : Int) + 1 - 1 = j := by omega
      refine hκ.run 300 ?_
      simp (disch := omega) only [push_cast, simprocAttr, e0]
      refine OutOK_fork (fun _ => ?_) (fun h => (by first | (have h := of_decide_eq_false h; omega) | (simp only [Bool.not_true, Bool.not_false, decide_eq_true_eq, decide_eq_false_iff_not, Bool.not_eq_true', Bool.not_eq_false', Bool.and_eq_true, Bool.or_eq_false_iff, Bool.or_eq_true, Bool.and_eq_false_iff] at h; omega)))
      simp (disch := omega) only [push_cast, simprocAttr, e0]
      refine hκ.draw (.q 0 (.q 1 (.q 2 (.q 3 (.q 4 (.q 5 (.q 6 (.q 7 (.q 8 (.q 9 (.l 10 [4] (.l 11 [] (.q 12 (.q 13 (.l 14 [] (.fin)))))))))))))))) [0, 1, 2, 3, 4, 5, 6, 7, 8, 9, 12, 13] (by kernel_rfl) (by kernel_rfl) rfl ?_
      simp (disch := omega) only [push_cast, simprocAttr, e0]
      (repeat (refine ⟨by first | omega | (refine ⟨?_, ?_⟩ <;> omega) | trivial | (simp; done) | decide +kernel, fun _ => ?_⟩))
      intro i
      have et : List.take (out.length + pre.length) (List.map (eI .u8) (out ++ pre)) = List.map (eI .u8) (out ++ pre) := List.take_of_length_le (by simp)
      rw [shrB, et]
      have hz := ih (j, pre ++ [u / 256 ^ j % 256], out.length + pre.length + 1 + i) ⟨by dsimp only; omega, by simp; omega, by rw [← hl]; simp [dig]⟩ (by dsimp only; omega)
      dsimp only at hz
      rw [show out ++ (pre ++ [u / 256 ^ j % 256]) = (out ++ pre) ++ [u / 256 ^ j % 256] from (List.append_assoc ..).symm] at hz
      dsimp only [CaE, RowB] at hz
      refine hκ.run 300 ?_
      simp (disch := omega) only [push_cast, simprocAttr, e0]
      simp only [List.length_append, List.length_cons, List.length_nil, List.length_singleton, List.length_map, List.length_set, List.length_replicate, Nat.zero_add, Nat.add_zero, Int.natCast_add, Int.natCast_one, Int.ofNat_eq_natCast, List.map_append, List.map_cons, List.map_nil, List.take_length, eI, eB] at hz ⊢
      refine Sat.via (fun i => if i = 3 then 5 else i) (hz) (by intro i j; (repeat (first | omega | split))) (by repeat' (first | exact EnvVia.nil | refine EnvVia.cons (by first | trivial | decide | (simp [SV.bnd, SV.bndL]; done)) rfl ?_)) (by repeat' (first | exact HeapVia.nil | refine HeapVia.cons (by decide) (by first | trivial | exact Blk.bnd_own0 (by assumption) | (simp [Blk.bnd, SV.bnd, SV.bndL]; done) | exact bndL_mapV _ _ _ | exact LR.bnd (by rw [l2]; simp [bndE, SV.bnd, SV.bndL]) (by rw [l6]; decide)) (by first | (rw [Blk.ren_own0 (by assumption)]; rfl) | rfl | (simp only [Blk.ren, renL_mapV]; rfl) | (rw [LR.ren (by rw [l2] <;> rfl) (by rw [l6] <;> rfl)]; rfl)) ?_)) ⟨by have := hκ.hm; (try dsimp only at this); (first | done | omega), fun i hi => by have := hκ.hm; (try dsimp only at this); (first | omega | (dsimp only; omega) | (rw [if_neg (by omega)]))⟩ ⟨by simp, rfl⟩
theorem oneCE (cs : List SV) (T i : Nat) (hcs : SV.bndL 0 cs) (x : Int) (hi : cut cs i 1 = some [.v (.int .u32 x)]) (s : Out) (cap : Nat) (hs : s.1.length < 2 ^ 45) (hcap : s.1.length ≤ cap) :
    Con Try.prog gl0 (fnv 72) [.ptr 0 0 0 0, I 4, .ptr 1 0 0 i] 3 [(0, CaE 2 cap s), (1, .own cs T), (2, RowB cap s)] (RetE (e1 4 x s) cs T 3 vd) := by
  obtain ⟨out, bad⟩ := s
  have he : e1 4 x (out, bad) = (out ++ dig (uM x) 4, bad || decide (uM x / 4294967296 ≠ 0)) := by simp [e1]
  rw [he]
  clear he
  dsimp only at hs hcap ⊢
  obtain ⟨u0, u1⟩ := uM_bd x
  have hw : IntKind.u64.wrap x = uM x := wrap_u64_mod x
  generalize hu : uM x = u at *
  refine Con.of Try.ok72 (nt := 90) (res := []) Try.mixed Try.func72 rfl rfl rfl rfl fun κ xc hκ => hκ.run 300 ?_
  simp (disch := omega) only [push_cast, simprocAttr, hi, hw]
  apply Sat.join (α := Unit) (nx := 3) (dfs := []) (fun _ => True) (fun _ => ([(7, I (4 - 1)), (6, .v (.int .u64 u)), (0, .ptr 0 0 0 0)], [(0, CaE 2 cap (out, bad || decide (u / 4294967296 ≠ 0))), (1, .own cs T), (2, RowB cap (out, bad || decide (u / 4294967296 ≠ 0)))]))
  · intro hj
    have hj := hj () trivial
    dsimp only at hj
    (first | refine OutOK_guard (fun h => ?_) (fun h => ?_) | refine GF.of (fun h => ?_) (fun h => ?_)) <;> try simp only [Bool.not_true, Bool.not_false, decide_eq_true_eq, decide_eq_false_iff_not, Bool.not_eq_true', Bool.not_eq_false', Bool.and_eq_true, Bool.or_eq_false_iff, Bool.or_eq_true, Bool.and_eq_false_iff] at h
    · simp (disch := omega) only [push_cast, simprocAttr, hi, hw]
      rw [show (bad || decide (u / 4294967296 ≠ 0)) = !decide (u / 4294967296 = 0) by simp [h]] at hj
      exact hj.less (by repeat' (first | exact EnvSub.nil _ | exact HeapSub.nil _ | refine EnvSub.cons rfl ?_ | refine HeapSub.cons rfl ?_ | (refine EnvSub.cons (by simp [Env.get]; done) ?_) | (refine HeapSub.cons (by simp [Heap.get]; done) ?_))) (by repeat' (first | exact EnvSub.nil _ | exact HeapSub.nil _ | refine EnvSub.cons rfl ?_ | refine HeapSub.cons rfl ?_ | (refine EnvSub.cons (by simp [Env.get]; done) ?_) | (refine HeapSub.cons (by simp [Heap.get]; done) ?_)))
    · simp (disch := omega) only [push_cast, simprocAttr, hi, hw]
      rw [show (bad || decide (u / 4294967296 ≠ 0)) = true by simp [h]] at hj
      exact hj.less (by repeat' (first | exact EnvSub.nil _ | exact HeapSub.nil _ | refine EnvSub.cons rfl ?_ | refine HeapSub.cons rfl ?_ | (refine EnvSub.cons (by simp [Env.get]; done) ?_) | (refine HeapSub.cons (by simp [Heap.get]; done) ?_))) (by repeat' (first | exact EnvSub.nil _ | exact HeapSub.nil _ | refine EnvSub.cons rfl ?_ | refine HeapSub.cons rfl ?_ | (refine EnvSub.cons (by simp [Env.get]; done) ?_) | (refine HeapSub.cons (by simp [Heap.get]; done) ?_)))
  intro _ _
  dsimp only
  generalize (bad || decide (u / 4294967296 ≠ 0)) = bad2 at hκ ⊢
  refine Sat.fresh 2 (by omega) (by repeat' (first | exact Once.nil | refine Once.cons (by simp) ?_)) ?_
  simp only [renE, renH, List.map_cons, List.map_nil, SV.ren, SV.renL, Blk.ren, SV.renL_closed hcs, Nat.reduceEqDiff, Nat.reduceAdd, ↓reduceIte]
  refine Sat.less (Sat.loop (γ := Nat × List Int × Nat) (fun g => ([(7, I ((g.1 : Int) - 1)), (6, .v (.int .u64 u)), (0, .ptr 0 0 0 0)], [(0, CaE 3 g.2.2 (out ++ g.2.1, bad2)), (1, .own cs T), (3, RowB g.2.2 (out ++ g.2.1, bad2))], 4)) (fun g => g.1) (fun g => g.1 ≤ 4 ∧ out.length + g.2.1.length ≤ g.2.2 ∧ g.2.1 ++ dig u g.1 = dig u 4) ?round (4, [], cap) ⟨Nat.le_refl _, by simpa using hcap, rfl⟩) (by repeat' (first | exact EnvSub.nil _ | exact HeapSub.nil _ | refine EnvSub.cons rfl ?_ | refine HeapSub.cons rfl ?_ | (refine EnvSub.cons (by simp [Env.get]; done) ?_) | (refine HeapSub.cons (by simp [Heap.get]; done) ?_))) (by simp only [List.append_nil]; exact (by repeat' (first | exact EnvSub.nil _ | exact HeapSub.nil _ | refine EnvSub.cons rfl ?_ | refine HeapSub.cons rfl ?_ | (refine EnvSub.cons (by simp [Env.get]; done) ?_) | (refine HeapSub.cons (by simp [Heap.get]; done) ?_))))
  case round =>
    rintro ⟨k, pre, cp⟩ ⟨hk, hcp, hl⟩ ih
    dsimp only at hk hcp hl ih ⊢
    have hpl : pre.length + k = 4 := by have := congrArg List.length hl; simpa [dig_length] using this
    rcases k with _ | j
    · skip
      refine hκ.run 300 ?_
      simp (disch := omega) only [push_cast, simprocAttr]
      refine hκ.ret _ _ _ _ _ _ trivial rfl ?_
      rw [show dig u 4 = pre by rw [← hl]; simp [dig]]
      exact Post.via 4 id vd _ ⟨cp, by simpa using hcp, rfl, rfl, rfl⟩ rfl trivial (fun _ _ _ _ h => h) (by repeat' (first | exact HeapVia.nil | refine HeapVia.cons (by decide) (by first | trivial | (simp [Blk.bnd, SV.bnd, SV.bndL]; done) | exact SV.bndL_mono (Nat.zero_le _) _ hcs) (by first | rfl | (simp only [Blk.ren, SV.renL_closed hcs]; rfl)) ?_)) ⟨by decide, fun _ _ => rfl⟩
    · have e0 : (j : Int) + 1 - 1 = j := by omega
      refine hκ.run 300 ?_
      simp (disch := omega) only [push_cast, simprocAttr, e0]
      refine OutOK_fork (fun _ => ?_) (fun h => (by first | (have h := of_decide_eq_false h; omega) | (simp only [Bool.not_true, Bool.not_false, decide_eq_true_eq, decide_eq_false_iff_not, Bool.not_eq_true', Bool.not_eq_false', Bool.and_eq_true, Bool.or_eq_false_iff, Bool.or_eq_true, Bool.and_eq_false_iff] at h; omega)))
      simp (disch := omega) only [push_cast, simprocAttr, e0]
      refine hκ.draw (.q 0 (.q 1 (.q 2 (.q 3 (.q 4 (.q 5 (.q 6 (.q 7 (.q 8 (.q 9 (.l 10 [4] (.l 11 [] (.q 12 (.q 13 (.l 14 [] (.fin)))))))))))))))) [0, 1, 2, 3, 4, 5, 6, 7, 8, 9, 12, 13] (by kernel_rfl) (by kernel_rfl) rfl ?_
      simp (disch := omega) only [push_cast, simprocAttr, e0]
      (repeat (refine ⟨by first | omega | (refine ⟨?_, ?_⟩ <;> omega) | trivial | (simp; done) | decide +kernel, fun _ => ?_⟩))
      intro i
      have et : List.take (out.length + pre.length) (List.map (eI .u8) (out ++ pre)) = List.map (eI .u8) (out ++ pre) := List.take_of_length_le (by simp)
      rw [shrB, et]
      have hz := ih (j, pre ++ [u / 256 ^ j % 256], out.length + pre.length + 1 + i) ⟨by dsimp only; omega, by simp; omega, by rw [← hl]; simp [dig]⟩ (by dsimp only; omega)
      dsimp only at hz
      rw [show out ++ (pre ++ [u / 256 ^ j % 256]) = (out ++ pre) ++ [u / 256 ^ j % 256] from (List.append_assoc ..).symm] at hz
      dsimp only [CaE, RowB] at hz
      refine hκ.run 300 ?_
      simp (disch := omega) only [push_cast, simprocAttr, e0]
      simp only [List.length_append, List.length_cons, List.length_nil, List.length_singleton, List.length_map, List.length_set, List.length_replicate, Nat.zero_add, Nat.add_zero, Int.natCast_add, Int.natCast_one, Int.ofNat_eq_natCast, List.map_append, List.map_cons, List.map_nil, List.take_length, eI, eB] at hz ⊢
      refine Sat.via (fun i => if i = 3 then 5 else i) (hz) (by intro i j; (repeat (first | omega | split))) (by repeat' (first | exact EnvVia.nil | refine EnvVia.cons (by first | trivial | decide | (simp [SV.bnd, SV.bndL]; done)) rfl ?_)) (by repeat' (first | exact HeapVia.nil | refine HeapVia.cons (by decide) (by first | trivial | exact Blk.bnd_own0 (by assumption) | (simp [Blk.bnd, SV.bnd, SV.bndL]; done) | exact bndL_mapV _ _ _ | exact LR.bnd (by rw [l2]; simp [bndE, SV.bnd, SV.bndL]) (by rw [l6]; decide)) (by first | (rw [Blk.ren_own0 (by assumption)]; rfl) | rfl | (simp only [Blk.ren, renL_mapV]; rfl) | (rw [LR.ren (by rw [l2] <;> rfl) (by rw [l6] <;> rfl)]; rfl)) ?_)) ⟨by have := hκ.hm; (try dsimp only at this); (first | done | omega), fun i hi => by have := hκ.hm; (try dsimp only at this); (first | omega | (dsimp only; omega) | (rw [if_neg (by omega)]))⟩ ⟨by simp, rfl⟩
theorem oneDE (cs : List SV) (T i : Nat) (hcs : SV.bndL 0 cs) (x : Int) (hi : cut cs i 1 = some [.v (.int .i64 x)]) (s : Out) (cap : Nat) (hs : s.1.length < 2 ^ 45) (hcap : s.1.length ≤ cap) :
    Con Try.prog gl0 (fnv 52) [.ptr 0 0 0 0, I 8, .ptr 1 0 0 i] 3 [(0, CaE 2 cap s), (1, .own cs T), (2, RowB cap s)] (RetE (e1 8 x s) cs T 3 vd) := by
  obtain ⟨out, bad⟩ := s
  have he : e1 8 x (out, bad) = (out ++ dig (uM x) 8, bad) := by simp [e1]
  rw [he]
  dsimp only at hs hcap ⊢
  obtain ⟨u0, u1⟩ := uM_bd x
  have hw : IntKind.u64.wrap x = uM x := wrap_u64_mod x
  generalize hu : uM x = u at *
  clear he
  have hx : ∀ κ xc, Sat κ xc ⟨[], [], [], 3, []⟩ → True := fun _ _ _ => trivial
  refine Con.of Try.ok52 (nt := 90) (res := []) Try.mixed Try.func52 rfl rfl rfl rfl fun κ xc hκ => hκ.run 300 ?_
  simp (disch := omega) only [push_cast, simprocAttr, hi, hw]
  apply Sat.join (α := Unit) (nx := 3) (dfs := []) (fun _ => True) (fun _ => ([(7, I (8 - 1)), (6, .v (.int .u64 u)), (0, .ptr 0 0 0 0)], [(0, CaE 2 cap (out, bad)), (1, .own cs T), (2, RowB cap (out, bad))]))
  · intro hj
    have hj := hj () trivial
    dsimp only at hj
    (first | refine OutOK_guard (fun h => ?_) (fun h => ?_) | refine GF.of (fun h => ?_) (fun h => ?_)) <;> try simp only [Bool.not_true, Bool.not_false, decide_eq_true_eq, decide_eq_false_iff_not, Bool.not_eq_true', Bool.not_eq_false', Bool.and_eq_true, Bool.or_eq_false_iff, Bool.or_eq_true, Bool.and_eq_false_iff] at h
    · simp (disch := omega) only [push_cast, simprocAttr, hi, hw]
      rw [h] at hj
      exact hj.less (by repeat' (first | exact EnvSub.nil _ | exact HeapSub.nil _ | refine EnvSub.cons rfl ?_ | refine HeapSub.cons rfl ?_ | (refine EnvSub.cons (by simp [Env.get]; done) ?_) | (refine HeapSub.cons (by simp [Heap.get]; done) ?_))) (by repeat' (first | exact EnvSub.nil _ | exact HeapSub.nil _ | refine EnvSub.cons rfl ?_ | refine HeapSub.cons rfl ?_ | (refine EnvSub.cons (by simp [Env.get]; done) ?_) | (refine HeapSub.cons (by simp [Heap.get]; done) ?_)))
    · simp (disch := omega) only [push_cast, simprocAttr, hi, hw]
      rw [h] at hj
      exact hj.less (by repeat' (first | exact EnvSub.nil _ | exact HeapSub.nil _ | refine EnvSub.cons rfl ?_ | refine HeapSub.cons rfl ?_ | (refine EnvSub.cons (by simp [Env.get]; done) ?_) | (refine HeapSub.cons (by simp [Heap.get]; done) ?_))) (by repeat' (first | exact EnvSub.nil _ | exact HeapSub.nil _ | refine EnvSub.cons rfl ?_ | refine HeapSub.cons rfl ?_ | (refine EnvSub.cons (by simp [Env.get]; done) ?_) | (refine HeapSub.cons (by simp [Heap.get]; done) ?_)))
  intro _ _
  dsimp only
  generalize hb2 : bad = bad2 at hκ ⊢
  refine Sat.fresh 2 (by omega) (by repeat' (first | exact Once.nil | refine Once.cons (by simp) ?_)) ?_
  simp only [renE, renH, List.map_cons, List.map_nil, SV.ren, SV.renL, Blk.ren, SV.renL_closed hcs, Nat.reduceEqDiff, Nat.reduceAdd, ↓reduceIte]
  refine Sat.less (Sat.loop (γ := Nat × List Int × Nat) (fun g => ([(7, I ((g.1 : Int) - 1)), (6, .v (.int .u64 u)), (0, .ptr 0 0 0 0)], [(0, CaE 3 g.2.2 (out ++ g.2.1, bad2)), (1, .own cs T), (3, RowB g.2.2 (out ++ g.2.1, bad2))], 4)) (fun g => g.1) (fun g => g.1 ≤ 8 ∧ out.length + g.2.1.length ≤ g.2.2 ∧ g.2.1 ++ dig u g.1 = dig u 8) ?round (8, [], cap) ⟨Nat.le_refl _, by simpa using hcap, rfl⟩) (by repeat' (first | exact EnvSub.nil _ | exact HeapSub.nil _ | refine EnvSub.cons rfl ?_ | refine HeapSub.cons rfl ?_ | (refine EnvSub.cons (by simp [Env.get]; done) ?_) | (refine HeapSub.cons (by simp [Heap.get]; done) ?_))) (by simp only [List.append_nil]; exact (by repeat' (first | exact EnvSub.nil _ | exact HeapSub.nil _ | refine EnvSub.cons rfl ?_ | refine HeapSub.cons rfl ?_ | (refine EnvSub.cons (by simp [Env.get]; done) ?_) | (refine HeapSub.cons (by simp [Heap.get]; done) ?_))))
  case round =>
    rintro ⟨k, pre, cp⟩ ⟨hk, hcp, hl⟩ ih
    dsimp only at hk hcp hl ih ⊢
    have hpl : pre.length + k = 8 := by have := congrArg List.length hl; simpa [dig_length] using this
    rcases k with _ | j
    · skip
      refine hκ.run 300 ?_
      simp (disch := omega) only [push_cast, simprocAttr]
      refine hκ.ret _ _ _ _ _ _ trivial rfl ?_
      rw [show dig u 8 = pre by rw [← hl]; simp [dig]]
      exact Post.via 4 id vd _ ⟨cp, by simpa using hcp, rfl, rfl, rfl⟩ rfl trivial (fun _ _ _ _ h => h) (by repeat' (first | exact HeapVia.nil | refine HeapVia.cons (by decide) (by first | trivial | (simp [Blk.bnd, SV.bnd, SV.bndL]; done) | exact SV.bndL_mono (Nat.zero_le _) _ hcs) (by first | rfl | (simp only [Blk.ren, SV.renL_closed hcs]; rfl)) ?_)) ⟨by decide, fun _ _ => rfl⟩
    · have e0 : (j : Int) + 1 - 1 = j := by omega
      refine hκ.run 300 ?_
      simp (disch := omega) only [push_cast, simprocAttr, e0]
      refine OutOK_fork (fun _ => ?_) (fun h => (by first | (have h := of_decide_eq_false h; omega) | (simp only [Bool.not_true, Bool.not_false, decide_eq_true_eq, decide_eq_false_iff_not, Bool.not_eq_true', Bool.not_eq_false', Bool.and_eq_true, Bool.or_eq_false_iff, Bool.or_eq_true, Bool.and_eq_false_iff] at h; omega)))
      simp (disch := omega) only [push_cast, simprocAttr, e0]
      refine hκ.draw (.q 0 (.q 1 (.q 2 (.q 3 (.q 4 (.q 5 (.q 6 (.q 7 (.q 8 (.q 9 (.l 10 [4] (.l 11 [] (.q 12 (.q 13 (.l 14 [] (.fin)))))))))))))))) [0, 1, 2, 3, 4, 5, 6, 7, 8, 9, 12, 13] (by kernel_rfl) (by kernel_rfl) rfl ?_
      simp (disch := omega) only [push_cast, simprocAttr, e0]
      (repeat (refine ⟨by first | omega | (refine ⟨?_, ?_⟩ <;> omega) | trivial | (simp; done) | decide +kernel, fun _ => ?_⟩))
      intro i
      have et : List.take (out.length + pre.length) (List.map (eI .u8) (out ++ pre)) = List.map (eI .u8) (out ++ pre) := List.take_of_length_le (by simp)
      rw [shrB, et]
      have hz := ih (j, pre ++ [u / 256 ^ j % 256], out.length + pre.length + 1 + i) ⟨by dsimp only; omega, by simp; omega, by rw [← hl]; simp [dig]⟩ (by dsimp only; omega)
      dsimp only at hz
      rw [show out ++ (pre ++ [u / 256 ^ j % 256]) = (out ++ pre) ++ [u / 256 ^ j % 256] from (List.append_assoc ..).symm] at hz
      dsimp only [CaE, RowB] at hz
      refine hκ.run 300 ?_
      simp (disch := omega) only [push_cast, simprocAttr, e0]
      simp only [List.length_append, List.length_cons, List.length_nil, List.length_singleton, List.length_map, List.length_set, List.length_replicate, Nat.zero_add, Nat.add_zero, Int.natCast_add, Int.natCast_one, Int.ofNat_eq_natCast, List.map_append, List.map_cons, List.map_nil, List.take_length, eI, eB] at hz ⊢
      refine Sat.via (fun i => if i = 3 then 5 else i) (hz) (by intro i j; (repeat (first | omega | split))) (by repeat' (first | exact EnvVia.nil | refine EnvVia.cons (by first | trivial | decide | (simp [SV.bnd, SV.bndL]; done)) rfl ?_)) (by repeat' (first | exact HeapVia.nil | refine HeapVia.cons (by decide) (by first | trivial | exact Blk.bnd_own0 (by assumption) | (simp [Blk.bnd, SV.bnd, SV.bndL]; done) | exact bndL_mapV _ _ _ | exact LR.bnd (by rw [l2]; simp [bndE, SV.bnd, SV.bndL]) (by rw [l6]; decide)) (by first | (rw [Blk.ren_own0 (by assumption)]; rfl) | rfl | (simp only [Blk.ren, renL_mapV]; rfl) | (rw [LR.ren (by rw [l2] <;> rfl) (by rw [l6] <;> rfl)]; rfl)) ?_)) ⟨by have := hκ.hm; (try dsimp only at this); (first | done | omega), fun i hi => by have := hκ.hm; (try dsimp only at this); (first | omega | (dsimp only; omega) | (rw [if_neg (by omega)]))⟩ ⟨by simp, rfl⟩
end Go.Proofs.Ytmieikflcolbaaa

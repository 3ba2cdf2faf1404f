/- A topology's bytes. No condition. -/
import Derived.Test.YtbgnnmlhpaaebaaDoorTa
import Derived.Test.YtbgnnmlhpaaebaaDoorBy
namespace Go.Proofs.YtbgnnmlhpaaebaaDoor
open Go Go.Sy
set_option maxRecDepth 100000
set_option linter.unusedSimpArgs false
set_option linter.unusedVariables false

def encK (l : List Sea) (k : Nat) : List Int := (l.length : Int) :: (l.take k).flatMap fun s => [s.1, s.2]
abbrev encB (l : List Sea) : List Int := encK l l.length
theorem encK_succ {l : List Sea} {k : Nat} (h : k < l.length) : encK l (k + 1) = encK l k ++ [(l.getD k default).1, (l.getD k default).2] := by
  rw [encK, take_getD h, List.flatMap_append]; rfl
theorem encK_len (l : List Sea) : ∀ k, k ≤ l.length → (encK l k).length = 1 + 2 * k
  | 0, _ => rfl
  | k + 1, h => by rw [encK_succ (by omega), List.length_append, encK_len l k (by omega)]; simp; omega
theorem encB_isB {l : List Sea} (h : okTs l = true) : isB (encB l) := fun n hn => by
  have h0 := (okTs_iff l).1 h
  rcases List.mem_cons.1 hn with rfl | hn
  · omega
  · obtain ⟨s, hs, hn⟩ := List.mem_flatMap.1 hn
    have h1 := (okT_iff s).1 (h0.1 s (List.mem_of_mem_take hs))
    simp at hn
    omega
theorem encode_ok (l : List Sea) (hl : ∀ s ∈ l, inT s) (hn : l.length < 2 ^ 40) : Con Tryd.prog gl0 (fnv 32) [To l] 0 [] (Ret (.tup [By (if okTs l = true then encB l else []), I (if okTs l = true then 0 else 160)])) := by
  have c1 := tcheck_ok l hl hn
  suffices H : Con Tryd.prog gl0 (fnv 32) [To l] 0 [] (Ret (if okTs l = true then .tup [By (encB l), I 0] else .tup [.v (.slice none 0 0), I 160])) by
    by_cases ho : okTs l = true
    · rw [if_pos ho] at H; rw [if_pos ho, if_pos ho]; exact H
    · rw [if_neg ho] at H; rw [if_neg ho, if_neg ho]; exact Con.repR (fun _ => Rel.tupMap nil1) H
  refine Con.of Tryd.ok32 (nt := 36) (res := [.tmp 2, .tmp 3]) Tryd.mixed Tryd.func32 rfl rfl rfl rfl fun κ xc hκ => hκ.run 300 ?_
  simp (disch := omega) only [exec_succ, runR_next, runR_call, stepS, runOp, toSR, sop, rOf, rNew, sBox, isArr, sLoadIn, sLoad, ev, evs, Env.get, Heap.get, takeN, cut, aggOf, cellsS, envOf, OutOK_call, Bool.false_eq_true, List.size_toArray, List.length_cons, List.length_nil, List.range, List.range.loop, List.getElem?_toArray, List.getElem?_cons_succ, List.getElem?_cons_zero, ↓reduceIte, Nat.reduceAdd, Nat.reduceLT, Nat.reduceEqDiff, Nat.zero_add, gl0, Tryd.sz24, Tryd.ag24]
  by_cases ho : okTs l = true
  case neg =>
    rw [if_neg ho] at hκ c1
    refine Does.ret hκ.hP hκ.hgl (c1) ⟨trivial, by simp [SV.bnd, SV.bndL], by first | (simp [SV.bnd, SV.bndL]; done) | assumption⟩ ?_
    refine hκ.run 300 ?_
    simp (disch := omega) only [exec_succ, runR_next, runR_fork_true, runR_stop, stepS, runOp, condS, toSR, sop, rOf, sInt, sBin, ev, Env.get, setO, OutOK_stop, List.size_toArray, List.length_cons, List.length_nil, List.range, List.range.loop, List.getElem?_toArray, List.getElem?_cons_succ, List.getElem?_cons_zero, ↓reduceIte, Nat.reduceAdd, Nat.reduceLT, Nat.reduceEqDiff, Nat.zero_add, Int.reduceEq, Bool.not_false, decide_false, gl0]
    refine hκ.ret _ _ _ _ _ _ trivial rfl ?_
    exact .ret (by simp [SV.bnd, SV.bndL])
  rw [if_pos ho] at hκ c1
  refine Does.ret hκ.hP hκ.hgl (c1) ⟨trivial, by simp [SV.bnd, SV.bndL], by first | (simp [SV.bnd, SV.bndL]; done) | assumption⟩ ?_
  have h0 := (okTs_iff l).1 ho
  refine hκ.run 300 ?_
  simp (disch := omega) only [sBuiltin, exec_succ, runR_next, runR_need, runR_fork_false, runR_stop, stepS, runOp, condS, toSR, sop, rOf, rNew, isArr, sLoadIn, sLoad, sInt, sBin, sConv, sFieldAddr, sLen, sliceT, obind, fillS, evps, repeatL, sBuildSlice, chunk, ev, svs, Env.get, Heap.get, takeN, cut, over, paste, aggOf, cellsS, one, ones, idFree, idFrees, setO, Value.cells, Value.oneCell', OutOK_need, OutOK_stop, Bool.and_true, List.take_succ_cons, List.take_nil, List.size_toArray, List.length_cons, List.length_nil, List.length_map, List.range, List.range.loop, List.getElem?_toArray, List.getElem?_cons_succ, List.getElem?_cons_zero, List.map_cons, List.map_nil, List.append_nil, List.toList_toArray, ↓reduceIte, Nat.reduceAdd, Nat.reduceLT, Nat.reduceLeDiff, Nat.reduceEqDiff, Nat.zero_add, Nat.add_zero, Nat.mul_one, Nat.add_one_ne_zero, Bool.not_true, decide_true, true_and, and_self, forall_const, wrap_u8, gl0, Tryd.underlying3, Tryd.underlying5, Tryd.sz5, Tryd.ze5, Tryd.underlying22, Tryd.sz22, Tryd.ag22, Tryd.fd24f0, Tryd.underlying67]
  refine Sat.less (Sat.loop (γ := Nat × Nat) (fun g => ([(21, I g.1), (20, I l.length), (19, Ss l), (5, .sl 1 1 0 (encK l g.1).length g.2)], [(1, .row 1 g.2 5 ((encK l g.1).map (eI .u8))), (0, .own [Ss l] 24)], 2)) (fun g => l.length - g.1) (fun g => g.1 ≤ l.length ∧ (encK l g.1).length ≤ g.2) ?round (0, 1) ⟨Nat.zero_le _, Nat.le_refl _⟩) (by repeat' (first | exact EnvSub.nil _ | exact HeapSub.nil _ | refine EnvSub.cons rfl ?_ | refine HeapSub.cons rfl ?_ | (refine EnvSub.cons (by simp [Env.get]; done) ?_) | (refine HeapSub.cons (by simp [Heap.get]; done) ?_))) (by repeat' (first | exact EnvSub.nil _ | exact HeapSub.nil _ | refine EnvSub.cons rfl ?_ | refine HeapSub.cons rfl ?_ | (refine EnvSub.cons (by simp [Env.get]; done) ?_) | (refine HeapSub.cons (by simp [Heap.get]; done) ?_)))
  case round =>
    rintro ⟨k, cap⟩ ⟨hk, hcap⟩ ih
    dsimp only at hk hcap ih ⊢
    have hln := encK_len l k hk
    refine hκ.run 300 ?_
    simp (disch := omega) only [exec_succ, runR_next, stepS, runOp, condS, toSR, sop, sInt, sBin, ev, Env.get, List.size_toArray, List.length_cons, List.length_nil, List.range, List.range.loop, List.getElem?_toArray, List.getElem?_cons_zero, ↓reduceIte, Nat.reduceLT, Nat.reduceEqDiff, Nat.zero_add, gl0]
    refine OutOK_fork (fun h => ?_) (fun h => ?_) <;> try simp only [Bool.not_true, Bool.not_false, decide_eq_true_eq, decide_eq_false_iff_not, Bool.not_eq_true', Bool.not_eq_false', Bool.and_eq_true, Bool.or_eq_false_iff, Bool.or_eq_true, Bool.and_eq_false_iff] at h
    · have hz := fun cap h => ih (k + 1, cap) ⟨by dsimp only; omega, h⟩ (by dsimp only; omega)
      dsimp only at hz
      rw [encK_succ (by omega)] at hz
      have hb := (okT_iff _).1 (h0.1 _ (getD_mem (show k < l.length by omega)))
      have gk : (List.map eT l).getD k [] = eT (l.getD k default) := getD_map _ _ _ (by omega)
      generalize encK l k = pre at hz hln hcap ⊢
      generalize l.getD k default = s at hz hb gk
      have et : List.take pre.length (List.map (eI .u8) pre) = List.map (eI .u8) pre := List.take_of_length_le (by simp)
      simp (disch := omega) only [sBuiltin, srcS, appArgS, sAppendTo, sAppend, exec_succ, runR_next, runR_need, runR_all, runR_stop, stepS, runOp, toSR, sop, rOf, rNew, sAlloc, sAlloc0, isArr, sLoadIn, sLoad, sStoreIn, sStore, sInt, sBin, sConv, sFieldAddr, sIndexAddr, elemT, sliceT, obind, fillS, evps, repeatL, sBuildSlice, chunk, ev, svs, Env.get, Heap.get, Heap.set, Heap.drop, takeN, cut, over, paste, aggOf, cellsS, one, ones, idFree, idFrees, Value.cells, Value.oneCell', OutOK_need, OutOK_all, OutOK_stop, undefS, undef, Bool.and_true, List.drop_zero, List.drop_succ_cons, List.take_zero, List.take_succ_cons, List.take_nil, List.size_toArray, List.length_cons, List.length_nil, List.length_map, List.range, List.range.loop, List.getElem?_toArray, List.getElem?_cons_succ, List.getElem?_cons_zero, List.map_cons, List.map_nil, List.append_nil, List.cons_append, List.nil_append, List.toList_toArray, ↓reduceIte, Nat.reduceAdd, Nat.reduceLT, Nat.reduceLeDiff, Nat.reduceEqDiff, Nat.zero_add, Nat.add_zero, Nat.mul_one, Nat.add_one_ne_zero, Int.toNat_natCast, ne_eq, not_false_eq_true, true_and, and_self, forall_const, reduceCtorEq, wrap_i64, wrap_u8, Tryd.underlying3, Tryd.sz3, Tryd.ag3, Tryd.underlying5, Tryd.sz5, Tryd.ze5, Tryd.by5, Tryd.underlying22, Tryd.sz50, Tryd.ag50, Tryd.ze50, Tryd.ar50, Tryd.fd50f0, Tryd.fd50f1, Tryd.underlying67, gk, eT]
      (repeat (refine ⟨by first | omega | (refine ⟨?_, ?_⟩ <;> omega) | trivial | (simp; done) | decide +kernel, fun _ => ?_⟩))
      intro c
      have hy := hz (pre.length + 2 + c) (by first | (simp; done) | (simp; omega))
      simp only [List.length_append, List.length_cons, List.length_nil, List.length_singleton, List.length_map, List.length_set, List.length_replicate, Nat.zero_add, Nat.add_zero, Int.natCast_add, Int.natCast_one, Int.ofNat_eq_natCast, List.map_append, List.map_cons, List.map_nil, List.take_length, eI, eB] at hy ⊢
      rw [et]
      refine Sat.via (fun i => if i = 1 then 4 else i) (hy) (by intro i j; (repeat (first | omega | split))) (by repeat' (first | exact EnvVia.nil | refine EnvVia.cons (by first | trivial | decide | (simp [SV.bnd, SV.bndL]; done)) rfl ?_)) (by repeat' (first | exact HeapVia.nil | refine HeapVia.cons (by decide) (by first | trivial | (simp [Blk.bnd, SV.bnd, SV.bndL]; done) | exact bndL_mapV _ _ _ | exact LR.bnd (by rw [l2]; simp [bndE, SV.bnd, SV.bndL]) (by rw [l6]; decide)) (by first | rfl | (simp only [Blk.ren, renL_mapV]; rfl) | (rw [LR.ren (by rw [l2] <;> rfl) (by rw [l6] <;> rfl)]; rfl)) ?_)) ⟨by have := hκ.hm; (try dsimp only at this); (first | done | omega), fun i hi => by have := hκ.hm; (try dsimp only at this); (first | omega | (dsimp only; omega) | (rw [if_neg (by omega)]))⟩ ⟨by simp, rfl⟩
    · simp (disch := omega) only [exec_succ, runR_next, runR_stop, stepS, runOp, goS, toSR, sop, rOf, ev, Env.get, exitTo, OutOK_stop, List.size_toArray, List.length_cons, List.length_nil, List.range, List.range.loop, List.getElem?_toArray, List.getElem?_cons_succ, List.getElem?_cons_zero, ↓reduceIte, Nat.reduceAdd, Nat.reduceLT, Nat.reduceEqDiff, Nat.zero_add, beq_self_eq_true]
      obtain rfl : k = l.length := by omega
      have et : List.take (encK l l.length).length (List.map (eI .u8) (encK l l.length)) = List.map (eI .u8) (encK l l.length) := List.take_of_length_le (by simp)
      refine hκ.ret _ _ _ _ _ _ trivial rfl ?_
      refine Post.frz [1] (by first | (simp [lendPL, lendP, lendSlP, dropL, Heap.get, Heap.drop, resV]; done) | (simp [lendPL, lendP, lendSlP, dropL, Heap.get, Heap.drop, resV]; omega) | (simp [lendPL, lendP, lendSlP, dropL, Heap.get, Heap.drop, resV, -List.length_eq_zero_iff]; omega)) ?_
      simp only [resV, lendL, lendS, lendSl, dropL, Heap.drop, Heap.get, List.mem_singleton, List.mem_cons, List.not_mem_nil, or_false, or_true, true_or, List.drop_zero, Nat.reduceEqDiff, Nat.one_ne_zero, Nat.zero_ne_one, ↓reduceIte, et]
      exact .ret (by simp [SV.bnd, SV.bndL])
theorem rbytes_ok (l : List Sea) (ho : okTs l = true) : Con Tryd.prog gl0 (fnv 34) [To l] 0 [] (Ret (By (encB l))) := by
  have hl8 := ((okTs_iff l).1 ho).2
  refine Con.of Tryd.ok34 (nt := 29) (res := [.tmp 2]) Tryd.mixed Tryd.func34 rfl rfl rfl rfl fun κ xc hκ => hκ.run 300 ?_
  simp (disch := omega) only [sBuiltin, exec_succ, runR_next, runR_need, runR_stop, stepS, runOp, toSR, sop, rOf, rNew, sBox, isArr, sLoadIn, sLoad, sConv, sFieldAddr, sLen, sliceT, obind, fillS, evps, repeatL, sBuildSlice, chunk, ev, svs, Env.get, Heap.get, takeN, cut, over, paste, aggOf, cellsS, one, ones, idFree, idFrees, envOf, Value.cells, Value.oneCell', OutOK_need, OutOK_stop, Bool.and_true, List.take_succ_cons, List.take_nil, Bool.false_eq_true, List.size_toArray, List.length_cons, List.length_nil, List.length_map, List.range, List.range.loop, List.getElem?_toArray, List.getElem?_cons_succ, List.getElem?_cons_zero, List.map_cons, List.map_nil, List.append_nil, List.toList_toArray, ↓reduceIte, Nat.reduceAdd, Nat.reduceLT, Nat.reduceLeDiff, Nat.reduceEqDiff, Nat.zero_add, Nat.add_zero, Nat.mul_one, Nat.add_one_ne_zero, true_and, and_self, forall_const, wrap_u8, gl0, Tryd.underlying3, Tryd.underlying5, Tryd.sz5, Tryd.ze5, Tryd.underlying22, Tryd.sz22, Tryd.ag22, Tryd.fd24f0, Tryd.underlying67]
  have h0 := (okTs_iff l).1 ho
  refine Sat.less (Sat.loop (γ := Nat × Nat) (fun g => ([(14, I g.1), (13, I l.length), (12, Ss l), (3, .sl 1 1 0 (encK l g.1).length g.2)], [(1, .row 1 g.2 5 ((encK l g.1).map (eI .u8))), (0, .own [Ss l] 24)], 2)) (fun g => l.length - g.1) (fun g => g.1 ≤ l.length ∧ (encK l g.1).length ≤ g.2) ?round (0, 1) ⟨Nat.zero_le _, Nat.le_refl _⟩) (by repeat' (first | exact EnvSub.nil _ | exact HeapSub.nil _ | refine EnvSub.cons rfl ?_ | refine HeapSub.cons rfl ?_ | (refine EnvSub.cons (by simp [Env.get]; done) ?_) | (refine HeapSub.cons (by simp [Heap.get]; done) ?_))) (by repeat' (first | exact EnvSub.nil _ | exact HeapSub.nil _ | refine EnvSub.cons rfl ?_ | refine HeapSub.cons rfl ?_ | (refine EnvSub.cons (by simp [Env.get]; done) ?_) | (refine HeapSub.cons (by simp [Heap.get]; done) ?_)))
  case round =>
    rintro ⟨k, cap⟩ ⟨hk, hcap⟩ ih
    dsimp only at hk hcap ih ⊢
    have hln := encK_len l k hk
    refine hκ.run 300 ?_
    simp (disch := omega) only [exec_succ, runR_next, stepS, runOp, condS, toSR, sop, sInt, sBin, ev, Env.get, List.size_toArray, List.length_cons, List.length_nil, List.range, List.range.loop, List.getElem?_toArray, List.getElem?_cons_zero, ↓reduceIte, Nat.reduceLT, Nat.reduceEqDiff, Nat.zero_add, gl0]
    refine OutOK_fork (fun h => ?_) (fun h => ?_) <;> try simp only [Bool.not_true, Bool.not_false, decide_eq_true_eq, decide_eq_false_iff_not, Bool.not_eq_true', Bool.not_eq_false', Bool.and_eq_true, Bool.or_eq_false_iff, Bool.or_eq_true, Bool.and_eq_false_iff] at h
    · have hz := fun cap h => ih (k + 1, cap) ⟨by dsimp only; omega, h⟩ (by dsimp only; omega)
      dsimp only at hz
      rw [encK_succ (by omega)] at hz
      have hb := (okT_iff _).1 (h0.1 _ (getD_mem (show k < l.length by omega)))
      have gk : (List.map eT l).getD k [] = eT (l.getD k default) := getD_map _ _ _ (by omega)
      generalize encK l k = pre at hz hln hcap ⊢
      generalize l.getD k default = s at hz hb gk
      have et : List.take pre.length (List.map (eI .u8) pre) = List.map (eI .u8) pre := List.take_of_length_le (by simp)
      simp (disch := omega) only [sBuiltin, srcS, appArgS, sAppendTo, sAppend, exec_succ, runR_next, runR_need, runR_all, runR_stop, stepS, runOp, toSR, sop, rOf, rNew, sAlloc, sAlloc0, isArr, sLoadIn, sLoad, sStoreIn, sStore, sInt, sBin, sConv, sFieldAddr, sIndexAddr, elemT, sliceT, obind, fillS, evps, repeatL, sBuildSlice, chunk, ev, svs, Env.get, Heap.get, Heap.set, Heap.drop, takeN, cut, over, paste, aggOf, cellsS, one, ones, idFree, idFrees, Value.cells, Value.oneCell', OutOK_need, OutOK_all, OutOK_stop, undefS, undef, Bool.and_true, List.drop_zero, List.drop_succ_cons, List.take_zero, List.take_succ_cons, List.take_nil, List.size_toArray, List.length_cons, List.length_nil, List.length_map, List.range, List.range.loop, List.getElem?_toArray, List.getElem?_cons_succ, List.getElem?_cons_zero, List.map_cons, List.map_nil, List.append_nil, List.cons_append, List.nil_append, List.toList_toArray, ↓reduceIte, Nat.reduceAdd, Nat.reduceLT, Nat.reduceLeDiff, Nat.reduceEqDiff, Nat.zero_add, Nat.add_zero, Nat.mul_one, Nat.add_one_ne_zero, Int.toNat_natCast, ne_eq, not_false_eq_true, true_and, and_self, forall_const, reduceCtorEq, wrap_i64, wrap_u8, Tryd.underlying3, Tryd.sz3, Tryd.ag3, Tryd.underlying5, Tryd.sz5, Tryd.ze5, Tryd.by5, Tryd.underlying22, Tryd.sz50, Tryd.ag50, Tryd.ze50, Tryd.ar50, Tryd.fd50f0, Tryd.fd50f1, Tryd.underlying67, gk, eT]
      (repeat (refine ⟨by first | omega | (refine ⟨?_, ?_⟩ <;> omega) | trivial | (simp; done) | decide +kernel, fun _ => ?_⟩))
      intro c
      have hy := hz (pre.length + 2 + c) (by first | (simp; done) | (simp; omega))
      simp only [List.length_append, List.length_cons, List.length_nil, List.length_singleton, List.length_map, List.length_set, List.length_replicate, Nat.zero_add, Nat.add_zero, Int.natCast_add, Int.natCast_one, Int.ofNat_eq_natCast, List.map_append, List.map_cons, List.map_nil, List.take_length, eI, eB] at hy ⊢
      rw [et]
      refine Sat.via (fun i => if i = 1 then 4 else i) (hy) (by intro i j; (repeat (first | omega | split))) (by repeat' (first | exact EnvVia.nil | refine EnvVia.cons (by first | trivial | decide | (simp [SV.bnd, SV.bndL]; done)) rfl ?_)) (by repeat' (first | exact HeapVia.nil | refine HeapVia.cons (by decide) (by first | trivial | (simp [Blk.bnd, SV.bnd, SV.bndL]; done) | exact bndL_mapV _ _ _ | exact LR.bnd (by rw [l2]; simp [bndE, SV.bnd, SV.bndL]) (by rw [l6]; decide)) (by first | rfl | (simp only [Blk.ren, renL_mapV]; rfl) | (rw [LR.ren (by rw [l2] <;> rfl) (by rw [l6] <;> rfl)]; rfl)) ?_)) ⟨by have := hκ.hm; (try dsimp only at this); (first | done | omega), fun i hi => by have := hκ.hm; (try dsimp only at this); (first | omega | (dsimp only; omega) | (rw [if_neg (by omega)]))⟩ ⟨by simp, rfl⟩
    · simp (disch := omega) only [exec_succ, runR_next, runR_stop, stepS, runOp, goS, toSR, sop, rOf, ev, Env.get, exitTo, OutOK_stop, List.size_toArray, List.length_cons, List.length_nil, List.range, List.range.loop, List.getElem?_toArray, List.getElem?_cons_succ, List.getElem?_cons_zero, ↓reduceIte, Nat.reduceAdd, Nat.reduceLT, Nat.reduceEqDiff, Nat.zero_add, beq_self_eq_true]
      obtain rfl : k = l.length := by omega
      have et : List.take (encK l l.length).length (List.map (eI .u8) (encK l l.length)) = List.map (eI .u8) (encK l l.length) := List.take_of_length_le (by simp)
      refine hκ.ret _ _ _ _ _ _ trivial rfl ?_
      refine Post.frz [1] (by first | (simp [lendPL, lendP, lendSlP, dropL, Heap.get, Heap.drop, resV]; done) | (simp [lendPL, lendP, lendSlP, dropL, Heap.get, Heap.drop, resV]; omega) | (simp [lendPL, lendP, lendSlP, dropL, Heap.get, Heap.drop, resV, -List.length_eq_zero_iff]; omega)) ?_
      simp only [resV, lendL, lendS, lendSl, dropL, Heap.drop, Heap.get, List.mem_singleton, List.mem_cons, List.not_mem_nil, or_false, or_true, true_or, List.drop_zero, Nat.reduceEqDiff, Nat.one_ne_zero, Nat.zero_ne_one, ↓reduceIte, et]
      exact .ret (by simp [SV.bnd, SV.bndL])
end Go.Proofs.YtbgnnmlhpaaebaaDoor

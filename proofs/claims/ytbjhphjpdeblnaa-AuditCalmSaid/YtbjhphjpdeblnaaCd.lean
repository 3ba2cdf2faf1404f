/- Whether a pool's domains lie too far apart, in a watch of one moment. No condition. -/
import Derived.Test.YtbjhphjpdeblnaaCc
import Derived.Test.YtbjhphjpdeblnaaSk
namespace Go.Proofs.Ytbjhphjpdeblnaa
open Go Go.Sy
set_option maxRecDepth 100000
set_option linter.unusedSimpArgs false
set_option linter.unusedVariables false

theorem count_ok (s : Nat) (hs : s < 4294967296) : Con Try.prog gl0 (fnv 46) [S s] 0 [] (Ret (I (cnt s))) := by
  refine Con.of Try.ok46 (nt := 6) (res := [.tmp 2]) Try.mixed Try.func46 rfl rfl rfl rfl fun κ xc hκ => hκ.run 300 ?_
  simp (disch := omega) only [exec_succ, runR_next, runR_call, stepS, runOp, toSR, sop, rOf, sInt, sBin, ev, evs, Env.get, envOf, OutOK_call, List.size_toArray, List.length_cons, List.length_nil, List.range, List.range.loop, List.getElem?_toArray, List.getElem?_cons_succ, List.getElem?_cons_zero, ↓reduceIte, Nat.reduceAdd, Nat.reduceLT, Nat.zero_add, Nat.add_one_ne_zero, gl0, and32_255]
  rw [and_255]
  refine Does.ret hκ.hP hκ.hgl (ones_ok (s % 256) (Nat.mod_lt _ (by decide))) ⟨trivial, by simp [SV.bnd, SV.bndL], by first | (simp [SV.bnd, SV.bndL]; done) | assumption⟩ ?_
  refine hκ.run 300 ?_
  simp (disch := omega) only [exec_succ, runR_next, runR_stop, stepS, runOp, toSR, sop, rOf, ev, Env.get, setO, OutOK_stop, List.getElem?_toArray, List.getElem?_cons_succ, List.getElem?_cons_zero, ↓reduceIte, Nat.reduceLT, gl0]
  refine hκ.ret _ _ _ _ _ _ trivial rfl ?_
  rw [show cnt (s % 256) = cnt s by rw [cnt, bits_mod, cnt]]
  exact .ret trivial
theorem cnt_le8 (s : Nat) : cnt s ≤ 8 := bits_len s
abbrev RetW : SV → Heap → Nat → Prop := fun s H k => ∃ b1 b2 : Bool, (b2 = true → b1 = true) ∧ Ret (.tup [Bo b1, Bo b2, I 0]) s H k
theorem retW (b1 b2 : Bool) (h : b2 = true → b1 = true) (H : Heap) (nx : Nat) : Post 0 RetW (.tup [Bo b1, Bo b2, I 0]) H nx :=
  Post.mono (Post.ret (by simp [SV.bnd, SV.bndL])) fun _ _ _ hq => ⟨b1, b2, h, hq⟩
/-- What is held of each domain's time. -/
abbrev mapI (B : Int) (f : List Int → Option SV) : Prop := ∀ d : Int, f [d] = none ∨ ∃ v : Int, f [d] = some (I v) ∧ 0 ≤ v ∧ v ≤ B
theorem map_get {B : Int} {f : List Int → Option SV} (h : mapI B f) (hB : 0 ≤ B) (d : Int) : ∃ v : Int, (f [d]).getD (I 0) = I v ∧ 0 ≤ v ∧ v ≤ B := by
  rcases h d with h | ⟨v, h1, h2, h3⟩
  · exact ⟨0, by rw [h]; rfl, Int.le_refl _, hB⟩
  · exact ⟨v, by rw [h1]; rfl, h2, h3⟩
theorem map_put {B C v d : Int} {f : List Int → Option SV} (h : mapI B f) (hB : B ≤ C) (h1 : 0 ≤ v) (h2 : v ≤ C) : mapI C (fun q => if q = [d] then some (I v) else f q) := fun e => by
  by_cases he : ([e] : List Int) = [d]
  · exact .inr ⟨v, if_pos he, h1, h2⟩
  · rcases h e with h | ⟨u, k1, k2, k3⟩
    · exact .inl ((if_neg he).trans h)
    · exact .inr ⟨u, (if_neg he).trans k1, k2, by omega⟩
set_option maxHeartbeats 4000000 in
theorem audApart_ok (m : Mo) (en n : Int) (hm : inM m) (hw : rightW [m] en = true) (hen : i64 en) (hg : m.1 ≤ en ∧ en - m.1 ≤ 10000000) (hr : rightM m = true) (hl30 : m.2.length ≤ 30) : Con Try.prog gl0 (fnv 21) [Wt [m] en, I n, I 0, I 1] 0 [] RetW := by
  have c1 := wcheck_ok [m] en (fun x hx => by rw [List.mem_singleton] at hx; subst hx; exact hm) hen (by simp)
  rw [if_pos hw] at c1
  have hM := rightM_at hr
  have cu := until_ok [m] en 0 (fun x hx => by rw [List.mem_singleton] at hx; subst hx; exact hm) (by simp) (by simp)
  rw [show untilW [m] en 0 = en by rw [untilW, if_neg (by simp)]] at cu
  have hseen := seenB_ofM hr
  have cin := in_ok m n hm
  obtain ⟨t, l⟩ := m
  obtain ⟨-, hm2, hm3⟩ := hm
  dsimp only at hM hseen hg hm2 hm3 cin hl30
  have hF : ∀ x ∈ inP l n, inX x ∧ seenB x = true := fun x hx => by
    have := (List.mem_filter.1 hx).1
    exact ⟨hm2 x this, hseen x this⟩
  have hFn := inP_le l n
  generalize inP l n = F at *
  have ce := even_ok F (by omega)
  have ca := alike_self F (by omega)
  refine Con.of Try.ok21 (nt := 164) (res := [.tmp 8, .tmp 9, .tmp 10]) Try.mixed Try.func21 rfl rfl rfl rfl fun κ xc hκ => hκ.run 300 ?_
  simp (disch := omega) only [exec_succ, runR_next, runR_call, stepS, runOp, toSR, sop, rOf, rNew, sBox, isArr, sLoadIn, sLoad, ev, evs, Env.get, Heap.get, takeN, cut, aggOf, cellsS, envOf, OutOK_call, Bool.false_eq_true, List.size_toArray, List.length_cons, List.length_nil, List.range, List.range.loop, List.getElem?_toArray, List.getElem?_cons_succ, List.getElem?_cons_zero, ↓reduceIte, Nat.reduceAdd, Nat.reduceLT, Nat.reduceEqDiff, Nat.zero_add, Int.reduceNeg, gl0, Try.sz24, Try.ag24]
  refine Does.ret hκ.hP hκ.hgl (c1) ⟨trivial, by simp [SV.bnd, SV.bndL], by first | (simp [SV.bnd, SV.bndL]; done) | assumption⟩ ?_
  refine hκ.run 300 ?_
  simp (disch := omega) only [sBuiltin, exec_succ, runR_next, runR_need, runR_fork_false, runR_guard_ff, runR_call, stepS, runOp, guardS, condS, toSR, sop, rOf, sPick, sLoadIn, sLoad, sInt, sBin, sFieldAddr, sIndexAddr, sLen, elemT, obind, ev, evs, Env.get, Heap.get, takeN, cut, aggOf, setO, OutOK_need, OutOK_call, undefS, undef, Int.cast_ofNat_Int, List.size_toArray, List.length_cons, List.length_nil, List.range, List.range.loop, List.getElem?_toArray, List.getElem?_cons_succ, List.getElem?_cons_zero, List.getD_cons_zero, List.map_cons, List.map_nil, Option.bind_some, ↓reduceIte, Nat.reduceAdd, Nat.reduceLT, Nat.reduceEqDiff, Nat.zero_add, Nat.add_zero, Nat.add_one_ne_zero, Int.reduceToNat, Int.reduceLT, Int.reduceLE, Int.reduceNeg, Bool.not_true, Bool.not_false, decide_true, decide_false, true_and, and_self, forall_const, reduceCtorEq, gl0, Try.underlying22, Try.sz22, Try.ag22, Try.fd24f0, Try.sz27, Try.ag27, eM]
  (repeat (refine ⟨by first | omega | (refine ⟨?_, ?_⟩ <;> omega) | trivial | (simp; done) | decide +kernel, fun _ => ?_⟩))
  refine Does.ret hκ.hP hκ.hgl (cin) ⟨trivial, by simp [SV.bnd, SV.bndL], by first | (simp [SV.bnd, SV.bndL]; done) | assumption⟩ ?_
  refine hκ.run 300 ?_
  simp (disch := omega) only [sMakeMap, exec_succ, runR_next, runR_stop, stepS, runOp, toSR, sop, rOf, rNew, ev, Env.get, setO, OutOK_stop, List.size_toArray, List.length_cons, List.length_nil, List.range, List.range.loop, List.getElem?_toArray, List.getElem?_cons_succ, List.getElem?_cons_zero, ↓reduceIte, Nat.reduceAdd, Nat.reduceLT, Nat.reduceEqDiff, Nat.zero_add, Int.reduceNeg, reduceCtorEq, gl0, Try.mp74]
  refine Sat.enter ?_
  refine hκ.run 300 ?_
  simp (disch := omega) only [exec_succ, runR_next, runR_need, runR_fork_true, runR_call, stepS, runOp, condS, toSR, sop, rOf, sLoadIn, sLoad, sInt, sBin, sFieldAddr, sIndexAddr, elemT, obind, ev, evs, Env.get, Heap.get, takeN, cut, aggOf, OutOK_need, OutOK_call, Int.cast_ofNat_Int, List.size_toArray, List.length_cons, List.length_nil, List.range, List.range.loop, List.getElem?_toArray, List.getElem?_cons_succ, List.getElem?_cons_zero, List.getD_cons_zero, List.map_cons, List.map_nil, ↓reduceIte, Nat.reduceAdd, Nat.reduceLT, Nat.reduceEqDiff, Nat.zero_add, Nat.add_zero, Nat.add_one_ne_zero, Int.reduceToNat, Int.reduceLT, Int.reduceLE, Int.reduceNeg, decide_true, true_and, and_self, forall_const, reduceCtorEq, gl0, Try.underlying22, Try.sz22, Try.ag22, Try.fd24f0, Try.sz27, Try.ag27, eM]
  (repeat (refine ⟨by first | omega | (refine ⟨?_, ?_⟩ <;> omega) | trivial | (simp; done) | decide +kernel, fun _ => ?_⟩))
  refine Does.ret hκ.hP hκ.hgl (cin) ⟨trivial, by simp [SV.bnd, SV.bndL], by first | (simp [SV.bnd, SV.bndL]; done) | assumption⟩ ?_
  refine hκ.run 300 ?_
  simp (disch := omega) only [exec_succ, runR_next, runR_call, stepS, runOp, toSR, sop, rOf, ev, evs, Env.get, setO, OutOK_call, List.size_toArray, List.length_cons, List.length_nil, List.range, List.range.loop, List.getElem?_toArray, List.getElem?_cons_succ, List.getElem?_cons_zero, ↓reduceIte, Nat.reduceAdd, Nat.reduceLT, Nat.zero_add, Int.reduceNeg, gl0]
  refine Does.ret hκ.hP hκ.hgl (ce) ⟨trivial, by simp [SV.bnd, SV.bndL], by first | (simp [SV.bnd, SV.bndL]; done) | assumption⟩ ?_
  cases hev : evenB F
  · refine hκ.run 300 ?_
    simp (disch := omega) only [exec_succ, runR_next, runR_fork_true, runR_guard_tf, runR_stop, stepS, runOp, guardS, condS, toSR, sop, rOf, sPick, sUn, ev, evs, Env.get, setO, OutOK_stop, undefS, undef, List.size_toArray, List.length_cons, List.length_nil, List.range, List.range.loop, List.getElem?_toArray, List.getElem?_cons_succ, List.getElem?_cons_zero, Option.bind_some, ↓reduceIte, Nat.reduceAdd, Nat.reduceLT, Nat.reduceEqDiff, Nat.zero_add, Int.reduceNeg, Bool.not_false, and_self, gl0]
    refine hκ.ret _ _ _ _ _ _ trivial rfl ?_
    exact retW false false (fun h => h) _ _
  refine hκ.run 300 ?_
  simp (disch := omega) only [exec_succ, runR_next, runR_guard_ff, runR_call, stepS, runOp, guardS, toSR, sop, rOf, sUn, ev, evs, Env.get, setO, OutOK_call, undefS, undef, List.getElem?_toArray, List.getElem?_cons_succ, List.getElem?_cons_zero, Option.bind_some, ↓reduceIte, Nat.reduceLT, Nat.reduceEqDiff, Int.reduceNeg, Bool.not_true, Bool.not_false, and_self, gl0]
  refine Does.ret hκ.hP hκ.hgl (ca) ⟨trivial, by simp [SV.bnd, SV.bndL], by first | (simp [SV.bnd, SV.bndL]; done) | assumption⟩ ?_
  refine hκ.runD 300 ?_
  simp (disch := omega) only [runR_next, runR_fork_false, runR_guard_ff, stepS, runOp, guardS, condS, toSR, sop, rOf, sPick, sUn, ev, Env.get, setO, OutOK_stop, undefS, undef, halt, isDraw, drawC, execD_succ, List.getElem?_toArray, List.getElem?_cons_succ, List.getElem?_cons_zero, Option.bind_some, ↓reduceIte, Nat.reduceLT, Nat.reduceEqDiff, Int.reduceNeg, Bool.not_true, Bool.not_false, and_self, gl0]
  refine hκ.draw (.q 0 (.q 1 (.q 3 (.q 4 (.q 5 (.q 6 (.q 7 (.q 8 (.l 2 [4, 8] (.q 9 (.q 10 (.fin)))))))))))) [0, 1, 3, 4, 5, 6, 7, 8, 9, 10] (by kernel_rfl) (by kernel_rfl) rfl ?_
  simp (disch := omega) only [sop, rOf, sLoadIn, sLoad, sFieldAddr, sIndexAddr, elemT, obind, ev, evs, Env.get, Heap.get, takeN, cut, aggOf, setO, drawP_q, drawP_l, dq, dqn, dl, guardP, R1Q, dstOK, loudP, Int.cast_ofNat_Int, List.length_cons, List.length_nil, List.getElem?_toArray, List.getElem?_cons_succ, List.getElem?_cons_zero, List.getD_cons_zero, List.map_cons, List.map_nil, ↓reduceIte, Nat.reduceLT, Nat.reduceEqDiff, Nat.zero_add, Nat.add_zero, Nat.add_one_ne_zero, Int.reduceToNat, Int.reduceLT, Int.reduceLE, Int.reduceNeg, true_and, and_self, forall_const, gl0, Try.sz2, Try.ag2, Try.underlying22, Try.sz22, Try.ag22, Try.sz24, Try.ag24, Try.fd24f0, Try.sz27, Try.fd27f0, eM]
  (repeat (refine ⟨by first | omega | (refine ⟨?_, ?_⟩ <;> omega) | trivial | (simp; done) | decide +kernel, fun _ => ?_⟩))
  refine DCall.of (Does.ret hκ.hP hκ.hgl (cu) ⟨trivial, by simp [SV.bnd, SV.bndL], by first | (simp [SV.bnd, SV.bndL]; done) | assumption⟩ ?_)
  simp (disch := omega) only [sop, rOf, sLoadIn, sLoad, sInt, sBin, ev, Env.get, Heap.get, takeN, cut, aggOf, setO, drawP_fin, drawP_q, dnext, dq, dqn, slotR, ag, guardP, R1Q, dstOK, again, again1, slotIs, R1OK, List.getElem?_toArray, List.getElem?_cons_succ, List.getElem?_cons_zero, ↓reduceIte, Nat.reduceLT, Nat.reduceEqDiff, Nat.add_one_ne_zero, Int.reduceNeg, true_and, and_self, wrap_i64, Try.sz2, Try.ag2, Try.sz22, Try.ag22]
  (repeat (refine ⟨by first | omega | (refine ⟨?_, ?_⟩ <;> omega) | trivial | (simp; done) | decide +kernel, fun _ => ?_⟩))
  refine hκ.run 300 ?_
  simp (disch := omega) only [sBuiltin, sMinMax, exec_succ, runR_next, runR_stop, stepS, runOp, toSR, sop, rOf, sLen, ev, Env.get, OutOK_stop, List.size_toArray, List.length_cons, List.length_nil, List.length_map, List.range, List.range.loop, List.getElem?_toArray, List.getElem?_cons_succ, List.getElem?_cons_zero, List.map_cons, List.map_nil, ↓reduceIte, Nat.reduceAdd, Nat.reduceLT, Nat.reduceEqDiff, Nat.zero_add, Int.reduceNeg, gl0, Try.underlying25]
  have hlen : 0 ≤ en - t ∧ en - t ≤ 10000000 := by omega
  generalize en - t = len at *
  refine Sat.less (Sat.loop (γ := Nat × (List Int → Option SV)) (fun g => ([(90, I g.1), (89, I F.length), (88, Xs F), (16, I len), (12, I (max 1 len)), (14, I 0), (13, .mp 1), (11, Xs F), (2, I 0), (3, I 1)], [(1, .map false [.i64] g.2)], 2)) (fun g => F.length - g.1) (fun g => g.1 ≤ F.length ∧ mapI (g.1 * 10000000) g.2) ?rnd1 (0, fun _ => none) ⟨Nat.zero_le _, fun d => .inl rfl⟩) (by repeat' (first | exact EnvSub.nil _ | exact HeapSub.nil _ | refine EnvSub.cons rfl ?_ | refine HeapSub.cons rfl ?_ | (refine EnvSub.cons (by simp [Env.get]; done) ?_) | (refine HeapSub.cons (by simp [Heap.get]; done) ?_))) (by repeat' (first | exact EnvSub.nil _ | exact HeapSub.nil _ | refine EnvSub.cons rfl ?_ | refine HeapSub.cons rfl ?_ | (refine EnvSub.cons (by simp [Env.get]; done) ?_) | (refine HeapSub.cons (by simp [Heap.get]; done) ?_)))
  case rnd1 =>
    rintro ⟨k, f⟩ ⟨hk, hf⟩ ih
    dsimp only at hk hf ih ⊢
    refine hκ.run 300 ?_
    simp (disch := omega) only [exec_succ, runR_next, stepS, runOp, condS, toSR, sop, sInt, sBin, ev, Env.get, List.size_toArray, List.length_cons, List.length_nil, List.range, List.range.loop, List.getElem?_toArray, List.getElem?_cons_zero, ↓reduceIte, Nat.reduceLT, Nat.reduceEqDiff, Nat.zero_add, Int.reduceNeg, gl0]
    refine OutOK_fork (fun h => ?_) (fun h => ?_) <;> try simp only [Bool.not_true, Bool.not_false, decide_eq_true_eq, decide_eq_false_iff_not, Bool.not_eq_true', Bool.not_eq_false', Bool.and_eq_true, Bool.or_eq_false_iff, Bool.or_eq_true, Bool.and_eq_false_iff] at h
    · have hz := fun f h => ih (k + 1, f) ⟨by dsimp only; omega, h⟩ (by dsimp only; omega)
      dsimp only at hz
      have gk : (List.map eX F).getD k [] = eX (F.getD k default) := getD_map _ _ _ (by omega)
      have hx := hF _ (getD_mem (show k < F.length by omega))
      have hxs := (seenB_iff _).1 hx.2
      clear ih
      generalize F.getD k default = x at *
      by_cases hc : -1 < x.c
      · obtain ⟨v, hv, v1, v2⟩ := map_get hf (by omega) x.d
        have hz := hz _ (map_put (C := ((k + 1 : Nat) : Int) * 10000000) (v := v + len) (d := x.d) hf (by omega) (by omega) (by omega))
        simp (disch := omega) only [sLookup, sLookupIn, sMapUp, sMapUpIn, keyS, exec_succ, runR_next, runR_need, runR_fork_true, runR_stop, stepS, runOp, condS, toSR, sop, rOf, rNew, sAlloc, sAlloc0, sLoadIn, sLoad, sStoreIn, sStore, sInt, sBin, sFieldAddr, sIndexAddr, elemT, obind, ev, svs, Env.get, Heap.get, Heap.set, takeN, cut, over, paste, aggOf, cellsS, one, ones, idFree, idFree', Value.oneCell', OutOK_need, OutOK_stop, undefS, undef, Bool.false_eq_true, List.size_toArray, List.length_cons, List.length_nil, List.length_map, List.range, List.range.loop, List.getElem?_toArray, List.getElem?_cons_succ, List.getElem?_cons_zero, List.map_cons, List.map_nil, ↓reduceIte, Nat.reduceAdd, Nat.reduceLT, Nat.reduceEqDiff, Nat.zero_add, Nat.add_one_ne_zero, Int.reduceNeg, Int.toNat_natCast, decide_true, true_and, and_self, forall_const, wrap_i64, Try.sz3, Try.ag3, Try.underlying25, Try.sz65, Try.ag65, Try.ze65, Try.ar65, Try.fd65f1, Try.fd65f4, Try.mp74, eX, gk, hc, hv]
        (repeat (refine ⟨by first | omega | (refine ⟨?_, ?_⟩ <;> omega) | trivial | (simp; done) | decide +kernel, fun _ => ?_⟩))
        refine Sat.via (fun i => i) (hz) (by intro i j; (repeat (first | omega | split))) (by repeat' (first | exact EnvVia.nil | refine EnvVia.cons (by first | trivial | decide | (simp [SV.bnd, SV.bndL]; done)) rfl ?_)) (by repeat' (first | exact HeapVia.nil | refine HeapVia.cons (by decide) (by first | trivial | (simp [Blk.bnd, SV.bnd, SV.bndL]; done) | exact bndL_mapV _ _ _ | exact LR.bnd (by rw [l2]; simp [bndE, SV.bnd, SV.bndL]) (by rw [l6]; decide)) (by first | rfl | (simp only [Blk.ren, renL_mapV]; rfl) | (rw [LR.ren (by rw [l2] <;> rfl) (by rw [l6] <;> rfl)]; rfl)) ?_)) ⟨by have := hκ.hm; (try dsimp only at this); (first | done | omega), fun i hi => by have := hκ.hm; (try dsimp only at this); (first | omega | (dsimp only; omega) | (rw [if_neg (by omega)]))⟩ ⟨by simp, rfl⟩
      · have hz := hz f (fun d => by
          rcases hf d with h | ⟨v, h1, h2, h3⟩
          · exact .inl h
          · exact .inr ⟨v, h1, h2, by omega⟩)
        simp (disch := omega) only [exec_succ, runR_next, runR_need, runR_fork_false, runR_stop, stepS, runOp, condS, toSR, sop, rOf, rNew, sAlloc, sAlloc0, sLoadIn, sLoad, sStoreIn, sStore, sInt, sBin, sFieldAddr, sIndexAddr, elemT, obind, ev, svs, Env.get, Heap.get, Heap.set, takeN, cut, over, paste, aggOf, cellsS, one, ones, Value.oneCell', OutOK_need, OutOK_stop, undefS, undef, List.size_toArray, List.length_cons, List.length_nil, List.length_map, List.range, List.range.loop, List.getElem?_toArray, List.getElem?_cons_succ, List.getElem?_cons_zero, List.map_cons, List.map_nil, ↓reduceIte, Nat.reduceAdd, Nat.reduceLT, Nat.reduceEqDiff, Nat.zero_add, Nat.add_one_ne_zero, Int.reduceNeg, Int.toNat_natCast, decide_false, true_and, and_self, forall_const, wrap_i64, Try.sz3, Try.ag3, Try.underlying25, Try.sz65, Try.ag65, Try.ze65, Try.ar65, Try.fd65f4, eX, gk, hc]
        (repeat (refine ⟨by first | omega | (refine ⟨?_, ?_⟩ <;> omega) | trivial | (simp; done) | decide +kernel, fun _ => ?_⟩))
        refine Sat.via (fun i => i) (hz) (by intro i j; (repeat (first | omega | split))) (by repeat' (first | exact EnvVia.nil | refine EnvVia.cons (by first | trivial | decide | (simp [SV.bnd, SV.bndL]; done)) rfl ?_)) (by repeat' (first | exact HeapVia.nil | refine HeapVia.cons (by decide) (by first | trivial | (simp [Blk.bnd, SV.bnd, SV.bndL]; done) | exact bndL_mapV _ _ _ | exact LR.bnd (by rw [l2]; simp [bndE, SV.bnd, SV.bndL]) (by rw [l6]; decide)) (by first | rfl | (simp only [Blk.ren, renL_mapV]; rfl) | (rw [LR.ren (by rw [l2] <;> rfl) (by rw [l6] <;> rfl)]; rfl)) ?_)) ⟨by have := hκ.hm; (try dsimp only at this); (first | done | omega), fun i hi => by have := hκ.hm; (try dsimp only at this); (first | omega | (dsimp only; omega) | (rw [if_neg (by omega)]))⟩ ⟨by simp, rfl⟩
    · simp (disch := omega) only [exec_succ, runR_next, runR_stop, stepS, runOp, goS, toSR, sop, rOf, sInt, sBin, ev, Env.get, exitTo, OutOK_stop, Int.zero_add, List.size_toArray, List.length_cons, List.length_nil, List.range, List.range.loop, List.getElem?_toArray, List.getElem?_cons_succ, List.getElem?_cons_zero, ↓reduceIte, Nat.reduceAdd, Nat.reduceLT, Nat.reduceEqDiff, Nat.zero_add, Int.reduceNeg, beq_self_eq_true, wrap_i64]
      obtain rfl : k = F.length := by omega
      clear ih
      refine Sat.again ?_
      refine hκ.run 300 ?_
      simp (disch := omega) only [sBuiltin, exec_succ, runR_next, runR_fork_false, runR_stop, stepS, runOp, condS, goS, toSR, sop, rOf, sInt, sBin, sLen, ev, Env.get, exitTo, OutOK_stop, List.size_toArray, List.length_cons, List.length_nil, List.length_map, List.range, List.range.loop, List.getElem?_toArray, List.getElem?_cons_succ, List.getElem?_cons_zero, ↓reduceIte, Nat.reduceAdd, Nat.reduceLT, Nat.reduceEqDiff, Nat.zero_add, Int.reduceLT, Int.reduceNeg, decide_false, beq_self_eq_true, gl0, Try.underlying25]
      refine Sat.nilRow 19 2 80 rfl ?_
      refine Sat.nilRow 20 1 2 rfl ?_
      have hgap : 1 ≤ max 1 len ∧ max 1 len ≤ 10000000 := by omega
      generalize max 1 len = gap at *
      refine Sat.less (Sat.loop (γ := Nat × List Sh.Pt × List Int × Nat × Nat) (fun g => ([(106, I g.1), (105, I F.length), (104, Xs F), (20, .sl 3 1 0 g.2.2.1.length g.2.2.2.2), (19, .sl 2 2 0 g.2.1.length g.2.2.2.1), (13, .mp 1), (12, I gap), (11, Xs F)], [(3, .row 1 g.2.2.2.2 2 (g.2.2.1.map (eI .i64))), (2, .row 2 g.2.2.2.1 80 (g.2.1.map Sh.eP)), (1, .map false [.i64] f)], 4)) (fun g => F.length - g.1) (fun g => g.1 ≤ F.length ∧ g.2.1.length ≤ g.1 ∧ g.2.2.1.length ≤ g.1 ∧ (∀ p ∈ g.2.1, Sh.inP p) ∧ ∀ r ∈ g.2.2.1, Sh.i64 r) ?rnd2 (0, [], [], 0, 0) ⟨Nat.zero_le _, Nat.le_refl _, Nat.le_refl _, fun p hp => absurd hp (by simp), fun r hr => absurd hr (by simp)⟩) (by repeat' (first | exact EnvSub.nil _ | exact HeapSub.nil _ | refine EnvSub.cons rfl ?_ | refine HeapSub.cons rfl ?_ | (refine EnvSub.cons (by simp [Env.get]; done) ?_) | (refine HeapSub.cons (by simp [Heap.get]; done) ?_))) (by repeat' (first | exact EnvSub.nil _ | exact HeapSub.nil _ | refine EnvSub.cons rfl ?_ | refine HeapSub.cons rfl ?_ | (refine EnvSub.cons (by simp [Env.get]; done) ?_) | (refine HeapSub.cons (by simp [Heap.get]; done) ?_)))
      case rnd2 =>
        rintro ⟨k, P, R, q1, q2⟩ ⟨hk, hP, hR, hPi, hRi⟩ ih
        dsimp only at hk hP hR hPi hRi ih ⊢
        refine Sat.room 3 rfl fun hroom3 => ?_
        refine Sat.room 2 rfl fun hroom2 => ?_
        rw [List.length_map] at hroom2 hroom3
        refine hκ.runA 31 300 ?_
        simp (disch := omega) only [runR_next, stepS, runOp, condS, toSR, sop, sInt, sBin, ev, Env.get, halt, isAt, atC, execA_succ, List.size_toArray, List.length_cons, List.length_nil, List.range, List.range.loop, List.getElem?_toArray, List.getElem?_cons_zero, ↓reduceIte, Nat.reduceLT, Nat.reduceEqDiff, Nat.zero_add, Nat.reduceBEq, gl0]
        refine OutOK_fork (fun h => ?_) (fun h => ?_) <;> try simp only [Bool.not_true, Bool.not_false, decide_eq_true_eq, decide_eq_false_iff_not, Bool.not_eq_true', Bool.not_eq_false', Bool.and_eq_true, Bool.or_eq_false_iff, Bool.or_eq_true, Bool.and_eq_false_iff] at h
        · have hz := fun P R q1 q2 h1 h2 h3 h4 => ih (k + 1, P, R, q1, q2) ⟨by dsimp only; omega, h1, h2, h3, h4⟩ (by dsimp only; omega)
          dsimp only at hz
          have gk : (List.map eX F).getD k [] = eX (F.getD k default) := getD_map _ _ _ (by omega)
          have hx := hF _ (getD_mem (show k < F.length by omega))
          have hxs := (seenB_iff _).1 hx.2
          clear ih
          generalize F.getD k default = x at *
          have cc := contains_ok x (F.take k) (by rw [List.length_take]; omega)
          generalize decide (0 ≤ ixI (ofB x.d) (F.take k)) = met at *
          rw [show Xs (F.take k) = .rd 11 (List.take k (List.map eX F)) by rw [← List.map_take]] at cc
          simp (disch := omega) only [runR_next, runR_need, runR_call, stepS, runOp, toSR, sop, rOf, rNew, sAlloc, sAlloc0, sLoad, sStoreIn, sStore, sMakeFunc, sIndexAddr, optI, sSlice, cutL, elemT, obind, ev, evs, svs, Env.get, Heap.get, Heap.set, takeN, cut, over, paste, aggOf, cellsS, one, ones, Value.oneCell', OutOK_need, OutOK_call, undefS, undef, halt, isAt, atC, execA_succ, List.size_toArray, List.length_cons, List.length_nil, List.length_map, List.range, List.range.loop, List.getElem?_toArray, List.getElem?_cons_succ, List.getElem?_cons_zero, List.map_cons, List.map_nil, Option.map_some, Option.map_none, Option.getD_some, Option.getD_none, ↓reduceIte, Nat.reduceAdd, Nat.reduceLT, Nat.reduceEqDiff, Nat.zero_add, Nat.reduceBEq, Int.reduceLE, Int.toNat_natCast, true_and, and_self, forall_const, Try.underlying25, Try.sz65, Try.ag65, Try.ze65, Try.ar65, eX, gk]
          (repeat (refine ⟨by first | omega | (refine ⟨?_, ?_⟩ <;> omega) | trivial | (simp; done) | decide +kernel, fun _ => ?_⟩))
          refine (Does.look hκ.hP hκ.hgl 1 (fun _ => 4) [4] [.rd 11 (List.take k (List.map eX F)), fnMet 0] [(0, BX x)] (cc) rfl ⟨trivial, by simp [SV.bnd, SV.bndL, eX], by simp [SV.bnd, SV.bndL]⟩ (by intro i hi; (repeat (first | omega | (dsimp only; omega) | split))) (by intro i j; (repeat (first | omega | split))) (by repeat' (first | exact HeapIn.nil | refine HeapIn.cons (by decide) (by simp [Blk.bnd, SV.bnd, SV.bndL, eX]) (by simp) rfl ?_)) (by repeat' (first | exact Once.nil | refine Once.cons (by simp) ?_)) ?_)
          simp only [renH, Blk.ren, SV.renL, SV.ren, tau, without, List.mem_singleton, List.mem_cons, List.not_mem_nil, or_false, or_true, true_or, Nat.reduceEqDiff, Nat.reduceLT, Nat.zero_lt_one, Nat.one_ne_zero, Nat.zero_ne_one, Nat.zero_lt_succ, ↓reduceIte, List.cons_append, List.nil_append, List.append_nil, eX]
          cases met
          · obtain ⟨v, hv, v1, v2⟩ := map_get hf (by omega) x.d
            have et : List.take P.length (P.map Sh.eP) = P.map Sh.eP := List.take_of_length_le (by simp)
            have et2 : List.take R.length (R.map (eI .i64)) = R.map (eI .i64) := List.take_of_length_le (by simp)
            refine hκ.runA 31 300 ?_
            simp (disch := omega) only [sBuild0, sBuiltin, srcS, appArgS, sAppendTo, sAppend, sLookup, sLookupIn, keyS, runR_next, runR_need, runR_all, runR_fork_true, runR_stop, stepS, runOp, condS, toSR, sop, rOf, rNew, isArr, sLoadIn, sLoad, sInt, sBin, sUn, sFieldAddr, sliceT, obind, fillS, evps, sBuild, repeatL, sBuildSlice, chunk, ev, svs, Env.get, Heap.get, Heap.drop, takeN, cut, over, paste, aggOf, cellsS, one, ones, idFree, idFrees, setO, Value.cells, Value.oneCell', OutOK_need, OutOK_all, OutOK_stop, halt, isAt, atC, execA_succ, Bool.and_true, List.drop_zero, List.take_succ_cons, List.take_nil, Bool.false_eq_true, List.size_toArray, List.length_cons, List.length_nil, List.length_map, List.range, List.range.loop, List.getElem?_toArray, List.getElem?_cons_succ, List.getElem?_cons_zero, List.map_cons, List.map_nil, List.append_nil, List.toList_toArray, ↓reduceIte, Nat.reduceAdd, Nat.reduceLT, Nat.reduceLeDiff, Nat.reduceEqDiff, Nat.zero_add, Nat.zero_mul, Nat.mul_one, Nat.one_mul, Nat.add_one_ne_zero, Nat.reduceBEq, Bool.not_false, ne_eq, not_false_eq_true, true_and, and_self, forall_const, wrap_i64, gl0, Try.sz2, Try.ze2, Try.by2, Try.sz3, Try.ag3, Try.fd65f1, Try.fd65f8, Try.fd65f9, Try.mp74, Try.underlying76, Try.underlying77, Try.sz80, Try.ze80, Try.pl80, Try.by80, Try.ar80, hv]
            (repeat (refine ⟨by first | omega | (refine ⟨?_, ?_⟩ <;> omega) | trivial | (simp; done) | decide +kernel, fun _ => ?_⟩))
            intro cp
            (repeat (refine ⟨by first | omega | (refine ⟨?_, ?_⟩ <;> omega) | trivial | (simp; done) | decide +kernel, fun _ => ?_⟩))
            intro cr
            have hy := hz (P ++ [(x.w, x.n)]) (R ++ [v]) (P.length + 1 + cp) (R.length + 1 + cr) (by rw [List.length_append, List.length_singleton]; omega) (by rw [List.length_append, List.length_singleton]; omega) (fun p hp => by
              rw [List.mem_append, List.mem_singleton] at hp
              rcases hp with hp | rfl
              · exact hPi p hp
              · exact ⟨⟨by dsimp only; omega, by dsimp only; omega⟩, by dsimp only; omega, by dsimp only; omega⟩) (fun r hr => by
              rw [List.mem_append, List.mem_singleton] at hr
              rcases hr with hr | rfl
              · exact hRi r hr
              · exact ⟨by omega, by omega⟩)
            rw [et, et2]
            simp only [List.length_append, List.length_cons, List.length_nil, List.length_singleton, List.length_map, List.length_set, List.length_replicate, Nat.zero_add, Nat.add_zero, Int.natCast_add, Int.natCast_one, Int.ofNat_eq_natCast, List.map_append, List.map_cons, List.map_nil, List.take_length, eI, eB] at hy ⊢
            refine Sat.via (fun i => if i = 2 then 6 else if i = 3 then 8 else i) (hy) (by intro i j; (repeat (first | omega | split))) (by repeat' (first | exact EnvVia.nil | refine EnvVia.cons (by first | trivial | decide | (simp [SV.bnd, SV.bndL]; done)) rfl ?_)) (by repeat' (first | exact HeapVia.nil | refine HeapVia.cons (by decide) (by first | trivial | (simp [Blk.bnd, SV.bnd, SV.bndL]; done) | exact bndL_mapV _ _ _ | exact LR.bnd (by rw [l2]; simp [bndE, SV.bnd, SV.bndL]) (by rw [l6]; decide)) (by first | rfl | (simp only [Blk.ren, renL_mapV]; rfl) | (rw [LR.ren (by rw [l2] <;> rfl) (by rw [l6] <;> rfl)]; rfl)) ?_)) ⟨by have := hκ.hm; (try dsimp only at this); (first | done | omega), fun i hi => by have := hκ.hm; (try dsimp only at this); (first | omega | (dsimp only; omega) | (rw [if_neg (by omega)]))⟩ ⟨by simp, rfl⟩
          · have hz := hz P R q1 q2 (by omega) (by omega) hPi hRi
            refine hκ.runA 31 300 ?_
            simp (disch := omega) only [runR_next, runR_fork_false, runR_stop, stepS, runOp, condS, toSR, sop, rOf, sInt, sBin, sUn, ev, Env.get, setO, OutOK_stop, halt, isAt, atC, execA_succ, List.size_toArray, List.length_cons, List.length_nil, List.range, List.range.loop, List.getElem?_toArray, List.getElem?_cons_succ, List.getElem?_cons_zero, ↓reduceIte, Nat.reduceAdd, Nat.reduceLT, Nat.reduceEqDiff, Nat.zero_add, Nat.reduceBEq, Bool.not_true, wrap_i64, gl0]
            refine Sat.via (fun i => i) (hz) (by intro i j; (repeat (first | omega | split))) (by repeat' (first | exact EnvVia.nil | refine EnvVia.cons (by first | trivial | decide | (simp [SV.bnd, SV.bndL]; done)) rfl ?_)) (by repeat' (first | exact HeapVia.nil | refine HeapVia.cons (by decide) (by first | trivial | (simp [Blk.bnd, SV.bnd, SV.bndL]; done) | exact bndL_mapV _ _ _ | exact LR.bnd (by rw [l2]; simp [bndE, SV.bnd, SV.bndL]) (by rw [l6]; decide)) (by first | rfl | (simp only [Blk.ren, renL_mapV]; rfl) | (rw [LR.ren (by rw [l2] <;> rfl) (by rw [l6] <;> rfl)]; rfl)) ?_)) ⟨by have := hκ.hm; (try dsimp only at this); (first | done | omega), fun i hi => by have := hκ.hm; (try dsimp only at this); (first | omega | (dsimp only; omega) | (rw [if_neg (by omega)]))⟩ ⟨by simp, rfl⟩
        · simp (disch := omega) only [runR_next, stepS, goS, exitTo, OutOK_stop, halt, isAt, atC, execA_succ, ↓reduceIte, beq_self_eq_true]
          obtain rfl : k = F.length := by omega
          clear ih
          refine Sat.frz [2] 19 _ rfl (by first | (simp [lendPL, lendP, lendSlP, Heap.get]; done) | (simp only [lendPL, lendP, lendSlP, Heap.get, List.mem_singleton, List.mem_cons, List.not_mem_nil, or_false, or_true, true_or, Nat.reduceEqDiff, Nat.one_ne_zero, Nat.zero_ne_one, ↓reduceIte, and_true, true_and, List.length_map, List.length_append, List.length_cons, List.length_nil, List.length_replicate]; omega)) ?_
          simp only [lendL, lendS, lendSl, Heap.get, without, List.mem_singleton, List.mem_cons, List.not_mem_nil, or_false, or_true, true_or, List.drop_zero, List.take_length, List.take_succ_cons, List.take_zero, Nat.reduceAdd, Nat.reduceEqDiff, Nat.one_ne_zero, Nat.zero_ne_one, ↓reduceIte]
          refine Sat.frz [3] 20 _ rfl (by first | (simp [lendPL, lendP, lendSlP, Heap.get]; done) | (simp only [lendPL, lendP, lendSlP, Heap.get, List.mem_singleton, List.mem_cons, List.not_mem_nil, or_false, or_true, true_or, Nat.reduceEqDiff, Nat.one_ne_zero, Nat.zero_ne_one, ↓reduceIte, and_true, true_and, List.length_map, List.length_append, List.length_cons, List.length_nil, List.length_replicate]; omega)) ?_
          simp only [lendL, lendS, lendSl, Heap.get, without, List.mem_singleton, List.mem_cons, List.not_mem_nil, or_false, or_true, true_or, List.drop_zero, List.take_length, List.take_succ_cons, List.take_zero, Nat.reduceAdd, Nat.reduceEqDiff, Nat.one_ne_zero, Nat.zero_ne_one, ↓reduceIte]
          rw [show List.take P.length (P.map Sh.eP) = P.map Sh.eP from List.take_of_length_le (by simp), show List.take R.length (R.map (eI .i64)) = R.map (eI .i64) from List.take_of_length_le (by simp)]
          have hFp : 0 < F.length := by
            rw [evenB, Bool.and_eq_true, decide_eq_true_eq] at hev
            exact hev.2
          have g0 : (List.map eX F).getD 0 [] = eX (F.getD 0 default) := getD_map _ _ _ hFp
          have hx0 := hF _ (getD_mem hFp)
          generalize F.getD 0 default = x0 at *
          have cnt0 := count_ok x0.m hx0.1.2.2.2.2.2.1
          have cs := Sh.Spread_ok P (cnt x0.m : Nat) gap hPi (by omega)
          generalize Sh.spR P (cnt x0.m : Nat) gap = sp at *
          obtain ⟨sp, se⟩ := sp
          dsimp only at cs
          have co := Sh.wOf_ok 268435456 (by decide)
          have cm := Sh.wcmp_ok sp 268435456
          refine hκ.run 300 ?_
          simp (disch := omega) only [exec_succ, runR_next, runR_need, runR_call, stepS, runOp, toSR, sop, rOf, sLoad, sFieldAddr, sIndexAddr, elemT, obind, ev, evs, Env.get, takeN, cut, aggOf, OutOK_need, OutOK_call, List.size_toArray, List.length_cons, List.length_nil, List.length_map, List.range, List.range.loop, List.getElem?_toArray, List.getElem?_cons_succ, List.getElem?_cons_zero, ↓reduceIte, Nat.reduceAdd, Nat.reduceLT, Nat.reduceEqDiff, Nat.zero_add, Nat.add_one_ne_zero, Int.reduceToNat, Int.reduceLE, true_and, gl0, Try.underlying25, Try.sz63, Try.ag63, Try.sz65, Try.fd65f7, g0, eX]
          (repeat (refine ⟨by first | omega | (refine ⟨?_, ?_⟩ <;> omega) | trivial | (simp; done) | decide +kernel, fun _ => ?_⟩))
          refine Does.ret hκ.hP hκ.hgl (cnt0) ⟨trivial, by simp [SV.bnd, SV.bndL], by first | (simp [SV.bnd, SV.bndL]; done) | assumption⟩ ?_
          refine hκ.run 300 ?_
          simp (disch := omega) only [exec_succ, runR_next, runR_call, stepS, runOp, toSR, sop, rOf, ev, evs, Env.get, setO, OutOK_call, List.getElem?_toArray, List.getElem?_cons_succ, List.getElem?_cons_zero, ↓reduceIte, Nat.reduceLT, Nat.reduceEqDiff, gl0]
          refine Does.ret hκ.hP hκ.hgl (cs) ⟨trivial, by simp [SV.bnd, SV.bndL], by first | (simp [SV.bnd, SV.bndL]; done) | assumption⟩ ?_
          by_cases hse : se = 0
          case neg =>
            refine hκ.runD 300 ?_
            simp (disch := omega) only [runR_next, runR_need, stepS, runOp, toSR, sop, rOf, rNew, sAlloc, sAlloc0, sStoreIn, sStore, sExtract, ev, svs, Env.get, Heap.get, Heap.set, over, paste, cellsS, one, ones, setO, Value.oneCell', OutOK_need, OutOK_stop, undefS, undef, halt, isDraw, drawC, execD_succ, List.length_cons, List.length_nil, List.getElem?_toArray, List.getElem?_cons_succ, List.getElem?_cons_zero, List.map_cons, List.map_nil, ↓reduceIte, Nat.reduceAdd, Nat.reduceLT, Nat.reduceEqDiff, Nat.zero_add, true_and, and_self, forall_const, gl0, Try.sz83, Try.ze83, Try.ar83]
            refine hκ.draw (.q 0 (.q 1 (.q 2 (.q 3 (.l 4 [3] (.l 5 [] (.q 6 (.q 7 (.fin))))))))) [0, 1, 2, 3, 6, 7] (by kernel_rfl) (by kernel_rfl) rfl ?_
            simp (disch := omega) only [sop, rOf, sPick, sInt, sBin, ev, Env.get, setO, drawP_fin, drawP_q, drawP_l, dq, dqn, dl, ag, GF.tf, guardP, R1Q, dstOK, again, again1, slotIs, undefS, undef, List.getElem?_toArray, List.getElem?_cons_succ, List.getElem?_cons_zero, Option.bind_some, ↓reduceIte, Nat.reduceLT, Nat.reduceEqDiff, Bool.not_false, decide_false, true_and, and_self, gl0, hse]
            (repeat (refine ⟨by first | omega | (refine ⟨?_, ?_⟩ <;> omega) | trivial | (simp; done) | decide +kernel, fun _ => ?_⟩))
            refine hκ.run 300 ?_
            simp (disch := omega) only [exec_succ, runR_next, runR_fork_true, runR_stop, stepS, runOp, condS, toSR, sop, rOf, ev, Env.get, OutOK_stop, List.size_toArray, List.length_cons, List.length_nil, List.range, List.range.loop, List.getElem?_toArray, List.getElem?_cons_succ, List.getElem?_cons_zero, ↓reduceIte, Nat.reduceAdd, Nat.reduceLT, Nat.zero_add, gl0]
            refine hκ.ret _ _ _ _ _ _ trivial rfl ?_
            exact retW false false (fun h => h) _ _
          subst hse
          by_cases hgt : 268435456 < sp
          · have e9 : (0 < Sh.cmpN sp 268435456) = True := by rw [Sh.cmpN_gt]; exact eq_true hgt
            refine hκ.runD 300 ?_
            simp (disch := omega) only [runR_next, runR_need, stepS, runOp, toSR, sop, rOf, rNew, sAlloc, sAlloc0, sStoreIn, sStore, sExtract, ev, svs, Env.get, Heap.get, Heap.set, over, paste, cellsS, one, ones, setO, Value.oneCell', OutOK_need, OutOK_stop, undefS, undef, halt, isDraw, drawC, execD_succ, List.length_cons, List.length_nil, List.getElem?_toArray, List.getElem?_cons_succ, List.getElem?_cons_zero, List.map_cons, List.map_nil, ↓reduceIte, Nat.reduceAdd, Nat.reduceLT, Nat.reduceEqDiff, Nat.zero_add, true_and, and_self, forall_const, gl0, Try.sz83, Try.ze83, Try.ar83]
            refine hκ.draw (.q 0 (.q 1 (.q 2 (.q 3 (.l 4 [3] (.l 5 [] (.q 6 (.q 7 (.fin))))))))) [0, 1, 2, 3, 6, 7] (by kernel_rfl) (by kernel_rfl) rfl ?_
            simp (disch := omega) only [sop, rOf, sLoadIn, sLoad, sInt, sBin, ev, evs, Env.get, Heap.get, takeN, cut, aggOf, setO, drawP_q, drawP_l, dq, dqn, dl, GF.ff, guardP, R1Q, dstOK, loudP, List.getElem?_toArray, List.getElem?_cons_succ, List.getElem?_cons_zero, Option.bind_some, ↓reduceIte, Nat.reduceLT, Nat.reduceEqDiff, Bool.not_true, decide_true, true_and, gl0, Try.sz83, Try.ag83]
            (repeat (refine ⟨by first | omega | (refine ⟨?_, ?_⟩ <;> omega) | trivial | (simp; done) | decide +kernel, fun _ => ?_⟩))
            refine DCall.of (Does.ret hκ.hP hκ.hgl (co) ⟨trivial, by simp [SV.bnd, SV.bndL], by first | (simp [SV.bnd, SV.bndL]; done) | assumption⟩ ?_)
            simp (disch := omega) only [sop, rOf, sLoadIn, sLoad, ev, evs, Env.get, Heap.get, takeN, cut, aggOf, setO, drawP_l, dnext, dl, slotR, ag, GF.ff, guardP, dstOK, loudP, again, again1, slotIs, R1OK, List.getElem?_toArray, List.getElem?_cons_succ, List.getElem?_cons_zero, Option.bind_some, ↓reduceIte, Nat.reduceLT, Nat.reduceEqDiff, true_and, and_self, Try.sz83, Try.ag83]
            refine DCall.of (Does.ret hκ.hP hκ.hgl (cm) ⟨trivial, by simp [SV.bnd, SV.bndL], by first | (simp [SV.bnd, SV.bndL]; done) | assumption⟩ ?_)
            simp (disch := omega) only [sop, rOf, sPick, sInt, sBin, ev, Env.get, setO, drawP_fin, drawP_q, dnext, dq, dqn, GF.ff, guardP, R1Q, dstOK, again, List.getElem?_toArray, List.getElem?_cons_succ, List.getElem?_cons_zero, Option.bind_some, ↓reduceIte, Nat.reduceLT, Nat.reduceEqDiff, decide_true, true_and, e9]
            refine hκ.run 300 ?_
            simp (disch := omega) only [exec_succ, runR_next, runR_fork_true, runR_stop, stepS, runOp, condS, toSR, sop, rOf, ev, Env.get, OutOK_stop, List.size_toArray, List.length_cons, List.length_nil, List.range, List.range.loop, List.getElem?_toArray, List.getElem?_cons_succ, List.getElem?_cons_zero, ↓reduceIte, Nat.reduceAdd, Nat.reduceLT, Nat.zero_add, gl0]
            refine hκ.ret _ _ _ _ _ _ trivial rfl ?_
            exact retW false false (fun h => h) _ _
          have e9 : (0 < Sh.cmpN sp 268435456) = False := by rw [Sh.cmpN_gt]; exact eq_false hgt
          have cap := Sh.Apart_ok P R sp hPi (by omega) hRi (by omega) (by omega)
          generalize Sh.apR P R sp = ap at *
          obtain ⟨ab, ae⟩ := ap
          dsimp only at cap
          refine hκ.runD 300 ?_
          simp (disch := omega) only [runR_next, runR_need, stepS, runOp, toSR, sop, rOf, rNew, sAlloc, sAlloc0, sStoreIn, sStore, sExtract, ev, svs, Env.get, Heap.get, Heap.set, over, paste, cellsS, one, ones, setO, Value.oneCell', OutOK_need, OutOK_stop, undefS, undef, halt, isDraw, drawC, execD_succ, List.length_cons, List.length_nil, List.getElem?_toArray, List.getElem?_cons_succ, List.getElem?_cons_zero, List.map_cons, List.map_nil, ↓reduceIte, Nat.reduceAdd, Nat.reduceLT, Nat.reduceEqDiff, Nat.zero_add, true_and, and_self, forall_const, gl0, Try.sz83, Try.ze83, Try.ar83]
          refine hκ.draw (.q 0 (.q 1 (.q 2 (.q 3 (.l 4 [3] (.l 5 [] (.q 6 (.q 7 (.fin))))))))) [0, 1, 2, 3, 6, 7] (by kernel_rfl) (by kernel_rfl) rfl ?_
          simp (disch := omega) only [sop, rOf, sLoadIn, sLoad, sInt, sBin, ev, evs, Env.get, Heap.get, takeN, cut, aggOf, setO, drawP_q, drawP_l, dq, dqn, dl, GF.ff, guardP, R1Q, dstOK, loudP, List.getElem?_toArray, List.getElem?_cons_succ, List.getElem?_cons_zero, Option.bind_some, ↓reduceIte, Nat.reduceLT, Nat.reduceEqDiff, Bool.not_true, decide_true, true_and, gl0, Try.sz83, Try.ag83]
          (repeat (refine ⟨by first | omega | (refine ⟨?_, ?_⟩ <;> omega) | trivial | (simp; done) | decide +kernel, fun _ => ?_⟩))
          refine DCall.of (Does.ret hκ.hP hκ.hgl (co) ⟨trivial, by simp [SV.bnd, SV.bndL], by first | (simp [SV.bnd, SV.bndL]; done) | assumption⟩ ?_)
          simp (disch := omega) only [sop, rOf, sLoadIn, sLoad, ev, evs, Env.get, Heap.get, takeN, cut, aggOf, setO, drawP_l, dnext, dl, slotR, ag, GF.ff, guardP, dstOK, loudP, again, again1, slotIs, R1OK, List.getElem?_toArray, List.getElem?_cons_succ, List.getElem?_cons_zero, Option.bind_some, ↓reduceIte, Nat.reduceLT, Nat.reduceEqDiff, true_and, and_self, Try.sz83, Try.ag83]
          refine DCall.of (Does.ret hκ.hP hκ.hgl (cm) ⟨trivial, by simp [SV.bnd, SV.bndL], by first | (simp [SV.bnd, SV.bndL]; done) | assumption⟩ ?_)
          simp (disch := omega) only [sop, rOf, sPick, sInt, sBin, ev, Env.get, setO, drawP_fin, drawP_q, dnext, dq, dqn, GF.ff, guardP, R1Q, dstOK, again, List.getElem?_toArray, List.getElem?_cons_succ, List.getElem?_cons_zero, Option.bind_some, ↓reduceIte, Nat.reduceLT, Nat.reduceEqDiff, decide_false, true_and, e9]
          refine hκ.run 300 ?_
          simp (disch := omega) only [exec_succ, runR_next, runR_fork_false, runR_call, stepS, runOp, condS, toSR, sop, rOf, sLoadIn, sLoad, ev, evs, Env.get, Heap.get, takeN, cut, aggOf, OutOK_call, List.size_toArray, List.length_cons, List.length_nil, List.range, List.range.loop, List.getElem?_toArray, List.getElem?_cons_succ, List.getElem?_cons_zero, ↓reduceIte, Nat.reduceAdd, Nat.reduceLT, Nat.reduceEqDiff, Nat.zero_add, gl0, Try.sz83, Try.ag83]
          refine Does.ret hκ.hP hκ.hgl (cap) ⟨trivial, by simp [SV.bnd, SV.bndL], by first | (simp [SV.bnd, SV.bndL]; done) | assumption⟩ ?_
          by_cases hae : ae = 0
          · subst hae
            refine hκ.run 300 ?_
            simp (disch := omega) only [exec_succ, runR_next, runR_guard_tt, runR_stop, stepS, runOp, guardS, toSR, sop, rOf, sPick, sInt, sBin, sExtract, ev, Env.get, setO, OutOK_stop, undefS, undef, List.size_toArray, List.length_cons, List.length_nil, List.range, List.range.loop, List.getElem?_toArray, List.getElem?_cons_succ, List.getElem?_cons_zero, Option.bind_some, ↓reduceIte, Nat.reduceAdd, Nat.reduceLT, Nat.reduceEqDiff, Nat.zero_add, Bool.not_true, decide_true, and_self, gl0]
            refine hκ.ret _ _ _ _ _ _ trivial rfl ?_
            exact retW true ab (fun _ => rfl) _ _
          · refine hκ.run 300 ?_
            simp (disch := omega) only [exec_succ, runR_next, runR_guard_ft, runR_stop, stepS, runOp, guardS, toSR, sop, rOf, sPick, sInt, sBin, sExtract, ev, Env.get, setO, OutOK_stop, undefS, undef, List.size_toArray, List.length_cons, List.length_nil, List.range, List.range.loop, List.getElem?_toArray, List.getElem?_cons_succ, List.getElem?_cons_zero, Option.bind_some, ↓reduceIte, Nat.reduceAdd, Nat.reduceLT, Nat.reduceEqDiff, Nat.zero_add, Bool.not_true, decide_false, and_self, gl0, hae]
            refine hκ.ret _ _ _ _ _ _ trivial rfl ?_
            exact retW true false (fun h => by cases h) _ _
end Go.Proofs.Ytbjhphjpdeblnaa
